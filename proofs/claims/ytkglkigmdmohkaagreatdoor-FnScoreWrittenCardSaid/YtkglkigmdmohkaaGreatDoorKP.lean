import Derived.WalkKit
import Derived.WalkSpells
import Derived.WalkLawsBesides
import Derived.Deep.RegionHeld3
import Derived.Deep.RegionLaw
import Derived.Deep.RegionWith
import Derived.Deep.DeepCutAuto
import Derived.Deep.LoopGhost
import Derived.Deep.QuietTactic
import Derived.BigQuiet
import Derived.Lib.Hide
import Derived.Handy
import Derived.Test.YtkglkigmdmohkaaGreatDoorRows
import Derived.ProofKit
import Derived.Deep.Slices
import Derived.ChangeOld
set_option linter.unusedSimpArgs false
set_option linter.unusedVariables false
namespace Go.Proofs.YtkglkigmdmohkaaGreatDoor
abbrev zbt := @Array.getElem?_eq_getElem
abbrev zaU := @Array.getElem?_eq_some_iff
abbrev zaN := @Array.getElem?_toList
abbrev zbd := @Array.length_toList
abbrev zj := @Bool.and_eq_true
abbrev zaV := @Bool.and_true
abbrev zbH := @Bool.eq_iff_iff
abbrev za7 := @Bool.false_eq_true
abbrev zbf := @Bool.false_or
abbrev zb2 := @Bool.not_eq_true'
abbrev zaI := @Bool.not_false
abbrev zn := @Bool.not_true
abbrev za1 := @Bool.or_eq_true
abbrev zaj := @Bool.true_and
abbrev zbV := @Bool.true_or
abbrev zbD := @Int.le_refl
abbrev zcd := @Int.lt_irrefl
abbrev zbo := @Int.natCast_mul
abbrev zbW := @Int.tdiv_eq_ediv_of_nonneg
abbrev zai := @Int.toNat_natCast
abbrev zbU := @Int.toNat_of_nonneg
abbrev za4 := @List.Pairwise.nil
abbrev zb7 := @List.all_cons
abbrev zax := @List.all_eq_true
abbrev zao := @List.append_assoc
abbrev zat := @List.append_nil
abbrev zbk := @List.cons_append
abbrev zan := @List.drop_eq_getElem_cons
abbrev zbw := @List.drop_eq_nil_of_le
abbrev zbp := @List.drop_length
abbrev zbQ := @List.drop_zero
abbrev zbj := @List.eq_nil_of_length_eq_zero
abbrev zbc := @List.ext_getElem?
abbrev za6 := @List.filter_append
abbrev za9 := @List.filter_cons
abbrev zbA := @List.find?_cons
abbrev zbM := @List.find?_eq_none
abbrev zbu := @List.flatMap_cons
abbrev zaX := @List.foldl_append
abbrev zaq := @List.foldl_cons
abbrev zbF := @List.getD_eq_getElem?_getD
abbrev zay := @List.getElem?_append_left
abbrev zaz := @List.getElem?_append_right
abbrev zcr := @List.getElem?_cons_succ
abbrev zaL := @List.getElem?_drop
abbrev zc := @List.getElem?_eq_getElem
abbrev zaM := @List.getElem?_eq_none
abbrev zh := @List.getElem?_eq_some_iff
abbrev zaF := @List.getElem?_map
abbrev zbm := @List.getElem?_set
abbrev zaH := @List.getElem?_take
abbrev zbB := @List.getElem?_zip_eq_some
abbrev zr := @List.getElem_mem
abbrev zam := @List.length_append
abbrev zi := @List.length_cons
abbrev zaQ := @List.length_drop
abbrev zbI := @List.length_eq_zero_iff
abbrev za3 := @List.length_filterMap_le
abbrev zbh := @List.length_filter_le
abbrev zar := @List.length_map
abbrev zac := @List.length_nil
abbrev zcs := @List.length_replicate
abbrev zbE := @List.length_singleton
abbrev zah := @List.length_take
abbrev zaK := @List.map_append
abbrev za0 := @List.map_congr_left
abbrev zv := @List.map_cons
abbrev zbO := @List.map_map
abbrev zck := @List.map_nil
abbrev zaB := @List.mem_append
abbrev zad := @List.mem_append_left
abbrev zaJ := @List.mem_append_right
abbrev zp := @List.mem_cons
abbrev zl := @List.mem_cons_of_mem
abbrev zy := @List.mem_cons_self
abbrev zaZ := @List.mem_filter
abbrev zbs := @List.mem_filterMap
abbrev zaT := @List.mem_flatMap
abbrev zav := @List.mem_iff_getElem
abbrev zbr := @List.mem_iff_getElem?
abbrev zab := @List.mem_map
abbrev zca := @List.mem_map_of_mem
abbrev zbe := @List.mem_of_find?_eq_some
abbrev zak := @List.mem_of_getElem?
abbrev zbP := @List.mem_of_mem_drop
abbrev zaP := @List.mem_of_mem_take
abbrev zaD := @List.mem_singleton
abbrev zaW := @List.nil_append
abbrev zbg := @List.nodup_cons
abbrev zas := @List.pairwise_cons
abbrev za2 := @List.pairwise_iff_getElem
abbrev zbb := @List.pairwise_map
abbrev zaR := @List.take_append_drop
abbrev zq := @List.take_length
abbrev zo := @List.take_succ_eq_append_getElem
abbrev zbv := @Nat.add_assoc
abbrev zaO := @Nat.add_mul
abbrev zbq := @Nat.add_sub_cancel
abbrev zbz := @Nat.add_zero
abbrev za5 := @Nat.div_le_self
abbrev zcj := @Nat.div_lt_iff_lt_mul
abbrev zby := @Nat.eq_of_beq_eq_true
abbrev zae := @Nat.le_refl
abbrev zau := @Nat.le_trans
abbrev zbi := @Nat.lt_of_lt_of_le
abbrev zbl := @Nat.lt_trichotomy
abbrev zct := @Nat.mod_lt
abbrev zbx := @Nat.mul_comm
abbrev zbX := @Nat.mul_le_mul
abbrev zag := @Nat.mul_le_mul_right
abbrev zaY := @Nat.zero_add
abbrev zaf := @Nat.zero_le
abbrev zaw := @Option.bind_eq_some_iff
abbrev za := @Option.bind_some
abbrev za8 := @Option.getD_some
abbrev zaA := @Option.map_eq_some_iff
abbrev zbn := @Option.map_some
abbrev zaa := @Option.ne_none_iff_exists'
abbrev zaE := @Option.some.injEq
abbrev ze := @cond_false
abbrev zg := @cond_true
abbrev zd := @decide_eq_false
abbrev zb := @decide_eq_true
abbrev zw := @decide_eq_true_eq
abbrev zu := @if_neg
abbrev zf := @if_pos
open Go.RowKit
abbrev Blk :=Nat->Prop
def Same (p:Blk) (w w':World):Prop:=∀b,p b->w'.heap[b]? =w.heap[b]?
structure Upd (p:Blk) (w w':World):Prop where
 os:w'.os=w.os
 tape:w'.tape=w.tape
 output:w'.output=w.output
 size:w.heap.size<=w'.heap.size
 block:∀k,k<w.heap.size->¬p k->w'.heap[k]? =w.heap[k]?
theorem Upd.refl (p:Blk) (w:World):Upd p w w:=⟨rfl,rfl,rfl,zae _,fun _ _ _=>rfl⟩
theorem Upd.of_below {p:Blk} {a b:World} (h:Below a.heap.size a b):Upd p a b:=⟨h.os,h.tape,h.output,h.size,fun k hk _=>h.block k hk⟩
theorem lt_of_cell {w:World} {b o:Nat} {v:Value} (h:w.cell? ⟨b,o,none⟩=some v):b<w.heap.size:=World.block_lt_of_cell? _ _ h
theorem lt_of_at {w:World} {b:Nat} {o:Obj} (h:w.heap[b]? =some o):b<w.heap.size:=(zaU.1 h).1
theorem bcell {W w1:World} (hb:Below W.heap.size W w1):(∀b o,b<W.heap.size->w1.cell? ⟨b,o,none⟩=W.cell? ⟨b,o,none⟩)/\(∀b o,b<W.heap.size->w1.frozen? ⟨b,o,none⟩=W.frozen? ⟨b,o,none⟩):=
 ⟨fun b o h=>hb.cell (p:=⟨b,o,none⟩) h,fun b o h=>hb.frozen (p:=⟨b,o,none⟩) h⟩
abbrev CRep (α:Type):=World->List Value->α->Blk->Prop
structure Good {α:Type} (m:Nat) (C:CRep α):Prop where
 len:∀ {w:World} {cs:List Value} {x:α} {p:Blk},C w cs x p->cs.length=m
 one:∀ {w:World} {cs:List Value} {x:α} {p:Blk},C w cs x p->∀u,u∈cs->u.oneCell'=true
 same:∀ {w w':World} {cs:List Value} {x:α} {p:Blk},C w cs x p->Same p w w'->C w' cs x p
 mono:∀ {w:World} {cs:List Value} {x:α} {p q:Blk},C w cs x p->(∀k,p k->q k)->C w cs x q
 bound:∀ {w:World} {cs:List Value} {x:α} {p:Blk},C w cs x p->C w cs x (fun k=>p k/\k<w.heap.size)
def SRep {α:Type} (m:Nat) (C:CRep α) (w:World) (v:Value) (xs:List α) (p:Blk):Prop:=
 ∃a cap,v= .slice a xs.length cap/\(xs.length<=9223372036854775807/\xs.length<=cap)/\∀i x,xs[i]? =some x->
  ∃b o cs,a=some ⟨b,o,none⟩/\p b/\b<w.heap.size/\cs.length=m/\(∀j c,cs[j]? =some c->w.cell? ⟨b,o+i*m+j,none⟩=some c)/\C w cs x p
def SOwn {α:Type} (m:Nat) (C:CRep α) (w:World) (v:Value) (xs:List α) (p:Blk):Prop:=
 ∃a cap,v= .slice a xs.length cap/\(xs.length<=9223372036854775807/\xs.length<=cap)/\(xs=[]\/ ∃b o,∃q:Nat->Blk,a=some ⟨b,o,none⟩/\p b/\b<w.heap.size/\(∀j,w.frozen? ⟨b,j,none⟩=false)/\
  (∀i,¬q i b)/\(∀i k,q i k->p k)/\(∀i j k,i≠j->q i k->¬q j k)/\∀i x,xs[i]? =some x->
   ∃cs,cs.length=m/\(∀j c,cs[j]? =some c->w.cell? ⟨b,o+i*m+j,none⟩=some c)/\C w cs x (q i))
section
variable {α : Type} {m : Nat} {C : CRep α} {w w' : World} {v : Value} {xs : List α} {p q : Blk}
theorem SRep.nil (w:World) (a:Option Addr) (cap:Nat) (p:Blk):SRep m C w (.slice a 0 cap) [] p:=⟨a,cap,rfl,by simp,fun i x h=>by simp at h⟩
end
section
variable {α : Type} {base e m : Nat} {C : CRep α} {w w' : World} {v v' : Value} {xs : List α} {p : Blk}
theorem flatten_at {β:Type}:∀(css:List (List β)) (m:Nat) (_:∀cs,cs∈css->cs.length=m) (i:Nat) (cs:List β),css[i]? =some cs->∀j c,cs[j]? =some c->css.flatten[i*m+j]? =some c
 | [],_,_,i,cs,h,_,_,_=>by simp at h
 |d::css,m,hm,0,cs,h,j,c,hc=>by
  simp at h;subst h
  have:=(zh.1 hc).1
  simp only[List.flatten_cons,Nat.zero_mul,zaY]
  rw[zay this];exact hc
 |d::css,m,hm,i+1,cs,h,j,c,hc=>by
  have hd:d.length=m:=hm d (by simp)
  have ih:=flatten_at css m (fun cs h=>hm cs (by simp[h])) i cs (by simpa using h) j c hc
  simp only[List.flatten_cons]
  rw[zaz (by rw[hd,zaO];omega),hd,show(i+1)*m+j-m=i*m+j from by rw[zaO];omega]
  exact ih
end
section
variable {P : Program} (w : World)
end
structure Leaf {α:Type} (C:CRep α):Prop where
 all:∀ {w:World} {cs:List Value} {x:α} {p:Blk},C w cs x p->∀(w':World) (q:Blk),C w' cs x q
section
variable {α : Type} {m : Nat} {C : CRep α} {w : World} {v : Value} {xs : List α} {p : Blk}
theorem add_at (b o j:Nat):(⟨b,o,none⟩:Addr).add j=⟨b,o+j,none⟩:=by unfold Addr.add;split<;>simp_all
theorem choose_list {β:Type} (f:Nat->β->Prop):∀n,(∀i,i<n->∃y,f i y)->∃l:List β,l.length=n/\∀i y,l[i]? =some y->f i y
 |0,_=>⟨[],rfl,fun i y h=>by simp at h⟩
 |n+1,h=>by
  obtain⟨l,hl,hf⟩:=choose_list f n (fun i hi=>h i (by omega))
  obtain⟨y,hy⟩:=h n (by omega)
  refine⟨l++ [y],by simp[hl],fun i z hz=>?_⟩
  rcases Nat.lt_or_ge i l.length with hi|hi
  .rw [zay hi]at hz;exact hf i z hz
  .rw [zaz hi]at hz
   have e:i-l.length=0:=by
    rcases Nat.eq_zero_or_pos (i-l.length)with h|h
    .exact h
    .rw [show i-l.length=(i-l.length-1)+1 from by omega]at hz;simp at hz
   rw[e]at hz;simp at hz;subst hz
   obtain rfl:i=n:=by omega
   exact hy
theorem flatten_len {β:Type}:∀(css:List (List β)) (m:Nat) (_:∀cs,cs∈css->cs.length=m),css.flatten.length=css.length*m
 | [],_,_=>by simp
 |d::css,m,hm=>by
  simp only[List.flatten_cons,zam,zi,zaO]
  rw[flatten_len css m (fun cs h=>hm cs (by simp[h])),hm d (by simp)];omega
end
section
variable {α : Type} {m : Nat} {C : CRep α} {w : World} {xs : List α} {p : Blk} {b o n cap : Nat}
end
structure Prog (b lo hi:Nat) (q:Blk) (W w:World):Prop where
 upd:Upd (fun k=>k=b\/q k) W w
 frozen:∀j,w.frozen? ⟨b,j,none⟩=W.frozen? ⟨b,j,none⟩
 far:∀j,(j<lo\/hi<=j)->w.cell? ⟨b,j,none⟩=W.cell? ⟨b,j,none⟩
structure El {α:Type} (m:Nat) (C:CRep α) (w:World) (v:Value) (xs:List α) (p:Blk) (i b o:Nat) (r:Blk):Prop where
 pb:p b
 lt:b<w.heap.size
 nofreeze:∀j,w.frozen? ⟨b,j,none⟩=false
 nb:¬r b
 sub:∀k,r k->p k/\k<w.heap.size
 put:∀(w':World) (cs':List Value) (x':α) (r':Blk),Prog b (o+i*m) (o+i*m+m) r w w'->(∀j c,cs'[j]? =some c->w'.cell? ⟨b,o+i*m+j,none⟩=some c)->C w' cs' x' r'->(∀k,r' k->p k/\(r k\/w.heap.size<=k))->SOwn m C w' v (xs.set i x') p
section
variable {α : Type} (mk : α -> Nat -> α) (cnt : α -> Nat)
end
section
variable {α : Type} (f : α -> Nat)
end
theorem len1 {β:Type} {l:List β} (h:l.length=1):∃c0,l=[c0]:=by
 match l,h with
 | [c0],_=>exact⟨c0,rfl⟩
theorem len2 {β:Type} {l:List β} (h:l.length=2):∃c0 c1,l=[c0,c1]:=by
 match l,h with
 | [c0,c1],_=>exact⟨c0,c1,rfl⟩
theorem ownKnob_none :ownKnob Tryz.prog.godebug=none:=by kernel_rfl
theorem laid_out :laidOutB Tryz.prog=true:=by kernel_rfl
section
variable {H : Type} {enc : TypeId × Value -> H} {P : Program} {w : World} {spare : Nat -> Bool} {held : Bool}
theorem read_slice {fuel:Nat} {t e:TypeId} {cs:List Value} {x:DataW H×List MemPlace} {α:Type} {m:Nat} {C:CRep α} (hm0:0<m) (ht:P.underlying t=some (.slice e)) (hm:P.cellsOf e=m)
  (hel:∀(n:Nat) (cs:List Value) (y:DataW H×List MemPlace),DataW.trod enc P w 0 spare held n e cs=some y->cs.length=m->∃d:α,C w cs d (fun _=>True))
  (h:DataW.trod enc P w 0 spare held fuel t cs=some x):∃v xs,cs=[v]/\SRep m C w v xs (fun _=>True):=by
 rcases DataW.trod_slice ht h with⟨rfl,_⟩|⟨a,len,cap,elems,rest,n,_,rfl,_,_,hl,hcm,hlen,he,_⟩
 .exact ⟨_,[],rfl,SRep.nil _ _ _ _⟩
 .rw [hm]at he
  obtain⟨xs,hxl,hx⟩:=choose_list (fun i (d:α)=>∃cs',w.cells? 0 (a.add (i*m)) m=some cs'/\C w cs' d (fun _=>True)) len (fun i hi=>by
   have h1:=he i hi
   rw[zc (by omega)]at h1
   obtain⟨cs',h2,h3⟩:=zaw.1 h1
   obtain⟨d,hd⟩:=hel n cs' _ h3 (World.cells?_some h2).2.1
   exact⟨d,cs',h2,hd⟩)
  refine⟨_,xs,rfl,some a,cap,by rw[hxl],by simp only[maxLen]at hcm;exact⟨by omega,by omega⟩,fun i d hd=>?_⟩
  obtain⟨cs',h1,h2⟩:=hx i d hd
  obtain⟨_,hn,hc⟩:=World.cells?_some h1
  have hsome:∀j c,cs'[j]? =some c->w.cell? (a.add (i*m+j))=some c:=by
   intro j c hj
   obtain⟨hj1,rfl⟩:=zh.1 hj
   rw[<-Addr.add_add]
   exact(hc j (by omega)).trans hj
  obtain⟨b,o,rfl⟩:∃b o,a=⟨b,o,none⟩:=by
   have hi:i<len:=by have:=(zh.1 hd).1;omega
   obtain⟨cs0,k1,_⟩:=hx 0 (xs[0]'(by omega)) (by simp)
   obtain⟨_,kn,kc⟩:=World.cells?_some k1
   have h0:=kc 0 hm0
   rw[zc (by omega),Addr.add_add]at h0
   obtain⟨b,o,sp⟩:=a
   cases sp with
   |none=>exact⟨b,o,rfl⟩
   |some sp=>
    exfalso
    simp only[World.cell?,Addr.add,Nat.zero_mul,zbz,if_true]at h0
    split at h0
    .simp at h0
    .cases h0
  have hb:b<w.heap.size:=by
   have h0:=hsome 0 (cs'[0]'(by omega)) (by simp)
   rw[add_at]at h0
   exact lt_of_cell h0
  exact⟨b,o,cs',rfl,trivial,hb,hn,fun j c hj=>by rw[zbv,<-add_at];exact hsome j c hj,h2⟩
end
inductive DQ where
 |mk (kind:Int) (field:List UInt8) (words:List (List UInt8)) (from' to':Int) (kids:List DQ)
inductive Tp where
 |bool
 |int (k:IntKind)
 |str
 |unit
 |pair (a b:Tp)
 |sl (r:Tp)
 |opt (r:Tp)
 |q
 deriving DecidableEq
@[reducible] def Tp.D : Tp -> Type
 | .bool=>Bool
 | .int _=>Int
 | .str=>List UInt8
 | .unit=>Unit
 | .pair a b=>a.D×b.D
 | .sl r=>List r.D
 | .opt r=>Option r.D
 | .q=>DQ
def Tp.w :Tp->Nat
 | .unit=>0
 | .pair a b=>a.w+b.w
 | .q=>6
 |_=>1
def Tp.flatB :Tp->Bool
 | .pair a b=>a.flatB&&b.flatB
 | .sl _=>false
 | .opt _=>false
 | .q=>false
 |_=>true
inductive PV where
 |bool (b:Bool)
 |int (k:IntKind) (n:Int)
 |str (s:ByteArray)
 |sl (rows:List (List PV))
 |opt (row:Option (List PV))
def PV.flat :PV->Prop
 | .sl rows=>rows=[]
 | .opt _=>False
 |_=>True
def bytes (l:List UInt8):ByteArray:=⟨l.toArray⟩
mutual
def encQ :DQ->List PV
 | .mk k f ws a b kids=>[.int .i64 k,.str (bytes f),.sl (ws.map fun w=>[.str (bytes w)]),.int .i64 a,.int .i64 b,.sl (encQs kids)]
def encQs :List DQ->List (List PV)
 | []=>[]
 |x::xs=>encQ x::encQs xs
end
def enc :(t:Tp)->t.D->List PV
 | .bool,b=>[.bool b]
 | .int k,n=>[.int k n]
 | .str,s=>[.str (bytes s)]
 | .unit,_=>[]
 | .pair a b,x=>enc a x.1++enc b x.2
 | .sl r,xs=>[.sl (xs.map (enc r))]
 | .opt r,x=>[.opt (x.map (enc r))]
 | .q,x=>encQ x
def Tp.eqB :(t:Tp)->t.D->t.D->Bool
 | .bool,a,b=>a==b
 | .int _,a,b=>decide (a=b)
 | .str,a,b=>decide (a=b)
 | .unit,_,_=>true
 | .pair a b,x,y=>a.eqB x.1 y.1&&b.eqB x.2 y.2
 | .sl _,_,_=>false
 | .opt _,_,_=>false
 | .q,_,_=>false
def PV.isLit :PV->Bool
 | .sl _=>false
 | .opt _=>false
 |_=>true
def litOf :PV->Value
 | .bool b=>.bool b
 | .int k n=>.int k n
 | .str s=>.string s
 |_=>undef
inductive AV where
 |dead
 |pv (t:Tp) (x:t.D)
 |nils
 |nilp
 |agg (cs:List AV)
 |tup (cs:List AV)
 |box (k o:Nat)
 |ptr (t:Tp) (x:t.D) (o:Nat)
 |own (n:Nat) (t:Tp) (xs:List t.D)
 |mtk (n:Nat)
 |mptr (n i o:Nat)
 |gmap (g:Nat)
 |clo (f:FuncId) (cs:List AV)
 |sub (n l h:Nat)
inductive GF where
 |row (t:Tp) (x:t.D)
 |map (kt vt:Tp) (agg:Bool) (es:List (kt.D×vt.D))
 |tab (k:IntKind) (zs:List Int)
 |cell (p:Value->Prop)
def DQ.kind :DQ->Int
 | .mk k _ _ _ _ _=>k
def DQ.field :DQ->List UInt8
 | .mk _ f _ _ _ _=>f
def DQ.words :DQ->List (List UInt8)
 | .mk _ _ ws _ _ _=>ws
def DQ.lo :DQ->Int
 | .mk _ _ _ a _ _=>a
def DQ.hi :DQ->Int
 | .mk _ _ _ _ b _=>b
def DQ.kids :DQ->List DQ
 | .mk _ _ _ _ _ l=>l
def cellsQ (x:DQ):List AV:=[.pv (.int .i64) x.kind,.pv .str x.field,.pv (.sl .str) x.words,.pv (.int .i64) x.lo,.pv (.int .i64) x.hi,.pv (.sl .q) x.kids]
def cellsOf :(t:Tp)->t.D->List AV
 | .unit,_=>[]
 | .pair a b,x=>cellsOf a x.1++cellsOf b x.2
 | .q,x=>cellsQ x
 | .bool,x=>[.pv .bool x]
 | .int k,x=>[.pv (.int k) x]
 | .str,x=>[.pv .str x]
 | .sl r,x=>[.pv (.sl r) x]
 | .opt r,x=>[.pv (.opt r) x]
def AV.as (t:Tp):AV->Option t.D
 | .pv t' x=>if h:t'=t then some (h▸x)else none
 | .own _ r xs=>if h:Tp.sl r=t then some (h▸(show(Tp.sl r).D from xs))else none
 | .nils=>match t with
  | .sl r=>some ([]:List r.D)
  |_=>none
 | .nilp=>match t with
  | .opt r=>some (none:Option r.D)
  |_=>none
 | .ptr r x o=>if h:Tp.opt r=t/\o=0 then some (h.1▸(show(Tp.opt r).D from some x))else none
 |_=>none
def mkQ :List AV->Option DQ
 | [k,f,ws,a,b,kids]=>match k.as (.int .i64),f.as .str,ws.as (.sl .str),a.as (.int .i64),b.as (.int .i64),kids.as (.sl .q)with
  |some k,some f,some ws,some a,some b,some kids=>some (.mk k f ws a b kids)
  |_,_,_,_,_,_=>none
 |_=>none
def one (t:Tp):List AV->Option t.D
 | [c]=>c.as t
 |_=>none
def mkRow :(t:Tp)->List AV->Option t.D
 | .unit,cs=>match cs with
  | []=>some ()
  |_=>none
 | .pair a b,cs=>match mkRow a (cs.take a.w),mkRow b (cs.drop a.w)with
  |some x,some y=>some (x,y)
  |_,_=>none
 | .q,cs=>mkQ cs
 | .bool,cs=>one .bool cs
 | .int k,cs=>one (.int k) cs
 | .str,cs=>one .str cs
 | .sl r,cs=>one (.sl r) cs
 | .opt r,cs=>one (.opt r) cs
def gone :Nat:=4000000000
structure Tok where
 t:Tp
 xs:List t.D
 e:TypeId
 wr:Bool
 deep:Bool
 tr:Option (List (Nat×Nat×Nat))
def Tok.fz0 (tk:Tok):Tok:={tk with wr:=false,tr:=none}
def Tok.whole (tk:Tok):Bool:=match tk.tr with
 |none=>true
 |some []=>true
 |_=>false
def Tok.fz (tk:Tok):Tok:=bif tk.whole then tk.fz0 else tk
theorem Tok.fz_eq {tk:Tok} (h:tk.whole=true):tk.fz=tk.fz0:=by unfold Tok.fz;rw[h];rfl
theorem Tok.fz_t (tk:Tok):tk.fz.t=tk.t:=by unfold Tok.fz;cases tk.whole<;>rfl
theorem Tok.fz_e (tk:Tok):tk.fz.e=tk.e:=by unfold Tok.fz;cases tk.whole<;>rfl
theorem Tok.fz_deep (tk:Tok):tk.fz.deep=tk.deep:=by unfold Tok.fz;cases tk.whole<;>rfl
theorem Tok.fz_row (tk:Tok):(⟨tk.fz.t,tk.fz.xs⟩:(t:Tp)×List t.D)=⟨tk.t,tk.xs⟩:=by unfold Tok.fz;cases tk.whole<;>rfl
theorem Tok.whole_nil {tk:Tok} (h:tk.whole=true) {hs:List (Nat×Nat×Nat)} (ht:tk.tr=some hs):hs=[]:=by
 unfold Tok.whole at h
 rw[ht]at h
 cases hs with
 |nil=>rfl
 |cons _ _=>cases h
inductive TS where
 |spent
 |live (tk:Tok)
structure BS where
 fz:Bool
 cs:List AV
structure Eff where
 val:AV
 box:List (Nat×BS)
 tok:List (Nat×Option TS)
structure FP where
 rb:List Nat
 wb:List Nat
 rt:List Nat
 wt:List Nat
def mapName (k:Nat):Bool:=Nat.ble 1000000000 k
def kindN (k:Nat):Nat:=bif Nat.ble 3000000000 k then k-2999999997 else bif Nat.ble 2000000000 k then 2 else bif Nat.ble 1000000000 k then 1 else 0
theorem kindN_git (g:Nat):kindN (3000000000+g)=g+3:=by
 have h:Nat.ble 3000000000 (3000000000+g)=true:=Nat.ble_eq_true_of_le (Nat.le_add_right _ _)
 unfold kindN
 rw[h,zg]
 omega
theorem kindN_big {k:Nat} (h:3000000000<=k):1000000000<=k/\k-2999999997≠0:=by omega
theorem kindN_0 {k:Nat}:mapName k=false↔kindN k=0:=by
 unfold mapName kindN
 cases h3:Nat.ble 3000000000 k with
 |true=>
  obtain⟨h1,h2⟩:=kindN_big (Nat.le_of_ble_eq_true h3)
  rw[Nat.ble_eq_true_of_le h1,zg]
  exact⟨fun h=>(by cases h),fun h=>absurd h h2⟩
 |false=>
 cases h:Nat.ble 1000000000 k with
 |false=>
  cases h2:Nat.ble 2000000000 k with
  |false=>simp
  |true=>simp only[Nat.ble_eq]at h2;rw[<-Bool.not_eq_true,Nat.ble_eq]at h;omega
 |true=>cases Nat.ble 2000000000 k<;>simp
theorem kindN_map {k k':Nat} (h:kindN k=kindN k'):mapName k=mapName k':=by
 cases h1:mapName k with
 |false=>exact(kindN_0.2 (h▸kindN_0.1 h1)).symm
 |true=>cases h2:mapName k' with
  |true=>rfl
  |false=>rw[kindN_0.2 (h▸kindN_0.1 h2)]at h1;cases h1
def leftI (n m:Nat):List Nat:=(List.range n).filter fun i=> !m.testBit i
noncomputable def anyOf {ρ:Type} (xs:List Nat) (F:Nat->Option ρ):Option ρ:=open Classical in if h:xs≠ []/\∃r,∀i,i∈xs->F i=some r then some (Classical.choose h.2)else none
theorem anyOf_mem {ρ:Type} {xs:List Nat} {F:Nat->Option ρ} {r:ρ} (h:anyOf xs F=some r):∀i,i∈xs->F i=some r:=by
 unfold anyOf at h
 split at h
 .rename_i hh
  cases h
  exact Classical.choose_spec hh.2
 .cases h
theorem anyOf_some {ρ:Type} {xs:List Nat} {F:Nat->Option ρ} {r:ρ} (hx:xs≠ []) (h:∀i,i∈xs->F i=some r):anyOf xs F=some r:=by
 unfold anyOf
 have hh:xs≠ []/\∃r,∀i,i∈xs->F i=some r:=⟨hx,r,h⟩
 rw[dif_pos hh]
 obtain⟨x,hx'⟩:=List.exists_mem_of_ne_nil _ hx
 have:=Classical.choose_spec hh.2 x hx'
 rw[h x hx']at this
 exact this.symm
def getA :List AV->Nat->AV
 | [],_=>.dead
 |x::_,0=>x
 |_::l,n+1=>getA l n
def setA :List AV->Nat->AV->List AV
 | [],_,_=>[]
 |_::l,0,v=>v::l
 |x::l,n+1,v=>x::setA l n v
def lookB :List (Nat×BS)->Nat->Option BS
 | [],_=>none
 |(k,b)::l,j=>if j=k then some b else lookB l j
def setB :List (Nat×BS)->Nat->BS->List (Nat×BS)
 | [],k,b=>[(k,b)]
 |(j,c)::l,k,b=>if j=k then(k,b)::l else(j,c)::setB l k b
def lookT :List (Nat×Option TS)->Nat->Option TS
 | [],_=>none
 |(k,x)::l,j=>if j=k then x else lookT l j
def setT :List (Nat×Option TS)->Nat->Option TS->List (Nat×Option TS)
 | [],k,x=>[(k,x)]
 |(j,y)::l,k,x=>if j=k then(k,x)::l else(j,y)::setT l k x
structure LSt where
 L:List AV
 B:List (Nat×BS)
 T:List (Nat×Option TS)
def LSt.app (s:LSt) (d:Option Nat) (e:Eff):LSt:=
 ⟨match d with|some d=>setA s.L d e.val|none=>s.L,e.box.foldl (fun B x=>setB B x.1 x.2) s.B,e.tok.foldl (fun T x=>setT T x.1 x.2) s.T⟩
end Go.Proofs.YtkglkigmdmohkaaGreatDoor
namespace Go.Proofs.YtkglkigmdmohkaaGreatDoor
def isIntV (v:Value):Prop:=∃m,v= .int .i64 m
def isErrV (v:Value):Prop:=v= .nilIface\/ ∃te pe,v= .iface te pe
def gm_shapes :List (Int×(Bool×Int×Int×Int×Int×Bool×Int×Int)):=[((1:Int),(false,(0:Int),(0:Int),(0:Int),(0:Int),false,(0:Int),(0:Int))),((2:Int),(true,(1:Int),(1:Int),(0:Int),(0:Int),false,(0:Int),(0:Int))),((3:Int),(true,(2:Int),(4:Int),(0:Int),(5:Int),false,(0:Int),(0:Int))),((4:Int),(true,(1:Int),(1:Int),(1:Int),(2:Int),false,(0:Int),(0:Int))),((5:Int),(true,(1:Int),(1:Int),(0:Int),(0:Int),false,(0:Int),(0:Int))),((6:Int),(true,(0:Int),(0:Int),(0:Int),(999999999:Int),true,(0:Int),(0:Int))),((7:Int),(false,(0:Int),(0:Int),(0:Int),(0:Int),false,(2:Int),(4:Int))),((8:Int),(false,(0:Int),(0:Int),(0:Int),(0:Int),false,(2:Int),(4:Int))),((9:Int),(false,(0:Int),(0:Int),(0:Int),(0:Int),false,(2:Int),(2:Int))),((10:Int),(false,(0:Int),(0:Int),(2:Int),(9:Int),false,(1:Int),(1:Int)))]
def gm_opNames :List (Int×List UInt8):=[((7:Int),([97,110,100]:List UInt8)),((8:Int),([111,114]:List UInt8)),((9:Int),([108,101,115,115]:List UInt8)),((10:Int),([116,105,109,101,115]:List UInt8))]
def gtab :List (Nat×GF):=[
 (2,.row (.pair (.int .i64) (.int .i64)) ((0:Int),(1:Int))),
 (1,.map (.int .i64) (.pair .bool (.pair (.int .i64) (.pair (.int .i64) (.pair (.int .i64) (.pair (.int .i64) (.pair .bool (.pair (.int .i64) (.int .i64)))))))) true gm_shapes),
 (0,.map (.int .i64) .str false gm_opNames),
 (6,.tab .u64 [1,10,100,1000,10000,100000,1000000,10000000,100000000,1000000000,10000000000,100000000000,1000000000000,10000000000000,100000000000000,1000000000000000,10000000000000000,100000000000000000,1000000000000000000,10000000000000000000]),
 (3,.cell isIntV),
 (4,.cell isErrV),
 (5,.cell isErrV),
 ]
end Go.Proofs.YtkglkigmdmohkaaGreatDoor
namespace Go.Proofs.YtkglkigmdmohkaaGreatDoor
open Go.RowKit
structure Ty where
 agg:Bool
 size:Nat
 zero:List AV
 elem:Option (TypeId×Tp×Nat)
 offs:List (Nat×Nat)
 str:Bool
 bool:Bool
 int:Option IntKind
 eqs:Option Tp
 mp:Option (TypeId×TypeId×Tp×Tp)
 ptr:Bool
 fts:List (TypeId×Nat)
 gm:Option (TypeId×TypeId×Tp×Tp×Bool)
inductive VS where
 |dead
 |pv (t:Tp)
 |nils
 |nilp
 |box (k o:Nat)
 |ptr (t:Tp)
 |own (n:Nat) (t:Tp) (e:TypeId) (deep:Bool)
 |mtk (n:Nat) (t:Tp) (e:TypeId) (deep:Bool)
 |tre (n:Nat) (t:Tp) (e:TypeId)
 |trk (n:Nat) (t:Tp) (e:TypeId)
 |agg (l:List VS)
 |tup (l:List VS)
 |clo (f:FuncId) (l:List VS)
structure Sh where
 vals:List VS
 boxes:List (Nat×Bool×List VS)
def prodT :List Tp->Tp
 | []=>.unit
 | [t]=>t
 |t::u::l=>.pair t (prodT (u::l))
mutual
def VS.codes :VS->List Tp
 | .pv t=>[t]
 | .ptr t=>[t]
 | .own _ t _ _=>[.sl t]
 | .mtk _ t _ _=>[.sl t]
 | .tre _ t _=>[.sl t]
 | .trk _ t _=>[.pair (.sl t) (.int .i64)]
 | .agg l=>VS.codesL l
 | .tup l=>VS.codesL l
 | .clo _ l=>[prodT (VS.codesL l)]
 |_=>[]
def VS.codesL :List VS->List Tp
 | []=>[]
 |v::l=>v.codes++VS.codesL l
end
def boxCodes :List (Nat×Bool×List VS)->List Tp
 | []=>[]
 |b::l=>VS.codesL b.2.2++boxCodes l
def Sh.codes (s:Sh):List Tp:=VS.codesL s.vals++boxCodes s.boxes
@[reducible] def HD : List Tp -> Type
 | []=>Unit
 | [t]=>t.D
 |t::u::l=>t.D×HD (u::l)
abbrev Pay :=(t:Tp)×t.D
def unpack :(l:List Tp)->HD l->List Pay
 | [],_=>[]
 | [t],x=>[⟨t,x⟩]
 |t::u::l,x=>⟨t,x.1⟩::unpack (u::l) x.2
def pack :(l:List Tp)->List Pay->Option (HD l)
 | [],ps=>match ps with
  | []=>some ()
  |_=>none
 | [t],ps=>match ps with
  | [p]=>if h:p.1=t then some (h▸p.2)else none
  |_=>none
 |t::u::l,ps=>match ps with
  |p::ps=>if h:p.1=t then match pack (u::l) ps with
    |some y=>some (h▸p.2,y)
    |none=>none
   else none
  | []=>none
def packP :List Pay->Pay
 | []=>⟨.unit,()⟩
 | [p]=>p
 |p::q::l=>⟨.pair p.1 (packP (q::l)).1,(p.2,(packP (q::l)).2)⟩
def unpackP :Nat->Pay->List Pay
 |0,_=>[]
 |1,p=>[p]
 |n+2,⟨.pair a b,x⟩=>⟨a,x.1⟩::unpackP (n+1) ⟨b,x.2⟩
 |_+2,_=>[]
theorem unpack_pack :∀l:List Pay,unpackP l.length (packP l)=l
 | []=>rfl
 | [p]=>rfl
 |p::q::l=>by
  show(⟨p.1,p.2⟩:Pay)::unpackP (l.length+1) (packP (q::l))=_
  rw[show l.length+1=(q::l).length from rfl,unpack_pack (q::l)]
def kOf :Option (List (Nat×Nat×Nat))->Option Nat
 |some [(k,m,d)]=>if m=gone/\d=gone then some k else none
 |_=>none
structure Acc where
 ps:List Pay
 rt:List (Nat×Option Nat)
 rb:List (Nat×Nat)
 fb:List Nat
 ft:List Nat
 mt:List Nat
 ub:List Nat
def lookR {α:Type}:List (Nat×α)->Nat->Option α
 | [],_=>none
 |(k,x)::l,j=>if j=k then some x else lookR l j
section
variable (B : List (Nat × BS)) (T : List (Nat × Option TS))
def bindBox (a:Acc) (k k':Nat):Option Acc:=match lookR a.rb k with
 |some j=>if j=k' then some a else none
 |none=>if a.rb.any (fun x=>x.2==k')then none else some {a with rb:=a.rb++ [(k,k')]}
def bindTok (a:Acc) (n:Nat) (n':Option Nat) (p:Pay):Option Acc:=match lookR a.rt n with
 |some _=>none
 |none=>if n'.isSome&&a.rt.any (fun x=>x.2==n')then none else some {a with rt:=a.rt++ [(n,n')],ps:=a.ps++ [p]}
mutual
def conv :VS->AV->Acc->Option Acc
 | .dead,_,a=>some a
 | .pv t,x,a=>match x with
  | .mtk n=>match lookT T n with
   |some (.live tk)=>if Tp.sl tk.t=t/\tk.whole=true then some {a with ps:=a.ps++ [⟨.sl tk.t,tk.xs⟩],ft:=a.ft++ [n]}else none
   |_=>none
  |x=>match x.as t with
   |some y=>some {a with ps:=a.ps++ [⟨t,y⟩]}
   |none=>none
 | .nils,x,a=>match x with
  | .nils=>some a
  |_=>none
 | .nilp,x,a=>match x with
  | .nilp=>some a
  |_=>none
 | .box k o,x,a=>match x with
  | .box k' o'=>if o'=o then bindBox a k k' else none
  |_=>none
 | .ptr t,x,a=>match x with
  | .ptr t' y o=>match mkRow t (((cellsOf t' y).drop o).take t.w)with
   |some z=>some {a with ps:=a.ps++ [⟨t,z⟩]}
   |none=>none
  | .box k o=>match lookB B k with
   |some b=>match mkRow t ((b.cs.drop o).take t.w)with
    |some z=>some {a with ps:=a.ps++ [⟨t,z⟩],fb:=a.fb++ [k]}
    |none=>none
   |none=>none
  |_=>none
 | .own n t e deep,x,a=>match x with
  | .own n' t' xs=>match lookT T n' with
   |some (.live tk)=>if t'=t/\tk.e=e/\(deep=true->tk.deep=true)then bindTok a n (some n') ⟨.sl t',xs⟩else none
   |_=>none
  | .mtk n'=>match lookT T n' with
   |some (.live tk)=>if tk.t=t/\tk.e=e/\(deep=true->tk.deep=true)/\tk.whole=true then(bindTok a n (some n') ⟨.sl tk.t,tk.xs⟩).map fun a=>{a with ft:=a.ft++ [n']}else none
   |_=>none
  | .nils=>bindTok a n none ⟨.sl t,[]⟩
  |_=>none
 | .mtk n t e deep,x,a=>match x with
  | .mtk n'=>match lookT T n' with
   |some (.live tk)=>if tk.t=t/\tk.e=e/\tk.wr=true/\(deep=true->tk.deep=true)/\tk.tr=none then(bindTok a n (some n') ⟨.sl tk.t,tk.xs⟩).map fun a=>{a with mt:=a.mt++ [n']}else none
   |_=>none
  | .nils=>bindTok a n none ⟨.sl t,[]⟩
  |_=>none
 | .tre n t e,x,a=>match x with
  | .mtk n'=>match lookT T n' with
   |some (.live tk)=>if tk.t=t/\tk.e=e/\tk.tr=some []then(bindTok a n (some n') ⟨.sl tk.t,tk.xs⟩).map fun a=>{a with mt:=a.mt++ [n']}else none
   |_=>none
  | .nils=>bindTok a n none ⟨.sl t,[]⟩
  |_=>none
 | .trk n t e,x,a=>match x with
  | .mtk n'=>match lookT T n' with
   |some (.live tk)=>match kOf tk.tr with
    |some k=>if tk.t=t/\tk.e=e then(bindTok a n (some n') ⟨.pair (.sl tk.t) (.int .i64),((tk.xs,(k:Int)):List tk.t.D×Int)⟩).map fun a=>{a with mt:=a.mt++ [n']}else none
    |none=>none
   |_=>none
  |_=>none
 | .agg l,x,a=>match x with
  | .agg cs=>convL l cs a
  |_=>none
 | .tup l,x,a=>match x with
  | .tup cs=>convL l cs a
  |_=>none
 | .clo f l,x,a=>match x with
  | .clo g cs=>if g=f then(match convL l cs {a with ps:=[]}with
   |some a'=>if a'.ps.length=(VS.codesL l).length then some {a' with ps:=a.ps++ [packP a'.ps]}else none
   |none=>none)else none
  |_=>none
def convL :List VS->List AV->Acc->Option Acc
 | [],[],a=>some a
 |v::l,x::xs,a=>(conv v x a).bind fun a=>convL l xs a
 |_,_,_=>none
end
def convB :List (Nat×Bool×List VS)->Acc->Option Acc
 | [],a=>some a
 |(k,fz,vs)::l,a=>
  let k':=(lookR a.rb k).getD k
  match lookB B k' with
  |some b=>if b.fz=true->fz=true then(bindBox a k k').bind fun a=>(convL B T vs b.cs {a with fb:=if fz then a.fb++ [k']else a.fb,ub:=if fz then a.ub else a.ub++ [k']}).bind fun a=>convB l a else none
  |none=>none
def accOk (s:Sh) (a:Acc):Bool:=a.mt.all (fun n=> !a.ft.contains n)&&a.ub.all (fun k=> !a.fb.contains k)&&a.rb.all (fun x=>s.boxes.any fun b=>b.1==x.1)&&a.rb.all (fun x=>kindN x.1==kindN x.2)&&a.fb.all (fun k=> !mapName k)
def Sh.conv (s:Sh) (xs:List AV):Option (HD s.codes×Acc):=
 (convL B T s.vals xs ⟨[],[],[],[],[],[],[]⟩).bind fun a=>(convB B T s.boxes a).bind fun a=>if accOk s a then(pack s.codes a.ps).map fun y=>(y,a)else none
end
mutual
def inst :VS->List Pay->AV×List Pay×List (Nat×Option TS)
 | .dead,ps=>(.dead,ps,[])
 | .pv t,ps=>match ps with
  |p::ps=>(.pv p.1 p.2,ps,[])
  | []=>(.dead,[],[])
 | .nils,ps=>(.nils,ps,[])
 | .nilp,ps=>(.nilp,ps,[])
 | .box k o,ps=>(.box k o,ps,[])
 | .ptr t,ps=>match ps with
  |p::ps=>(.ptr p.1 p.2 0,ps,[])
  | []=>(.dead,[],[])
 | .own n t e deep,ps=>match ps with
  |⟨.sl r,xs⟩::ps=>(.own n r xs,ps,[(n,some (.live ⟨r,xs,e,false,deep,none⟩))])
  |_=>(.dead,[],[])
 | .mtk n t e deep,ps=>match ps with
  |⟨.sl r,xs⟩::ps=>(.mtk n,ps,[(n,some (.live ⟨r,xs,e,true,deep,none⟩))])
  |_=>(.dead,[],[])
 | .tre n t e,ps=>match ps with
  |⟨.sl r,xs⟩::ps=>(.mtk n,ps,[(n,some (.live ⟨r,xs,e,true,true,some []⟩))])
  |_=>(.dead,[],[])
 | .trk n t e,ps=>match ps with
  |⟨.pair (.sl r) (.int .i64),x⟩::ps=>(.mtk n,ps,[(n,some (.live ⟨r,x.1,e,true,true,some [(Int.toNat x.2,gone,gone)]⟩))])
  |_=>(.dead,[],[])
 | .agg l,ps=>match instL l ps with
  |(xs,ps,ts)=>(.agg xs,ps,ts)
 | .tup l,ps=>match instL l ps with
  |(xs,ps,ts)=>(.tup xs,ps,ts)
 | .clo f l,ps=>match ps with
  |p::ps=>match instL l (unpackP (VS.codesL l).length p)with
   |(xs,_,ts)=>(.clo f xs,ps,ts)
  | []=>(.dead,[],[])
def instL :List VS->List Pay->List AV×List Pay×List (Nat×Option TS)
 | [],ps=>([],ps,[])
 |v::l,ps=>match inst v ps with
  |(x,ps,ts)=>match instL l ps with
   |(xs,ps,us)=>(x::xs,ps,ts++us)
end
def instB :List (Nat×Bool×List VS)->List Pay->List (Nat×BS)×List (Nat×Option TS)
 | [],_=>([],[])
 |(k,fz,vs)::l,ps=>match instL vs ps with
  |(xs,ps,ts)=>match instB l ps with
   |(bs,us)=>((k,⟨fz,xs⟩)::bs,ts++us)
def Sh.mk' (s:Sh) (y:HD s.codes):LSt:=match instL s.vals (unpack s.codes y)with
 |(xs,ps,ts)=>match instB s.boxes ps with
  |(bs,us)=>⟨xs,bs,ts++us⟩
structure Model where
 arg:Sh
 ret:Sh
 run:HD arg.codes->Option (HD ret.codes)
structure Env where
 P:Program
 ty:TypeId->Option Ty
 fn:FuncId->List Model
 wr:Nat->Bool
 res:Nat->Bool
 dw:Nat->Bool
inductive RD :Type 1 where
 |ret (e:Eff)
 |box (k:Nat) (f:Option BS->RD)
 |tok (t:Nat) (f:Option TS->RD)
 |need (p:Prop) (d:Decidable p) (f:RD)
 |get {α:Type} (o:Option α) (f:α->RD)
 |br (b:Bool) (f g:RD)
 |fail
def Eff.boxes (e:Eff):List Nat:=e.box.map (·.1)
def Eff.toks (e:Eff):List Nat:=e.tok.map (·.1)
def RD.run {ρ:Type}:RD->LSt->List Nat->List Nat->(Eff->FP->Option ρ)->Option ρ
 | .ret e,_,rb,rt,K=>K e ⟨rb,e.boxes,rt,e.toks⟩
 | .box k f,s,rb,rt,K=>(f (lookB s.B k)).run s (k::rb) rt K
 | .tok t f,s,rb,rt,K=>(f (lookT s.T t)).run s rb (t::rt) K
 | .need p d f,s,rb,rt,K=> @ite _ p d (f.run s rb rt K) none
 | .get o f,s,rb,rt,K=>o.bind fun x=>(f x).run s rb rt K
 | .br b f g,s,rb,rt,K=>match b with
  |true=>f.run s rb rt K
  |false=>g.run s rb rt K
 | .fail,_,_,_,_=>none
def RD.val (x:AV):RD:=.ret ⟨x,[],[]⟩
def fits (n:Int):Prop:=-9223372036854775808<=n/\n<=9223372036854775807
instance (n:Int):Decidable (fits n):=inferInstanceAs (Decidable (_/\_))
abbrev need (p:Prop) [d:Decidable p] (f:RD):RD:=.need p d f
def room (n m b:Nat):Prop:=(n+m)*b<=140737488355328/\n+m<=9223372036854775807
instance (n m b:Nat):Decidable (room n m b):=inferInstanceAs (Decidable (_/\_))
def idx {α:Type} (xs:List α) (i:Int):Option α:=if 0<=i then xs[i.toNat]? else none
def cut {α:Type} (xs:List α) (l h:Int):Option (List α):=if 0<=l/\l<=h/\h<=xs.length then some ((xs.take h.toNat).drop l.toNat)else none
def AV.cells? :AV->Option (List AV)
 | .dead=>none
 | .tup _=>none
 | .agg cs=>some cs
 |x=>some [x]
def AV.leaf :AV->Bool
 | .agg _=>false
 | .tup _=>false
 | .clo _ _=>false
 |_=>true
def constAV :Value->AV
 | .bool b=>.pv .bool b
 | .int k n=>.pv (.int k) n
 | .string s=>.pv .str s.data.toList
 | .slice none 0 0=>.nils
 | .pointer none=>.nilp
 |_=>.dead
def LSt.ev (s:LSt):Operand->AV
 | .tmp t=>getA s.L t
 | .const v=>constAV v
 | .global _=>.dead
 | .func f=>.clo f []
def fillA (offs:List (Nat×Nat)):List AV->List (Nat×AV)->Option (List AV)
 |cells,[]=>some cells
 |cells,(i,x)::rest=>
  match offs[i]?,x.cells? with
  |some (off,size),some cs=>if cs.length=size/\off+size<=cells.length then fillA offs (cells.take off++cs++cells.drop (off+size)) rest else none
  |_,_=>none
def arithRD (k:IntKind) (n:Int):RD:=
 match k with
 | .i64=>need (fits n) (.val (.pv (.int .i64) n))
 |k=>.val (.pv (.int k) (k.wrap n))
def bitsI (op:BinOp) (k:IntKind) (x y:Int):Int:=
 let a:=BitVec.ofInt k.bits x
 let b:=BitVec.ofInt k.bits y
 match op with
 | .and=>k.wrap (a&&&b).toNat
 | .or=>k.wrap (a|||b).toNat
 | .xor=>k.wrap (a^^^b).toNat
 |_=>k.wrap (a&&& ~~~b).toNat
def binInt (op:BinOp) (k:IntKind) (a b:Int):RD:=
 match op with
 | .shl=>need (0<=b) (arithRD k (a*2^(min b.toNat k.bits)))
 | .shr=>need (0<=b) (.val (.pv (.int k) (a.fdiv (2^(min b.toNat k.bits)))))
 | .add=>arithRD k (a+b)
 | .sub=>arithRD k (a-b)
 | .mul=>arithRD k (a*b)
 | .quo=>need (b≠0) (arithRD k (a.tdiv b))
 | .rem=>need (b≠0) (.val (.pv (.int k) (a.tmod b)))
 | .and=>.val (.pv (.int k) (bitsI .and k a b))
 | .or=>.val (.pv (.int k) (bitsI .or k a b))
 | .xor=>.val (.pv (.int k) (bitsI .xor k a b))
 | .andNot=>.val (.pv (.int k) (bitsI .andNot k a b))
 | .eql=>.val (.pv .bool (decide (a=b)))
 | .neq=>.val (.pv .bool (!decide (a=b)))
 | .lss=>.val (.pv .bool (decide (a<b)))
 | .leq=>.val (.pv .bool (decide (a<=b)))
 | .gtr=>.val (.pv .bool (decide (b<a)))
 | .geq=>.val (.pv .bool (decide (b<=a)))
def binStr (op:BinOp) (a b:List UInt8):RD:=
 match op with
 | .add=>need (a.length+b.length<=9223372036854775807) (.val (.pv .str (a++b)))
 | .eql=>.val (.pv .bool (decide (a=b)))
 | .neq=>.val (.pv .bool (!decide (a=b)))
 | .lss=>.val (.pv .bool (Op.bytesLess a b))
 | .leq=>.val (.pv .bool (Op.bytesLess a b||decide (a=b)))
 | .gtr=>.val (.pv .bool (!(Op.bytesLess a b||decide (a=b))))
 | .geq=>.val (.pv .bool (!Op.bytesLess a b))
 |_=>.fail
def binBool (op:BinOp) (a b:Bool):RD:=
 match op with
 | .eql=>.val (.pv .bool (a==b))
 | .neq=>.val (.pv .bool (!(a==b)))
 |_=>.fail
def isNil (x:AV):Option Bool:=match x with
 | .nilp=>some true
 | .ptr _ _ _=>some false
 | .pv (.opt _) y=>some (Option.isNone y)
 |_=>none
def ptrRD (tp:Bool) (op:BinOp) (x y:AV):RD:=
 match y with
 | .nilp=>match isNil x with
  |some b=>if tp then match op with
   | .eql=>.val (.pv .bool b)
   | .neq=>.val (.pv .bool (!b))
   |_=>.fail
   else .fail
  |none=>.fail
 |_=>.fail
def binRD (tb tp:Bool) (op:BinOp) (x y:AV):RD:=
 match x with
 | .pv (.int k) a=>match y with
  | .pv (.int k') b=>match op with
   | .shl=>binInt .shl k a b
   | .shr=>binInt .shr k a b
   |op=>if k=k' then binInt op k a b else .fail
  |_=>.fail
 | .pv .str a=>match y with
  | .pv .str b=>binStr op a b
  |_=>.fail
 | .pv .bool a=>match y with
  | .pv .bool b=>if tb then binBool op a b else .fail
  |_=>.fail
 |x=>ptrRD tp op x y
def aggs (x y:AV):Option (List AV×List AV):=match x with
 | .agg xs=>match y with
  | .agg ys=>some (xs,ys)
  |_=>none
 |_=>none
def aggRD (r:Option Tp) (op:BinOp) (xs ys:List AV):RD:=
 match r with
 |none=>.fail
 |some r=>match mkRow r xs with
  |none=>.fail
  |some a=>match mkRow r ys with
   |none=>.fail
   |some b=>match op with
    | .eql=>.val (.pv .bool (r.eqB a b))
    | .neq=>.val (.pv .bool (!r.eqB a b))
    |_=>.fail
def unRD (op:UnOp) (x:AV):RD:=
 match x with
 | .pv .bool b=>match op with
  | .not=>.val (.pv .bool (!b))
  |_=>.fail
 | .pv (.int k) n=>match op with
  | .neg=>arithRD k (0-n)
  | .xor=>.val (.pv (.int k) (bitsI .xor k (if k.signed then-1 else k.max) n))
  |_=>.fail
 |_=>.fail
def bytesOf (xs:List Int):List UInt8:=xs.map fun n=>UInt8.ofNat n.toNat
def withRows (r:Tp) (x:AV) (f:List r.D->RD):RD:=
 match x with
 | .mtk n=>.tok n fun z=>match z with
  |some (.live tk)=>if h:tk.t=r/\tk.tr=none then f (h.1▸tk.xs)else .fail
  |_=>.fail
 |x=>match x.as (.sl r)with
  |some xs=>f xs
  |none=>.fail
def withInt (x:AV) (f:Int->RD):RD:=
 match x with
 | .pv (.int _) n=>f n
 |_=>.fail
def optInt (d:Int) (x:Option AV) (f:Int->RD):RD:=
 match x with
 |none=>f d
 |some x=>withInt x f
def giveToks :List AV->(List (Nat×Option TS)->Bool->RD)->RD
 | [],f=>f [] true
 | .own t _ _::l,f=>.tok t fun x=>giveToks l fun es p=>f ((t,some .spent)::es) ((match x with|some (.live tk)=>tk.deep|_=>false)&&p&&es.all fun y=>y.1 !=t)
 | .pv t _::l,f=>giveToks l fun es q=>f es (t.flatB&&q)
 | .nils::l,f=>giveToks l fun es q=>f es q
 |_::l,f=>giveToks l fun es q=>f es false
def mkRows (r:Tp):Nat->List AV->Option (List r.D)
 |0,_=>some []
 |n+1,cs=>match mkRow r (cs.take r.w),mkRows r n (cs.drop r.w)with
  |some x,some xs=>some (x::xs)
  |_,_=>none
def partCells :Nat->Nat->List (Nat×AV)->Option (List AV)
 |_,_,[]=>some []
 |m,i,(j,x)::l=>if i=j then match x.cells?,partCells m (i+1) l with
   |some cs,some ds=>if cs.length=m then some (cs++ds)else none
   |_,_=>none
  else none
def tokName (d j:Nat):Nat:=1000*(d+1)+j
def newTok (E:Env) (d:Nat) (r:Tp) (xs:List r.D) (e:TypeId) (deep:Bool) (es:List (Nat×Option TS)):RD:=
 .tok d fun x=>match x with
  |some _=>.fail
  |none=>if es.any (fun y=>y.1==d)||E.res d then .fail else if E.wr d then .ret ⟨.mtk d,[],es++ [(d,some (.live ⟨r,xs,e,true,deep,none⟩))]⟩else .ret ⟨.own d r xs,[],es++ [(d,some (.live ⟨r,xs,e,false,deep,none⟩))]⟩
def deepOf :Option TS->Bool
 |some (.live tk)=>tk.deep
 |_=>false
def appendRD (E:Env) (d:Nat) (e:TypeId) (r:Tp) (by':Nat) (deep:Bool) (bt:List (Nat×Option TS)) (wr:Bool) (xs:List r.D) (src:AV):RD:=
 let fin (ys:List r.D) (es:List (Nat×Option TS)) (deep:Bool):RD:=
  need (room xs.length ys.length by')
   (if E.wr d=wr then newTok E d r (xs++ys) e deep es else .fail)
 match src with
 | .mtk n=>.tok n fun z=>match z with
  |some (.live tk)=>if h:tk.t=r/\tk.tr=none then if r.flatB then fin (h.1▸tk.xs) bt deep else if bt.any (fun y=>y.1==n)then .fail else fin (h.1▸tk.xs) (bt++ [(n,some .spent)]) (deep&&tk.deep)else .fail
  |_=>.fail
 | .own n r' ys=>if h:r'=r then if r.flatB then fin (h▸ys) bt deep else if bt.any (fun y=>y.1==n)then .fail else .tok n fun z=>fin (h▸ys) (bt++ [(n,some .spent)]) (deep&&deepOf z)else .fail
 |src=>match src.as (.sl r)with
  |some ys=>fin ys bt (deep&&r.flatB)
  |none=>.fail
def newTree (E:Env) (d:Nat) (r:Tp) (xs:List r.D) (e:TypeId) (es:List (Nat×Option TS)):RD:=
 .tok d fun x=>match x with
  |some _=>.fail
  |none=>if es.any (fun y=>y.1==d)||E.res d then .fail else if E.wr d=true/\r.flatB=false then .ret ⟨.mtk d,[],es++ [(d,some (.live ⟨r,xs,e,true,true,some []⟩))]⟩else .fail
def appendTree (E:Env) (d:Nat) (e:TypeId) (r:Tp) (by':Nat) (t:Nat) (xs:List r.D) (src:AV):RD:=match src with
 | .mtk n=>.tok n fun z=>match z with
  |some (.live tk)=>if h:tk.t=r/\tk.tr=some []then if n==t then .fail else need (room xs.length tk.xs.length by') (newTree E d r (xs++h.1▸tk.xs) e [(t,some .spent),(n,some .spent)])else .fail
  |_=>.fail
 |_=>.fail
mutual
def AV.toks :AV->List Nat
 | .own n _ _=>[n]
 | .mtk n=>[n]
 | .sub n _ _=>[n]
 | .agg l=>AV.toksL l
 | .tup l=>AV.toksL l
 | .clo _ l=>AV.toksL l
 |_=>[]
def AV.toksL :List AV->List Nat
 | []=>[]
 |x::l=>x.toks++AV.toksL l
end
mutual
def AV.boxs :AV->List Nat
 | .box k _=>[k]
 | .agg l=>AV.boxsL l
 | .tup l=>AV.boxsL l
 | .clo _ l=>AV.boxsL l
 |_=>[]
def AV.boxsL :List AV->List Nat
 | []=>[]
 |x::l=>x.boxs++AV.boxsL l
end
def readB :List Nat->List (Nat×BS)->(List (Nat×BS)->RD)->RD
 | [],B,f=>f B
 |k::l,B,f=>.box k fun b=>match b with
  |some b=>readB l (setB B k b) f
  |none=>.fail
def readT :List Nat->List (Nat×Option TS)->(List (Nat×Option TS)->RD)->RD
 | [],T,f=>f T
 |k::l,T,f=>.tok k fun z=>readT l (setT T k z) f
def boxToks :List (Nat×BS)->List Nat
 | []=>[]
 |(_,b)::l=>AV.toksL b.cs++boxToks l
def pickM (B:List (Nat×BS)) (T:List (Nat×Option TS)) (xs:List AV) (f:(m:Model)->HD m.arg.codes->Acc->RD):List Model->RD
 | []=>.fail
 |m::l=>match m.arg.conv B T xs with
  |some (a,acc)=>f m a acc
  |none=>pickM B T xs f l
def freshT (E:Env):List Nat->RD->RD
 | [],r=>r
 |t::l,r=>.tok t fun x=>match x with
  |none=>if E.res t then .fail else freshT E l r
  |some _=>.fail
def freshB (E:Env):List Nat->RD->RD
 | [],r=>r
 |t::l,r=>.box t fun x=>match x with
  |none=>if E.res t then .fail else freshB E l r
  |some _=>.fail
def renB (d:Nat) (rb:List (Nat×Nat)) (k:Nat):Nat:=(lookR rb k).getD (tokName d k)
def renT (d:Nat) (rt:List (Nat×Option Nat)) (n:Nat):Nat:=match lookR rt n with
 |some (some n')=>n'
 |_=>tokName d n
mutual
def AV.ren (ρb ρt:Nat->Nat):AV->AV
 | .box k o=>.box (ρb k) o
 | .own n t xs=>.own (ρt n) t xs
 | .mtk n=>.mtk (ρt n)
 | .mptr n i o=>.mptr (ρt n) i o
 | .sub n l h=>.sub (ρt n) l h
 | .agg l=>.agg (AV.renL ρb ρt l)
 | .tup l=>.tup (AV.renL ρb ρt l)
 | .clo f l=>.clo f (AV.renL ρb ρt l)
 |x=>x
def AV.renL (ρb ρt:Nat->Nat):List AV->List AV
 | []=>[]
 |x::l=>x.ren ρb ρt::AV.renL ρb ρt l
end
def backOk (T:List (Nat×Option TS)) (acc:Acc) (x:Nat×Option TS):Bool:=match lookR acc.rt x.1 with
 |some (some n)=>match lookT T n,x.2 with
  |some (.live tk),some (.live tk')=>tk.wr&&decide (tk'.t=tk.t)&& !acc.ft.contains n
  |_,_=>false
 |_=>true
def liveB (z:Option TS):Bool:=match z with
 |some (.live _)=>true
 |_=>false
def isBound (acc:Acc) (n:Nat):Bool:=match lookR acc.rt n with
 |some (some _)=>true
 |_=>false
def callOk (d:Nat) (B:List (Nat×BS)) (T:List (Nat×Option TS)) (acc:Acc) (s':LSt):Bool:=
 acc.fb.all (fun k=>(lookB B k).isSome)&&acc.ft.all (fun n=>liveB (lookT T n))&&acc.rb.all (fun x=>(lookB s'.B x.1).isSome)&&decide ((s'.B.map (·.1)).Nodup)&&decide ((s'.T.map (·.1)).Nodup)&&s'.T.all (backOk T acc)&&s'.T.all (fun x=>liveB x.2)&&s'.B.all (fun x=>kindN (renB d acc.rb x.1)==kindN x.1)
def fzOne (T:List (Nat×Option TS)) (n:Nat):Option (Nat×Option TS):=match lookT T n with
 |some (.live tk)=>some (n,some (.live tk.fz))
 |_=>none
def callRet (E:Env) (d:Option Nat) (B:List (Nat×BS)) (T:List (Nat×Option TS)) (acc:Acc) (s':LSt):RD:=
 let ρb:=renB (d.getD 0) acc.rb
 let ρt:=renT (d.getD 0) acc.rt
 let fzBl:List (Nat×BS):=acc.fb.filterMap fun k=>(lookB B k).map fun b=>(k,{b with fz:=true})
 let fzTl:List (Nat×Option TS):=acc.ft.filterMap (fzOne T)
 let used:=acc.rt.filterMap (·.2)
 let newB:=s'.B.map fun x=>(ρb x.1,(⟨x.2.fz,AV.renL ρb ρt x.2.cs⟩:BS))
 let newT:=s'.T.map fun x=>(ρt x.1,x.2)
 if callOk (d.getD 0) B T acc s' then
  freshB E ((s'.B.filter fun x=>(lookR acc.rb x.1).isNone).map fun x=>ρb x.1)<|
  freshT E ((s'.T.filter fun x=> !isBound acc x.1).map fun x=>ρt x.1)<|
  match s'.L with
  | []=>.fail
  |v::_=>.ret ⟨match d with|some _=>v.ren ρb ρt|none=>.dead,fzBl++newB,fzTl++((used.map fun n=>(n,some .spent))++newT)⟩
 else .fail
mutual
def AV.clean :AV->Bool
 | .pv t _=>t.flatB
 | .own _ _ _=>true
 | .nils=>true
 | .dead=>true
 | .agg l=>AV.cleanL l
 | .tup l=>AV.cleanL l
 |_=>false
def AV.cleanL :List AV->Bool
 | []=>true
 |x::l=>x.clean&&AV.cleanL l
end
mutual
def AV.toM (ρ:Nat->Nat):AV->AV
 | .own n _ _=>.mtk (ρ n)
 | .agg l=>.agg (AV.toML ρ l)
 | .tup l=>.tup (AV.toML ρ l)
 |x=>x
def AV.toML (ρ:Nat->Nat):List AV->List AV
 | []=>[]
 |x::l=>x.toM ρ::AV.toML ρ l
end
def treeTok (tk:Tok):Tok:=⟨tk.t,tk.xs,tk.e,true,true,bif tk.t.flatB then none else some []⟩
def ownDeep (x:Nat×Option TS):Bool:=match x.2 with
 |some (.live tk)=>tk.deep&& !tk.wr&&tk.tr.isNone
 |_=>false
def treeOf (ρ:Nat->Nat) (x:Nat×Option TS):Nat×Option TS:=match x.2 with
 |some (.live tk)=>(ρ x.1,some (.live (treeTok tk)))
 |z=>(ρ x.1,z)
def lendRet (E:Env) (d:Option Nat) (s':LSt):RD:=
 let ρt:=tokName (d.getD 0)
 if s'.B.isEmpty=true/\s'.T.all ownDeep=true/\(s'.T.map (·.1)).Nodup/\AV.cleanL s'.L=true then
  freshT E (s'.T.map fun x=>ρt x.1)<|
  match s'.L with
  | []=>.fail
  |v::_=>.ret ⟨match d with|some _=>v.toM ρt|none=>.dead,[],s'.T.map (treeOf ρt)⟩
 else .fail
def lendRD (E:Env) (f:FuncId) (d:Option Nat) (xs:List AV):RD:=
 readB (AV.boxsL xs) [] fun B=>readT (AV.toksL xs++boxToks B) [] fun T=>
  pickM B T xs (fun m a acc=>if acc.rt.isEmpty=true/\acc.rb.isEmpty=true/\m.arg.boxes.isEmpty=true then .get (m.run a) fun r=>lendRet E d (m.ret.mk' r)else .fail) (E.fn f)
def callRD (E:Env) (f:FuncId) (d:Option Nat) (xs:List AV):RD:=
 readB (AV.boxsL xs) [] fun B=>readT (AV.toksL xs++boxToks B) [] fun T=>
  pickM B T xs (fun m a acc=>.get (m.run a) fun r=>callRet E d B T acc (m.ret.mk' r)) (E.fn f)
def findHole (o:Nat):List (Nat×Nat×Nat)->Option (Nat×Nat)
 | []=>none
 |h::hs=>bif Nat.beq h.2.1 o then some (h.1,h.2.2)else findHole o hs
def dropHoles (i o size:Nat):List (Nat×Nat×Nat)->(List (Nat×Nat×Nat)->RD)->RD
 | [],f=>f []
 |h::hs,f=>bif Nat.ble o h.2.1&&Nat.blt h.2.1 (o+size)then need (h.1=i) (dropHoles i o size hs f)else dropHoles i o size hs fun l=>f (h::l)
def okK :List (Nat×Nat×Nat)->Nat->RD->RD
 | [],_,f=>f
 |h::hs,i,f=>bif Nat.beq h.2.2 gone then need (h.1<=i) (okK hs i f)else okK hs i f
def aggTree (hs:List (Nat×Nat×Nat)) (i:Nat):Nat->Nat->(List AV->RD)->RD
 |_,0,f=>f []
 |o,m+1,f=>match findHole o hs with
  |some (i',d')=>need (i'=i) (if d'=gone then .fail else .tok d' fun z=>match z with
   |some (.live _)=>aggTree hs i (o+1) m fun cs=>f (.mtk d'::cs)
   |_=>.fail)
  |none=>.fail
def loadTree (E:Env) (dst:Option Nat) (ty:Ty) (n i o:Nat) (tk:Tok) (hs:List (Nat×Nat×Nat)):RD:=
 if ty.agg then aggTree hs i o ty.size fun cs=>.val (.agg cs)else okK hs i<| .get (tk.xs[i]?) fun y=>match(cellsOf tk.t y)[o]? with
  |some (.pv (.sl r) x)=>match findHole o hs with
   |some (i',d')=>need (i'=i) (if d'=gone then .fail else .tok d' fun z=>match z with
    |some (.live _)=>.val (.mtk d')
    |_=>.fail)
   |none=>match dst,ty.elem with
    |some d,some (e,_,_)=>.tok d fun z=>match z with
     |none=>if E.res d then .fail else .ret ⟨.mtk d,[],[(n,some (.live {tk with tr:=some ((i,o,d)::hs)})),(d,some (.live ⟨r,x,e,true,true,bif r.flatB then none else some []⟩))]⟩
     |some _=>.fail
    |_,_=>.fail
  |some (.pv t x)=>if t.flatB=true then(match findHole o hs with
   |none=>.val (.pv t x)
   |some _=>.fail)else .fail
  |_=>.fail
def giveTree :List AV->(List AV->List (Nat×Option TS)->RD)->RD
 | [],f=>f [] []
 |c::l,f=>match c with
  | .mtk t=>.tok t fun z=>match z with
   |some (.live tk)=>if tk.whole=true/\tk.wr=true/\tk.deep=true/\(tk.tr=none->tk.t.flatB=true)then giveTree l fun cs es=>if es.any fun y=>y.1==t then .fail else f (.pv (.sl tk.t) tk.xs::cs) ((t,some .spent)::es)else .fail
   |_=>.fail
  | .pv t x=>if t.flatB=true then giveTree l fun cs es=>f (.pv t x::cs) es else .fail
  | .nils=>giveTree l fun cs es=>f (.nils::cs) es
  |_=>.fail
def storeTree (n i o size:Nat) (ys:List AV) (tk:Tok) (hs:List (Nat×Nat×Nat)):RD:=
 if o+size<=tk.t.w/\tk.t.w<=gone/\(hs.all fun h=>Nat.blt h.2.1 tk.t.w)=true then giveTree ys fun cs es=>if es.any fun y=>y.1==n then .fail else dropHoles i o size hs fun hs'=>.get (tk.xs[i]?) fun old=>match mkRow tk.t ((cellsOf tk.t old).take o++cs++(cellsOf tk.t old).drop (o+size))with
  |some y'=>.ret ⟨.tup [],[],es++ [(n,some (.live {tk with xs:=tk.xs.set i y',tr:=some hs'}))]⟩
  |none=>.fail
 else .fail
def cellTp :Tp->Nat->Option Tp
 | .unit,_=>none
 | .pair a b,o=>bif Nat.blt o a.w then cellTp a o else cellTp b (o-a.w)
 | .q,o=>match o with
  |0=>some (.int .i64)
  |1=>some .str
  |2=>some (.sl .str)
  |3=>some (.int .i64)
  |4=>some (.int .i64)
  |5=>some (.sl .q)
  |_=>none
 |t,o=>match o with
  |0=>some t
  |_=>none
def setCell :(t:Tp)->t.D->Nat->(r:Tp)->List r.D->t.D
 | .pair a b,x,o,r,ys=>bif Nat.blt o a.w then(setCell a x.1 o r ys,x.2)else(x.1,setCell b x.2 (o-a.w) r ys)
 | .q,x,o,r,ys=>match o,r,ys with
  |2,.str,ys=>.mk x.kind x.field ys x.lo x.hi x.kids
  |5,.q,ys=>.mk x.kind x.field x.words x.lo x.hi ys
  |_,_,_=>x
 | .sl r',x,_,r,ys=>if h:r=r' then h▸ys else x
 |_,x,_,_,_=>x
def plugAt (T:List (Nat×Option TS)) (n:Nat):List (Nat×Option TS):=match lookT T n with
 |some (.live tk)=>match tk.tr with
  |some ((i,o,d)::hs)=>match lookT T d with
   |some (.live td)=>if td.whole=true/\td.wr=true/\td.deep=true/\(td.tr=none->td.t.flatB=true)/\d≠n/\cellTp tk.t o=some (.sl td.t)/\d≠gone then setT (setT T d (some .spent)) n (some (.live {tk with xs:=tk.xs.modify i fun y=>setCell tk.t y o td.t td.xs,tr:=some hs}))else T
   |_=>T
  |_=>T
 |_=>T
def plugs :Nat->List Nat->List (Nat×Option TS)->List (Nat×Option TS)
 |0,_,T=>T
 |k+1,ns,T=>plugs k ns (ns.foldl plugAt T)
def isOpen :Nat×Option TS->Bool
 |(_,some (.live tk))=> !tk.whole
 |_=>false
def plugAll (T:List (Nat×Option TS)):List (Nat×Option TS):=bif T.any isOpen then plugs 8 (T.map (·.1)) T else T
def lenRD (r:Tp) (x:AV):RD:=match x with
 | .mtk n=>.tok n fun z=>match z with
  |some (.live tk)=>if tk.t=r then .val (.pv (.int .i64) (tk.xs.length:Int))else .fail
  |_=>.fail
 |x=>withRows r x fun xs=>.val (.pv (.int .i64) (xs.length:Int))
def zeroDeep :List AV->Bool
 | []=>true
 | .pv t _::l=>t.flatB&&zeroDeep l
 | .nils::l=>zeroDeep l
 |_=>false
def lends (E:Env) (dst:Option Nat):Bool:=match dst with
 |some d=>E.dw d
 |none=>false
def keepName (E:Env) (dst:Option Nat) (lo:Option Operand) (wr:Bool):Option Nat:=match dst,lo with
 |some d,none=>if E.wr d&&wr then some d else none
 |_,_=>none
def zeroT :(t:Tp)->Option t.D
 | .bool=>some false
 | .int _=>some (0:Int)
 | .str=>some ([]:List UInt8)
 |_=>none
def mget (kt vt:Tp) (es:List (kt.D×vt.D)) (k:kt.D):Option vt.D:=(es.find? fun e=>kt.eqB k e.1).map (·.2)
def mput (kt vt:Tp) (es:List (kt.D×vt.D)) (k:kt.D) (v:vt.D):List (kt.D×vt.D):=match es with
 | []=>[(k,v)]
 |e::l=>bif kt.eqB k e.1 then(k,v)::l else e::mput kt vt l k v
def withMap (kt vt:Tp) (x:AV) (f:Nat->List (kt.D×vt.D)->RD):RD:=match x with
 | .box k _=>if mapName k then .box k fun b=>match b with
  |some ⟨false,[.pv t es]⟩=>if h:t= .sl (.pair kt vt)then f k (show(Tp.sl (.pair kt vt)).D from h▸es)else .fail
  |_=>.fail
  else .fail
 |_=>.fail
def makeMapRD (E:Env) (dst:Option Nat) (T:TypeId):RD:=match dst,E.ty T with
 |some d,some ty=>match ty.mp with
  |some (_,_,kt,vt)=>if kindN (1000000000+d)=1 then .box (1000000000+d) fun b=>match b with
   |none=>if E.res (1000000000+d)then .fail else .ret ⟨.box (1000000000+d) 0,[(1000000000+d,⟨false,[.pv (.sl (.pair kt vt)) ([]:List (kt.D×vt.D))]⟩)],[]⟩
   |some _=>.fail
   else .fail
  |none=>.fail
 |_,_=>.fail
def lookG :List (Nat×GF)->Nat->Option GF
 | [],_=>none
 |(k,x)::l,j=>bif Nat.beq k j then some x else lookG l j
def gOf :Operand->Option Nat
 | .global g=>some g
 |_=>none
def gloadRD (ty:Ty) (g:Nat):RD:=match lookG gtab g with
 |some (.row t y)=>if ty.agg then(if 0+ty.size<=(cellsOf t y).length then .val (.agg (((cellsOf t y).drop 0).take ty.size))else .fail)else match(cellsOf t y)[0]? with
  |some c=>.val c
  |none=>.fail
 |some (.map _ _ _ _)=>if ty.agg then .fail else .val (.gmap g)
 |_=>.fail
def gmapOf :AV->Option Nat
 | .gmap g=>some g
 |_=>none
def zeroD :(t:Tp)->Option t.D
 | .pair a b=>match zeroD a,zeroD b with
  |some x,some y=>some (x,y)
  |_,_=>none
 |t=>zeroT t
def rowAV (agg:Bool) (t:Tp) (y:t.D):AV:=bif agg then .agg (cellsOf t y)else .pv t y
def glookRD (E:Env) (T:TypeId) (g:Nat) (i:AV) (ok:Bool):RD:=match E.ty T with
 |some ty=>match ty.gm with
  |some (_,_,kt,vt,agg)=>match lookG gtab g with
   |some (.map kt' vt' agg' es)=>if h:kt'=kt/\vt'=vt/\agg'=agg then .get (i.as kt) fun k=>.get (zeroD vt) fun z=>bif ok then .val (.tup [rowAV agg vt ((mget kt vt (show(Tp.sl (.pair kt vt)).D from h.1▸h.2.1▸es) k).getD z),.pv .bool (mget kt vt (show(Tp.sl (.pair kt vt)).D from h.1▸h.2.1▸es) k).isSome])else .val (rowAV agg vt ((mget kt vt (show(Tp.sl (.pair kt vt)).D from h.1▸h.2.1▸es) k).getD z))else .fail
   |_=>.fail
  |none=>.fail
 |none=>.fail
def lookupRD (E:Env) (T:TypeId) (x i:AV) (ok:Bool):RD:=match E.ty T with
 |some ty=>match ty.mp with
  |some (_,_,kt,vt)=>withMap kt vt x fun _ es=>.get (i.as kt) fun k=>.get (zeroT vt) fun z=>bif ok then .val (.tup [.pv vt ((mget kt vt es k).getD z),.pv .bool (mget kt vt es k).isSome])else .val (.pv vt ((mget kt vt es k).getD z))
  |none=>.fail
 |none=>.fail
def mapUpdateRD (E:Env) (dst:Option Nat) (T:TypeId) (x i y:AV):RD:=match E.ty T,dst with
 |some ty,none=>match ty.mp with
  |some (_,_,kt,vt)=>withMap kt vt x fun n es=>.get (i.as kt) fun k=>.get (y.as vt) fun v=>.ret ⟨.tup [],[(n,⟨false,[.pv (.sl (.pair kt vt)) (mput kt vt es k v)]⟩)],[]⟩
  |none=>.fail
 |_,_=>.fail
def rangeRD (E:Env) (dst:Option Nat) (T:TypeId) (x:AV):RD:=match dst,E.ty T with
 |some d,some ty=>match ty.mp with
  |some (_,_,kt,vt)=>withMap kt vt x fun m es=>if kindN (2000000000+d)=2 then .box (2000000000+d) fun b=>match b with
   |none=>if E.res (2000000000+d)then .fail else .ret ⟨.box (2000000000+d) 0,[(2000000000+d,⟨false,[.box m 0,.pv (.int .i64) (es.length:Int),.pv (.int .i64) (0:Int),.pv (.int .i64) (0:Int)]⟩)],[]⟩
   |some _=>.fail
   else .fail
  |none=>.fail
 |_,_=>.fail
def grangeRD (E:Env) (dst:Option Nat) (T:TypeId) (g:Nat):RD:=match dst,E.ty T with
 |some _,some ty=>match ty.gm,lookG gtab g with
  |some _,some (.map _ _ _ _)=>.box (3000000000+g) fun b=>match b with
   |none=>if E.res (3000000000+g)then .fail else .ret ⟨.box (3000000000+g) 0,[(3000000000+g,⟨false,[.pv (.int .i64) (0:Int),.pv (.int .i64) (0:Int)]⟩)],[]⟩
   |some _=>.fail
  |_,_=>.fail
 |_,_=>.fail
def gitOf :AV->Option (Nat×Nat)
 | .box k 0=>bif Nat.ble 3 (kindN k)then some (k,kindN k-3)else none
 |_=>none
def gentryRD (k g:Nat):RD:=.box k fun b=>match b with
 |some ⟨false,[.pv (.int .i64) _,.pv (.int .i64) c]⟩=>match lookG gtab g with
  |some (.map kt vt agg es)=>if(zeroT kt).isSome=true/\vt.flatB=true/\(agg=false->vt.w=1)then need (0<c) (.get (es[Int.toNat c-1]?) fun e=>.val (.tup [.pv kt e.1,rowAV agg vt e.2]))else .fail
  |_=>.fail
 |_=>.fail
def entryRD (x:AV):RD:=match x with
 | .box k 0=>if kindN k=2 then .box k fun b=>match b with
  |some ⟨false,[.box m _,.pv (.int .i64) n,.pv (.int .i64) _,.pv (.int .i64) c]⟩=>.box m fun b=>match b with
   |some ⟨false,[.pv (.sl (.pair kt vt)) es]⟩=>if(zeroT kt).isSome=true/\(zeroT vt).isSome=true then need (0<c/\(List.length (α:=kt.D×vt.D) es:Int)=n) (.get ((show List (kt.D×vt.D)from es)[Int.toNat c-1]?) fun e=>.val (.tup [.pv kt e.1,.pv vt e.2]))else .fail
   |_=>.fail
  |_=>.fail
  else .fail
 |_=>.fail
def Tok.thaw (tk:Tok):Tok:={tk with deep:=false,tr:=none}
def thawRD (c:AV):RD:=match c with
 | .mtk n=>.tok n fun z=>match z with
  |some (.live tk)=>if tk.tr=some []then .ret ⟨.mtk n,[],[(n,some (.live tk.thaw))]⟩else .fail
  |_=>.fail
 |_=>.fail
def appendSub (E:Env) (d t k:Nat) (tk:Tok) (src:AV):RD:=match src with
 | .sub n lo hi=>if n==t then need (k<=lo) (newTok E d tk.t (tk.xs.take k++(tk.xs.take hi).drop lo) tk.e tk.deep [(t,some .spent)])else .fail
 |_=>.fail
def clearRD (E:Env) (T:TypeId) (x:AV):RD:=match x with
 | .sub n l h=>.tok n fun z=>match z with
  |some (.live tk)=>match E.ty T with
   |some ty=>match ty.elem with
    |some (e,r,_)=>match E.ty e with
     |some te=>if tk.t=r/\tk.tr=none/\tk.wr=true/\tk.t.flatB=true/\te.zero.length=r.w then(match mkRow tk.t te.zero with
      |some z=>.ret ⟨.tup [],[],[(n,some (.live {tk with xs:=tk.xs.take l++List.replicate (h-l) z++tk.xs.drop h}))]⟩
      |none=>.fail)else .fail
     |none=>.fail
    |none=>.fail
   |none=>.fail
  |_=>.fail
 |_=>.fail
def opRD (E:Env) (op:Op) (dst:Option Nat) (ρ:Operand->AV):RD:=
 match op with
 | .move x=>.val (ρ x)
 | .assign x=>.val (ρ x)
 | .pick c a b=>match ρ c with
  | .pv .bool t=>.br t (.val (ρ a)) (.val (ρ b))
  |_=>.fail
 | .alloc T=>match dst,E.ty T with
  |some d,some ty=>.box d fun b=>match b with
   |none=>if E.res d||mapName d then .fail else .ret ⟨.box d 0,[(d,⟨false,ty.zero⟩)],[]⟩
   |some _=>.fail
  |_,_=>.fail
 | .box T x=>match dst,E.ty T,(ρ x).cells? with
  |some d,some ty,some cs=>.box d fun b=>match b with
   |none=>if cs.length=ty.size/\E.res d=false/\mapName d=false then .ret ⟨.box d 0,[(d,⟨false,cs⟩)],[]⟩else .fail
   |some _=>.fail
  |_,_,_=>.fail
 | .build T parts=>match E.ty T with
  |some ty=>match ty.offs,fillA ty.offs ty.zero (parts.toList.map fun q=>(q.1,ρ q.2))with
   |_::_,some cs=>.val (.agg cs)
   |_,_=>.fail
  |none=>.fail
 | .buildSlice T len parts=>match dst,E.ty T with
  |some d,some ty=>match ty.elem with
   |some (e,r,_)=>match partCells r.w 0 (parts.toList.map fun q=>(q.1,ρ q.2))with
    |some cs=>match mkRows r len cs with
     |some xs=>if len=parts.toList.length/\len*r.w<=16777216 then(if E.dw d=true/\r.flatB=false/\zeroDeep cs=true then newTree E d r xs e []else giveToks cs fun es deep=>newTok E d r xs e deep es)else .fail
     |none=>.fail
    |none=>.fail
   |none=>.fail
  |_,_=>.fail
 | .load T x=>match E.ty T with
  |none=>.fail
  |some ty=>match gOf x with
   |some g=>gloadRD ty g
   |none=>match ρ x with
   | .box k o=>if mapName k then .fail else .box k fun b=>match b with
    |none=>.fail
    |some b=>if ty.agg then(if o+ty.size<=b.cs.length then .val (.agg ((b.cs.drop o).take ty.size))else .fail)else match b.cs[o]? with
     |some c=>if lends E dst=true then thawRD c else .val c
     |none=>.fail
   | .ptr t y o=>if ty.agg then(if o+ty.size<=(cellsOf t y).length then .val (.agg (((cellsOf t y).drop o).take ty.size))else .fail)else match(cellsOf t y)[o]? with
    |some c=>.val c
    |none=>.fail
   | .mptr n i o=>.tok n fun z=>match z with
    |some (.live tk)=>(match tk.tr with
     |none=>.get (tk.xs[i]?) fun y=>if ty.agg then(if o+ty.size<=(cellsOf tk.t y).length then .val (.agg (((cellsOf tk.t y).drop o).take ty.size))else .fail)else match(cellsOf tk.t y)[o]? with
      |some c=>.val c
      |none=>.fail
     |some hs=>loadTree E dst ty n i o tk hs)
    |_=>.fail
   |_=>.fail
 | .store T x y=>match E.ty T,(ρ y).cells?,dst with
  |some ty,some ys,none=>if ys.length=ty.size then match ρ x with
   | .box k o=>if mapName k then .fail else .box k fun b=>match b with
    |some ⟨false,cs⟩=>if o+ty.size<=cs.length then .ret ⟨.tup [],[(k,⟨false,cs.take o++ys++cs.drop (o+ty.size)⟩)],[]⟩else .fail
    |_=>.fail
   | .mptr n i o=>.tok n fun z=>match z with
    |some (.live tk)=>(match tk.tr with
     |none=>if tk.wr=true/\(tk.t.flatB=true\/tk.deep=false)/\o+ty.size<=tk.t.w then .get (tk.xs[i]?) fun old=>match mkRow tk.t ((cellsOf tk.t old).take o++ys++(cellsOf tk.t old).drop (o+ty.size))with
      |some y'=>.ret ⟨.tup [],[],[(n,some (.live {tk with xs:=tk.xs.set i y'}))]⟩
      |none=>.fail
      else .fail
     |some hs=>storeTree n i o ty.size ys tk hs)
    |_=>.fail
   |_=>.fail
   else .fail
  |_,_,_=>.fail
 | .makeSlice T l c=>match dst,E.ty T with
  |some d,some ty=>match ty.elem with
   |some (e,r,by')=>match E.ty e with
    |some te=>match mkRow r te.zero with
     |some z=>if te.zero.length=r.w/\zeroDeep te.zero=true then withInt (ρ l) fun n=>withInt (ρ c) fun m=>need (n=m/\0<=n/\n*by'<=140737488355328/\n<=140737488355328) (.tok d fun x=>match x with
       |some _=>.fail
       |none=>if E.res d then .fail else if E.wr d then .ret ⟨.mtk d,[],[(d,some (.live ⟨r,List.replicate n.toNat z,e,true,true,bif r.flatB then none else some []⟩))]⟩else .ret ⟨.own d r (List.replicate n.toNat z),[],[(d,some (.live ⟨r,List.replicate n.toNat z,e,false,true,none⟩))]⟩)
      else .fail
     |none=>.fail
    |none=>.fail
   |none=>.fail
  |_,_=>.fail
 | .nilCheck x=>match ρ x with
  | .box k o=>if mapName k then .fail else .val (.box k o)
  | .ptr t r o=>.val (.ptr t r o)
  | .mptr n i o=>.tok n fun z=>match z with
   |some (.live _)=>.val (.mptr n i o)
   |_=>.fail
  | .pv (.opt t) y=>.get y fun r=>.val (.ptr t r 0)
  |_=>.fail
 | .binOp op T x y _=>match aggs (ρ x) (ρ y)with
  |some (xs,ys)=>aggRD ((E.ty T).bind (·.eqs)) op xs ys
  |none=>binRD (match E.ty T with|some ty=>ty.bool|none=>false) (match E.ty T with|some ty=>ty.ptr|none=>false) op (ρ x) (ρ y)
 | .unOp op _ x=>unRD op (ρ x)
 | .fieldAddr T x f=>match E.ty T with
  |some ty=>match ty.offs[f]? with
   |some (off,size)=>if 0<size then match ρ x with
    | .box k o=>if mapName k then .fail else .val (.box k (o+off))
    | .ptr t y o=>.val (.ptr t y (o+off))
    | .mptr n i o=>.tok n fun z=>match z with
     |some (.live _)=>.val (.mptr n i (o+off))
     |_=>.fail
    |_=>.fail
    else .fail
   |none=>.fail
  |none=>.fail
 | .field T x f=>match E.ty T with
  |some ty=>match ty.fts[f]? with
   |some (ft,off)=>match E.ty ft with
    |some tf=>match ρ x with
     | .agg cs=>if tf.agg then(if off+tf.size<=cs.length then .val (.agg ((cs.drop off).take tf.size))else .fail)else match cs[off]? with
      |some c=>.val c
      |none=>.fail
     |_=>.fail
    |none=>.fail
   |none=>.fail
  |none=>.fail
 | .indexAddr T x i=>match E.ty T with
  |some ty=>match ty.elem with
   |some (_,r,_)=>withInt (ρ i) fun n=>match ρ x with
    | .mtk t=>.tok t fun z=>match z with
     |some (.live tk)=>need (0<=n/\n<tk.xs.length) (if tk.t=r then .val (.mptr t n.toNat 0)else .fail)
     |_=>.fail
    |x=>withRows r x fun xs=>.get (idx xs n) fun y=>.val (.ptr r y 0)
   |none=>.fail
  |none=>.fail
 | .index T x i=>match E.ty T with
  |some ty=>withInt (ρ i) fun n=>match ρ x with
   | .pv .str s=>if ty.str then .get (idx s n) fun b=>.val (.pv (.int .u8) b.toNat)else .fail
   |_=>.fail
  |none=>.fail
 | .extract x i=>match ρ x with
  | .tup cs=>match cs[i]? with
   |some c=>.val c
   |none=>.fail
  |_=>.fail
 | .slice T x lo hi none=>match E.ty T with
  |some ty=>match ρ x with
   | .pv .str s=>if ty.str then optInt 0 (lo.map ρ) fun l=>optInt s.length (hi.map ρ) fun h=>.get (cut s l h) fun y=>.val (.pv .str y)else .fail
   |x=>match ty.elem with
    |some (_,r,_)=>match x with
     | .mtk n=>.tok n fun z=>match z with
      |some (.live tk)=>if tk.t=r/\tk.tr=none then optInt 0 (lo.map ρ) fun l=>optInt tk.xs.length (hi.map ρ) fun h=>.get (cut tk.xs l h) fun y=>match keepName E dst lo tk.wr with
        |some d=>newTok E d tk.t y tk.e tk.deep [(n,some .spent)]
        |none=>bif lends E dst then .val (.sub n l.toNat h.toNat)else .ret ⟨.pv (.sl tk.t) y,[],[(n,some (.live tk.fz0))]⟩
       else .fail
      |_=>.fail
     |x=>match x.as (.sl r)with
      |some xs=>optInt 0 (lo.map ρ) fun l=>optInt (List.length (α:=r.D) xs) (hi.map ρ) fun h=>.get (cut (α:=r.D) xs l h) fun y=>.val (.pv (.sl r) y)
      |none=>.fail
    |none=>.fail
  |none=>.fail
 | .convert S T x=>match E.ty S,E.ty T with
  |some tyS,some ty=>match ρ x with
   | .pv (.int _) n=>match ty.int with
    |some k=>.val (.pv (.int k) (k.wrap n))
    |none=>.fail
   | .pv .str b=>if ty.str then .val (.pv .str b)else .fail
   |x=>match tyS.elem with
    |some (e,.int .u8,_)=>match(E.ty e).bind (·.int)with
     |some .u8=>if ty.str then withRows (.int .u8) x fun xs=>.val (.pv .str (bytesOf xs))else .fail
     |_=>.fail
    |_=>.fail
  |_,_=>.fail
 | .makeMap T r=>match r with
  |none=>makeMapRD E dst T
  |some _=>.fail
 | .lookup T x i ok=>match gmapOf (ρ x)with
  |some g=>glookRD E T g (ρ i) ok
  |none=>lookupRD E T (ρ x) (ρ i) ok
 | .mapUpdate T m k v=>mapUpdateRD E dst T (ρ m) (ρ k) (ρ v)
 | .range T x=>match gmapOf (ρ x)with
  |some g=>grangeRD E dst T g
  |none=>rangeRD E dst T (ρ x)
 | .entry x=>match gitOf (ρ x)with
  |some p=>gentryRD p.1 p.2
  |none=>entryRD (ρ x)
 | .makeFunc (.func f) first captured=>match first.toList with
  | []=>if(captured.toList.map ρ).all AV.leaf then .val (.clo f (captured.toList.map ρ))else .fail
  |_=>.fail
 | .call c=>match c.callee with
  | .value g=>match ρ g with
   | .clo f cs=>bif lends E dst then lendRD E f dst (c.args.toList.map ρ++cs)else callRD E f dst (c.args.toList.map ρ++cs)
   |_=>.fail
  | .builtin .len=>match c.args.toList,c.argTypes[0]? with
   | [x],some T=>match E.ty T with
    |some ty=>match ρ x with
     | .pv .str s=>if ty.str then .val (.pv (.int .i64) (s.length:Int))else .fail
     |x=>match ty.elem with
      |some (_,r,_)=>lenRD r x
      |none=>.fail
    |none=>.fail
   |_,_=>.fail
  | .builtin .clear=>match c.args.toList,c.argTypes[0]? with
   | [x],some T=>clearRD E T (ρ x)
   |_,_=>.fail
  | .builtin .min=>match c.args.toList with
   | [x,y]=>match ρ x with
    | .pv (.int k) a=>match ρ y with
     | .pv (.int _) b=>.val (.pv (.int k) (if b<a then b else a))
     |_=>.fail
    |_=>.fail
   | [x,y,z]=>match ρ x with
    | .pv (.int k) a=>match ρ y with
     | .pv (.int _) b=>match ρ z with
      | .pv (.int _) d=>.val (.pv (.int k) (if d<(if b<a then b else a)then d else(if b<a then b else a)))
      |_=>.fail
     |_=>.fail
    |_=>.fail
   |_=>.fail
  | .builtin .max=>match c.args.toList with
   | [x,y]=>match ρ x with
    | .pv (.int k) a=>match ρ y with
     | .pv (.int _) b=>.val (.pv (.int k) (if b>a then b else a))
     |_=>.fail
    |_=>.fail
   |_=>.fail
  | .builtin .append=>match dst,c.args.toList,c.argTypes.toList with
   |some d,[x,y],[T,T']=>if T=T' then match E.ty T with
    |some ty=>match ty.elem with
     |some (e,r,by')=>match ρ x with
      | .own t r' xs=>.tok t fun z=>match z with
       |some (.live tk)=>if h:r'=r then(if tk.e=e then appendRD E d e r by' tk.deep [(t,some .spent)] false (h▸xs) (ρ y)else .fail)else .fail
       |_=>.fail
      | .mtk t=>.tok t fun z=>match z with
       |some (.live tk)=>if h:tk.t=r/\tk.tr=none then(if tk.e=e then appendRD E d e r by' tk.deep [(t,some .spent)] tk.wr (h.1▸tk.xs) (ρ y)else .fail)else if h:tk.t=r/\tk.tr=some []then(if tk.e=e then appendTree E d e r by' t (h.1▸tk.xs) (ρ y)else .fail)else .fail
       |_=>.fail
      | .nils=>appendRD E d e r by' true [] (E.wr d) [] (ρ y)
      | .sub t lo k=>.tok t fun z=>match z with
       |some (.live tk)=>if tk.t=r/\tk.tr=none/\tk.wr=true/\tk.t.flatB=true/\E.wr d=true/\lo=0 then appendSub E d t k tk (ρ y)else .fail
       |_=>.fail
      |_=>.fail
     |none=>.fail
    |none=>.fail
    else .fail
   |_,_,_=>.fail
  |_=>.fail
 |_=>.fail
def skipEff :Eff:=⟨.tup [],[],[]⟩
def fp0 :FP:=⟨[],[],[],[]⟩
def runOps {ρ:Type} (E:Env) (all:Array Oper):List Oper->LSt->List FP->(LSt->List FP->Option ρ)->Option ρ
 | [],s,acc,K=>K s acc.reverse
 |o::l,s,acc,K=>
  let go (s:LSt):Option ρ:=(opRD E o.op o.dst s.ev).run s [] [] fun e fp=>runOps E all l (s.app o.dst e) (fp::acc) K
  let pass (s:LSt):Option ρ:=runOps E all l (s.app o.dst skipEff) (fp0::acc) K
  match o.guard with
  |none=>go s
  |some (j,want)=>match(all[j]?).bind (·.dst)with
   |none=>pass s
   |some t=>match getA s.L t with
    | .pv .bool b=>(match b with
     |true=>(let s:={s with L:=setA s.L t (.pv .bool true)};match want with|true=>go s|false=>pass s)
     |false=>(let s:={s with L:=setA s.L t (.pv .bool false)};match want with|true=>pass s|false=>go s))
    | .tup []=>pass s
    |_=>none
inductive Ghost where
 |out (slot:Nat) (path:List (Nat×Nat×Nat×Nat))
 |thaw (k c:Nat)
 |opn (k c:Nat)
 |outs (slot ix:Nat) (l:List (Nat×Nat×Nat))
 |adv (slot ix:Nat)
inductive Hint where
 |no
 |touch (gs:List Ghost)
 |seq (a b:Hint)
 |meet (s:Sh) (a b:Hint)
 |cond (a b:Hint)
 |block (a:Hint)
 |loop (s:Sh) (a:Hint)
def iter {δ ρ:Type} (F:(δ->Option ρ)->δ->Option ρ):Nat->δ->Option ρ
 |0,_=>none
 |n+1,x=>F (iter F n) x
def meet {δ ρ:Type} (J:δ->Option ρ) (X:(δ->Option ρ)->Option ρ):Option ρ:=X J
def Hint.seqs :Hint->Option Sh×Hint×Hint
 | .seq a b=>(none,a,b)
 | .meet s a b=>(some s,a,b)
 |_=>(none,.no,.no)
def Hint.conds :Hint->Hint×Hint
 | .cond a b=>(a,b)
 |_=>(.no,.no)
def Hint.blk :Hint->Hint
 | .block a=>a
 |_=>.no
def resOk (E:Env) (a:Acc):Bool:=a.rb.all (fun x=> !E.res x.1||x.1==x.2)&&a.rt.all (fun x=>match x.2 with
 |some n=> !E.res x.1||x.1==n
 |none=> !E.res x.1)
def Sh.to0 (E:Env) (s:Sh) (st:LSt):Option (HD s.codes):=match s.conv st.B st.T st.L with
 |some (y,a)=>if resOk E a then some y else none
 |none=>none
def LSt.plug (st:LSt):LSt:={st with T:=plugAll st.T}
def Sh.to (E:Env) (s:Sh) (st:LSt):Option (HD s.codes):=s.to0 E st.plug
def setOp (s:LSt) (c:Operand) (b:Bool):LSt:=match c with
 | .tmp t=>{s with L:=setA s.L t (.pv .bool b)}
 |_=>s
def ixOf :AV->Option Nat
 | .mptr _ i _=>some i
 | .pv (.int _) k=>some (Int.toNat k)
 |_=>none
def okKo {ρ:Type}:List (Nat×Nat×Nat)->Nat->Option ρ->Option ρ
 | [],_,K=>K
 |h::hs,i,K=>bif Nat.beq h.2.2 gone then(if h.1<=i then okKo hs i K else none)else okKo hs i K
def allAt {ρ:Type}:List (Nat×Nat×Nat)->Nat->Option ρ->Option ρ
 | [],_,K=>K
 |h::hs,i,K=>if h.1=i then allAt hs i K else none
def outRun {ρ:Type} (E:Env):List (Nat×Nat×Nat×Nat)->Nat->Nat->LSt->(LSt->Option ρ)->Option ρ
 | [],_,_,s,K=>K s
 |(o,d,e,ix)::p,n,i,s,K=>match lookT s.T n with
  |some (.live tk)=>match tk.tr with
   |some hs=>match findHole o hs with
    |some (i',d')=>if i'=i then(match p with
     | []=>K s
     |_::_=>match ixOf (getA s.L ix)with
      |some j=>outRun E p d' j s K
      |none=>none)else none
    |none=>okKo hs i<|Option.bind (tk.xs[i]?) fun y=>match(cellsOf tk.t y)[o]? with
     |some (.pv (.sl r) x)=>match lookT s.T d with
      |none=>match E.res d with
       |true=>none
       |false=>(match p with
       | []=>K {s with T:=setT (setT s.T n (some (.live {tk with tr:=some ((i,o,d)::hs)}))) d (some (.live ⟨r,x,e,true,true,bif r.flatB then none else some []⟩))}
       |_::_=>match ixOf (getA s.L ix)with
        |some j=>outRun E p d j {s with T:=setT (setT s.T n (some (.live {tk with tr:=some ((i,o,d)::hs)}))) d (some (.live ⟨r,x,e,true,true,bif r.flatB then none else some []⟩))} K
        |none=>none)
      |some _=>none
     |_=>none
   |none=>none
  |_=>none
def outsRun {ρ:Type} (E:Env):List (Nat×Nat×Nat)->Nat->Nat->LSt->(LSt->Option ρ)->Option ρ
 | [],_,_,s,K=>K s
 |(o,d,e)::l,n,i,s,K=>outRun E [(o,d,e,0)] n i s fun s=>outsRun E l n i s K
def mtkOf :AV->Option Nat
 | .mtk n=>some n
 |_=>none
def setTr (s:LSt) (n:Nat) (tk:Tok) (hs:List (Nat×Nat×Nat)):LSt:={s with T:=setT s.T n (some (.live {tk with tr:=some hs}))}
def ghostRun {ρ:Type} (E:Env):List Ghost->LSt->(LSt->Option ρ)->Option ρ
 | [],s,K=>K s
 | .out sl p::gs,s,K=>match getA s.L sl with
  | .mptr n i _=>outRun E p n i s fun s=>ghostRun E gs s K
  |_=>none
 | .thaw k c::gs,s,K=>match lookB s.B k with
  |some b=>match b.cs[c]? with
   |some (.mtk n)=>match lookT s.T n with
    |some (.live tk)=>match tk.tr with
     |some []=>ghostRun E gs {s with T:=setT s.T n (some (.live tk.thaw))} K
     |some (_::_)=>none
     |none=>ghostRun E gs s K
    |_=>none
   |_=>none
  |none=>none
 | .opn k c::gs,s,K=>match lookB s.B k with
  |some b=>match(b.cs[c]?).bind mtkOf with
   |some n=>match lookT s.T n with
    |some (.live tk)=>match tk.tr with
     |some []=>ghostRun E gs (setTr s n tk [(0,gone,gone)]) K
     |_=>none
    |_=>none
   |none=>none
  |none=>none
 | .outs sl ix l::gs,s,K=>match mtkOf (getA s.L sl)with
  |some n=>match ixOf (getA s.L ix)with
   |some i=>outsRun E l n i s fun s=>ghostRun E gs s K
   |none=>none
  |none=>none
 | .adv sl ix::gs,s,K=>match mtkOf (getA s.L sl)with
  |some n=>match ixOf (getA s.L ix)with
   |some i=>match lookT s.T n with
    |some (.live tk)=>match tk.tr with
     |some hs=>allAt hs i (ghostRun E gs (setTr s n tk [(i+1,gone,gone)]) K)
     |none=>none
    |_=>none
   |none=>none
  |none=>none
def hgt1 {ρ:Type _} (x:ρ):ρ:=x
def hgt2 {ρ:Type _} (x:ρ):ρ:=hgt1 x
def hgt3 {ρ:Type _} (x:ρ):ρ:=hgt2 x
def hgt4 {ρ:Type _} (x:ρ):ρ:=hgt3 x
def hgt5 {ρ:Type _} (x:ρ):ρ:=hgt4 x
def hgt6 {ρ:Type _} (x:ρ):ρ:=hgt5 x
def forceL {α ρ:Type _}:List α->(List α->ρ)->ρ
 | [],K=>K (hgt6 [])
 |x::l,K=>forceL l fun l'=>K (x::l')
def LSt.tidy {ρ:Type _} (s:LSt) (K:LSt->ρ):ρ:=forceL s.L fun L=>forceL s.B fun B=>forceL s.T fun T=>K ⟨L,B,T⟩
def Hint.ghosts :Hint->List Ghost
 | .touch gs=>gs
 |_=>[]
noncomputable def gnextRun {ρ:Type} (d:Option Nat) (k g:Nat) (s:LSt) (K:LSt->Option ρ):Option ρ:=match lookB s.B k with
 |some ⟨false,[.pv (.int .i64) b,.pv (.int .i64) _]⟩=>(match lookG gtab g with
  |some (.map kt vt _ es)=>
   bif(leftI (List.length (α:=kt.D×vt.D) es) (Int.toNat b)).isEmpty then K (s.app d ⟨.tup [.pv .bool false],[],[]⟩)
   else anyOf (leftI (List.length (α:=kt.D×vt.D) es) (Int.toNat b)) fun i=>K (s.app d ⟨.tup [.pv .bool true,.dead,.dead],[(k,⟨false,[.pv (.int .i64) ((Int.toNat b|||2^i:Nat):Int),.pv (.int .i64) ((i+1:Nat):Int)]⟩)],[]⟩)
  |_=>none)
 |_=>none
noncomputable def mnextRun {ρ:Type} (d:Option Nat) (x:AV) (s:LSt) (K:LSt->Option ρ):Option ρ:=match x with
 | .box k 0=>if kindN k=2 then(match lookB s.B k with
  |some ⟨false,[.box m q,.pv (.int .i64) n,.pv (.int .i64) b,.pv (.int .i64) _]⟩=>(match lookB s.B m with
   |some ⟨false,[.pv (.sl (.pair kt vt)) es]⟩=>if(List.length (α:=kt.D×vt.D) es:Int)=n then
     bif(leftI (List.length (α:=kt.D×vt.D) es) (Int.toNat b)).isEmpty then K (s.app d ⟨.tup [.pv .bool false],[],[]⟩)
     else anyOf (leftI (List.length (α:=kt.D×vt.D) es) (Int.toNat b)) fun i=>K (s.app d ⟨.tup [.pv .bool true,.dead,.dead],[(k,⟨false,[.box m q,.pv (.int .i64) n,.pv (.int .i64) ((Int.toNat b|||2^i:Nat):Int),.pv (.int .i64) ((i+1:Nat):Int)]⟩)],[]⟩)
    else none
   |_=>none)
  |_=>none)else none
 |_=>none
noncomputable def nextRun {ρ:Type} (d:Option Nat) (x:AV) (s:LSt) (K:LSt->Option ρ):Option ρ:=match gitOf x with
 |some p=>gnextRun d p.1 p.2 s K
 |none=>mnextRun d x s K
def nextOf (ops:List Oper) (draw:Bool):Option (Option Nat×Operand):=match draw,ops with
 |false,o::_=>match o.op,o.guard with
  | .next x false,none=>some (o.dst,x)
  |_,_=>none
 |_,_=>none
noncomputable def runC {ρ:Type} (N:Nat) (E:Env) (ok:List Oper->List FP->Bool):Code->Hint->LSt->(Exit->LSt->Option ρ)->Option ρ
 | .skip,_,s,K=>K .normal s
 | .region _ ops draw,h,s,K=>ghostRun E h.ghosts s fun s=>match nextOf ops.toList draw with
  |some (d,x)=>nextRun d (s.ev x) s fun s=>runOps E ops ops.toList.tail s [] fun s' _=>s'.tidy (K .normal)
  |none=>runOps E ops ops.toList s [] fun s' fps=>match draw with
  |true=>(match ok ops.toList fps with
   |true=>s'.tidy (K .normal)
   |false=>none)
  |false=>s'.tidy (K .normal)
 | .seq x y,h,s,K=>match h.seqs with
  |(none,hx,hy)=>runC N E ok x hx s fun e s'=>match e with
   | .normal=>runC N E ok y hy s' K
   |e=>K e s'
  |(some sh,hx,hy)=>
   meet (fun g:HD sh.codes=>runC N E ok y hy (sh.mk' g) K) fun J=>runC N E ok x hx s fun e s'=>match e with
    | .normal=>(match sh.to E s' with
     |some g=>J g
     |none=>none)
    |e=>K e s'
 | .cond c x y,h,s,K=>match s.ev c with
  | .pv .bool b=>(match b with
   |true=>runC N E ok x h.conds.1 (setOp s c true) K
   |false=>runC N E ok y h.conds.2 (setOp s c false) K)
  |_=>none
 | .block id b,h,s,K=>runC N E ok b h.blk s fun e s'=>match e with
  | .exit j=>(match Nat.beq j id with
   |true=>K .normal s'
   |false=>K (.exit j) s')
  |e=>K e s'
 | .exit id,_,s,K=>K (.exit id) s
 | .ret,_,s,K=>K .ret s
 | .label _,_,s,K=>K .normal s
 | .loop b,h,s,K=>match h with
  | .loop sh hb=>(match sh.to E s with
   |some g0=>iter (fun go g=>runC N E ok b hb (sh.mk' g) fun e s'=>match e with
    | .normal=>(match sh.to E s' with
     |some g=>go g
     |none=>none)
    |e=>K e s') N g0
   |none=>none)
  |_=>none
 |_,_,_,_=>none
def AV.one? :AV->Option AV
 | .tup _=>none
 |x=>some x
def resOne (E:Env) (s:LSt):ResultVar->Option AV
 | .tmp t=>(getA s.L t).one?
 | .cell a T=>match getA s.L a,E.ty T with
  | .box k o,some ty=>if mapName k then none else match lookB s.B k with
   |some b=>if ty.agg then(if o+ty.size<=b.cs.length then some (.agg ((b.cs.drop o).take ty.size))else none)else b.cs[o]?
   |none=>none
  |_,_=>none
def resL (E:Env) (s:LSt):List ResultVar->Option (List AV)
 | []=>some []
 |r::l=>match resOne E s r,resL E s l with
  |some x,some xs=>some (x::xs)
  |_,_=>none
def resA (E:Env) (s:LSt) (rs:List ResultVar):Option AV:=
 match resL E s rs with
 |some [x]=>some x
 |some xs=>some (.tup xs)
 |none=>none
def extras :List VS->List (Nat×Option TS)->List AV
 | [],_=>[]
 | .mtk n _ _ _::l,T=>(if liveB (lookT T n)then .mtk n else .dead)::extras l T
 | .tre n _ _::l,T=>(if liveB (lookT T n)then .mtk n else .dead)::extras l T
 |_::l,T=>.dead::extras l T
noncomputable def runF (N:Nat) (E:Env) (ok:List Oper->List FP->Bool) (fn:Func) (c:Code) (h:Hint) (arg ret:Sh) (a:HD arg.codes):Option (HD ret.codes):=
 let s:=arg.mk' a
 runC N E ok c h ⟨s.L++List.replicate (fn.ntmps-s.L.length) (.tup []),s.B,s.T⟩ fun e s'=>match e with
  | .normal| .ret=>match resA E s' fn.results.toList with
   |some v=>ret.to0 E ⟨v::extras ret.vals.tail s'.plug.T,s'.B,s'.plug.T⟩
   |none=>none
  |_=>none
abbrev Stab :=Nat->Nat->Prop
inductive Rep (w:World) (S:Stab):Value->PV->Prop where
 |bool (b:Bool):Rep w S (.bool b) (.bool b)
 |int (k:IntKind) (n:Int):Rep w S (.int k n) (.int k n)
 |str (s:ByteArray):Rep w S (.string s) (.str s)
 |nil:Rep w S (.pointer none) (.opt none)
 |ptr (row:List PV) (u:Nat->Value) (b o:Nat)
   (hs:∀(j:Nat) (c:PV),row[j]? =some c->S b (o+j))
   (hu:∀(j:Nat) (c:PV),row[j]? =some c->w.cell? ⟨b,o+j,none⟩=some (u j))
   (hr:∀(j:Nat) (c:PV),row[j]? =some c->Rep w S (u j) c):Rep w S (.pointer (some ⟨b,o,none⟩)) (.opt (some row))
 |sl (a:Option Addr) (cap:Nat) (rows:List (List PV)) (u:Nat->Nat->Value) (b o m:Nat) (hc:rows.length<=cap) (ha:rows≠ []->a=some ⟨b,o,none⟩)
   (hm:∀(i:Nat) (row:List PV),rows[i]? =some row->row.length=m)
   (hs:∀(i j:Nat) (row:List PV) (c:PV),rows[i]? =some row->row[j]? =some c->S b (o+i*m+j))
   (hu:∀(i j:Nat) (row:List PV) (c:PV),rows[i]? =some row->row[j]? =some c->w.cell? ⟨b,o+i*m+j,none⟩=some (u i j))
   (hr:∀(i j:Nat) (row:List PV) (c:PV),rows[i]? =some row->row[j]? =some c->Rep w S (u i j) c):Rep w S (.slice a rows.length cap) (.sl rows)
theorem Rep.mono {w w':World} {S S':Stab} (hS:∀b o,S b o->S' b o) (hw:∀b o,S b o->w'.cell? ⟨b,o,none⟩=w.cell? ⟨b,o,none⟩) {v:Value} {p:PV} (h:Rep w S v p):Rep w' S' v p:=by
 induction h with
 |bool b=>exact .bool b
 |int k n=>exact .int k n
 |str s=>exact .str s
 |nil=>exact .nil
 |ptr row u b o hs hu hr ih=>exact .ptr row u b o (fun j c h=>hS _ _ (hs j c h)) (fun j c h=>(hw _ _ (hs j c h)).trans (hu j c h)) ih
 |sl a cap rows u b o m hc ha hm hs hu hr ih=>
  exact .sl a cap rows u b o m hc ha hm (fun i j row c h1 h2=>hS _ _ (hs i j row c h1 h2)) (fun i j row c h1 h2=>(hw _ _ (hs i j row c h1 h2)).trans (hu i j row c h1 h2)) ih
theorem Rep.one {w:World} {S:Stab} {v:Value} {p:PV} (h:Rep w S v p):v.oneCell'=true:=by cases h<;>rfl
def CellsAt (w:World) (S:Stab) (b o:Nat) (row:List PV):Prop:=∀(j:Nat) (c:PV),row[j]? =some c->S b (o+j)/\∃u,w.cell? ⟨b,o+j,none⟩=some u/\Rep w S u c
theorem CellsAt.mono {w w':World} {S S':Stab} (hS:∀b o,S b o->S' b o) (hw:∀b o,S b o->w'.cell? ⟨b,o,none⟩=w.cell? ⟨b,o,none⟩) {b o:Nat} {row:List PV} (h:CellsAt w S b o row):CellsAt w' S' b o row:=by
 intro j c hj
 obtain⟨h1,u,h2,h3⟩:=h j c hj
 exact⟨hS _ _ h1,u,(hw _ _ h1).trans h2,h3.mono hS hw⟩
theorem Rep.optOpen {w:World} {S:Stab} {v:Value} {row:List PV} (h:Rep w S v (.opt (some row))):∃b o,v= .pointer (some ⟨b,o,none⟩)/\CellsAt w S b o row:=by
 cases h with
 |ptr row u b o hs hu hr=>exact⟨b,o,rfl,fun j c hj=>⟨hs j c hj,u j,hu j c hj,hr j c hj⟩⟩
theorem Rep.optMk {w:World} {S:Stab} {b o:Nat} {row:List PV} (h:CellsAt w S b o row):Rep w S (.pointer (some ⟨b,o,none⟩)) (.opt (some row)):=by
 refine .ptr row (fun j=>(w.cell? ⟨b,o+j,none⟩).getD undef) b o (fun j c hj=>(h j c hj).1) (fun j c hj=>?_) (fun j c hj=>?_)
 .obtain ⟨_,u,h2,_⟩:=h j c hj;simp[h2]
 .obtain ⟨_,u,h2,h3⟩:=h j c hj;simpa[h2]using h3
theorem Rep.opened {w:World} {S:Stab} {v:Value} {rows:List (List PV)} (h:Rep w S v (.sl rows)):
  ∃a cap b o m,v= .slice a rows.length cap/\rows.length<=cap/\(rows≠ []->a=some ⟨b,o,none⟩)/\(∀(i:Nat) (row:List PV),rows[i]? =some row->row.length=m)/\∀(i:Nat) (row:List PV),rows[i]? =some row->CellsAt w S b (o+i*m) row:=by
 cases h with
 |sl a cap rows u b o m hc ha hm hs hu hr=>
  exact⟨a,cap,b,o,m,rfl,hc,ha,hm,fun i row hi j c hj=>⟨hs i j row c hi hj,u i j,hu i j row c hi hj,hr i j row c hi hj⟩⟩
theorem Rep.mk {w:World} {S:Stab} {a:Option Addr} {cap b o m:Nat} {rows:List (List PV)} (hc:rows.length<=cap) (ha:rows≠ []->a=some ⟨b,o,none⟩)
  (hm:∀(i:Nat) (row:List PV),rows[i]? =some row->row.length=m) (hr:∀(i:Nat) (row:List PV),rows[i]? =some row->CellsAt w S b (o+i*m) row):Rep w S (.slice a rows.length cap) (.sl rows):=by
 refine .sl a cap rows (fun i j=>(w.cell? ⟨b,o+i*m+j,none⟩).getD undef) b o m hc ha hm (fun i j row c hi hj=>(hr i row hi j c hj).1) (fun i j row c hi hj=>?_) (fun i j row c hi hj=>?_)
 .obtain ⟨_,u,h2,_⟩:=hr i row hi j c hj
  simp[h2]
 .obtain ⟨_,u,h2,h3⟩:=hr i row hi j c hj
  simpa[h2]using h3
theorem rep_nils {w:World} {S:Stab}:Rep w S (.slice none 0 0) (.sl []):=Rep.mk (b:=0) (o:=0) (m:=0) (zae _) (fun h=>absurd rfl h) (fun i row h=>by simp at h) (fun i row h=>by simp at h)
inductive Deep (w:World):(Nat->Prop)->Value->AV->Prop where
 |lit (F:Nat->Prop) (v:Value) (t:Tp) (x:t.D) (p:PV) (he:enc t x=[p]) (hl:p.isLit=true) (hv:v=litOf p):Deep w F v (.pv t x)
 |nil (F:Nat->Prop) (r:Tp):Deep w F (.slice none 0 0) (.pv (.sl r) ([]:List r.D))
 |sl (F:Nat->Prop) (cap:Nat) (r:Tp) (xs:List r.D) (u:Nat->Nat->Value) (b:Nat) (q:Nat->Nat->Nat->Prop) (vs:Array Value) (T:TypeId) (hb:F b) (hg:w.heap[b]? =some (.cells vs T (0,0))) (hz:vs.size=cap*r.w) (hc:xs.length<=cap) (hx:cap<=maxLen)
   (hu:∀(i j:Nat) (x:r.D) (c:AV),xs[i]? =some x->(cellsOf r x)[j]? =some c->vs[i*r.w+j]? =some (u i j))
   (hq:∀i j k,q i j k->F k/\k≠b) (hd:∀i j i' j' k,q i j k->q i' j' k->i=i'/\j=j')
   (hr:∀(i j:Nat) (x:r.D) (c:AV),xs[i]? =some x->(cellsOf r x)[j]? =some c->Deep w (q i j) (u i j) c):Deep w F (.slice (some ⟨b,0,none⟩) xs.length cap) (.pv (.sl r) xs)
theorem Deep.same {w w':World} {F:Nat->Prop} {v:Value} {p:AV} (h:Deep w F v p) (hw:∀k,F k->w'.heap[k]? =w.heap[k]?):Deep w' F v p:=by
 induction h with
 |lit F v t x p he hl hv=>exact .lit F v t x p he hl hv
 |nil F r=>exact .nil F r
 |sl F cap r xs u b q vs T hb hg hz hc hx hu hq hd hr ih=>
  exact .sl F cap r xs u b q vs T hb ((hw b hb).trans hg) hz hc hx hu hq hd (fun i j x c h1 h2=>ih i j x c h1 h2 (fun k hk=>hw k (hq i j k hk).1))
theorem Deep.mono {w:World} {F G:Nat->Prop} {v:Value} {p:AV} (h:Deep w F v p) (hFG:∀k,F k->G k):Deep w G v p:=by
 cases h with
 |lit _ _ t x p he hl hv=>exact .lit G v t x p he hl hv
 |nil _ r=>exact .nil G r
 |sl _ cap r xs u b q vs T hb hg hz hc hx hu hq hd hr=>exact .sl G cap r xs u b q vs T (hFG _ hb) hg hz hc hx hu (fun i j k hk=>⟨hFG _ (hq i j k hk).1,(hq i j k hk).2⟩) hd hr
structure Ctx where
 w:World
 S:Stab
 live:Nat->Prop
 β:Nat->Nat
 tok:Nat->Option TS
 τ:Nat->Value
def refV (k b o:Nat):Value:=bif Nat.beq (kindN k) 1 then .map (some b)else .pointer (some ⟨b,o,none⟩)
theorem refV_ptr {k b o:Nat} (h:mapName k=false):refV k b o= .pointer (some ⟨b,o,none⟩):=by unfold refV;rw[kindN_0.1 h];rfl
theorem refV_map {k b o:Nat} (h:kindN k=1):refV k b o= .map (some b):=by unfold refV;rw[h];rfl
theorem refV_iter {k b o:Nat} (h:kindN k=2):refV k b o= .pointer (some ⟨b,o,none⟩):=by unfold refV;rw[h];rfl
theorem refV_one (k b o:Nat):(refV k b o).oneCell'=true:=by unfold refV;cases Nat.beq (kindN k) 1<;>rfl
def V0 (c:Ctx):AV->Value->Prop
 | .dead,_=>True
 | .pv t x,v=>∃p,enc t x=[p]/\Rep c.w c.S v p
 | .nils,v=>v= .slice none 0 0
 | .nilp,v=>v= .pointer none
 | .box k o,v=>c.live k/\v=refV k (c.β k) o
 | .ptr t x o,v=>∃b s,v= .pointer (some ⟨b,s+o,none⟩)/\CellsAt c.w c.S b s (enc t x)
 | .own n t xs,v=>Rep c.w c.S v (.sl (xs.map (enc t)))/\c.tok n≠none/\∀tk,c.tok n=some (.live tk)->tk.wr=false/\v=c.τ n/\(⟨tk.t,tk.xs⟩:(t:Tp)×List t.D)=⟨t,xs⟩
 | .mtk n,v=>v.oneCell'=true/\c.tok n≠none/\∀tk,c.tok n=some (.live tk)->v=c.τ n
 | .mptr n i o,v=>v.oneCell'=true/\c.tok n≠none/\∀tk,c.tok n=some (.live tk)->∃b l cap,c.τ n= .slice (some ⟨b,0,none⟩) l cap/\i<l/\v= .pointer (some ⟨b,i*tk.t.w+o,none⟩)
 | .gmap g,v=>c.S g 0/\c.w.cell? ⟨g,0,none⟩=some v/\v.oneCell'=true
 | .agg _,_=>False
 | .tup _,_=>False
 | .clo _ _,_=>False
 | .sub n l h,v=>v.oneCell'=true/\c.tok n≠none/\∀tk,c.tok n=some (.live tk)->∃ad len cap,c.τ n= .slice ad len cap/\l<=h/\h<=len/\len<=cap/\v= .slice (if cap=l then ad else ad.map (·.add (l*tk.t.w))) (h-l) (cap-l)
def All2 {α β:Type} (P:α->β->Prop):List α->List β->Prop
 | [],[]=>True
 |a::xs,b::ys=>P a b/\All2 P xs ys
 |_,_=>False
def V1 (c:Ctx):AV->Value->Prop
 | .clo f cs,v=>∃us:List Value,v= .func (.func f) #[] us.toArray/\All2 (V0 c) cs us
 |x,v=>V0 c x v
def V1c (c:Ctx) (x:AV) (v:Value):Prop:=V1 c x v/\v.oneCell'=true
def V2 (c:Ctx):AV->Value->Prop
 | .agg cs,v=>∃vs,v= .agg (List.toArray vs)/\All2 (V1c c) cs vs
 |x,v=>V1 c x v
def V3 (c:Ctx):AV->Value->Prop
 | .tup cs,v=>∃vs,v= .tuple (List.toArray vs)/\All2 (V2 c) cs vs
 |x,v=>V2 c x v
theorem All2.len {α β:Type} {P:α->β->Prop}:∀ {xs:List α} {ys:List β},All2 P xs ys->xs.length=ys.length
 | [],[],_=>rfl
 |_::xs,_::ys,h=>by simp[All2.len h.2]
 | [],_::_,h=>h.elim
 |_::_,[],h=>h.elim
theorem All2.imp {α β:Type} {P Q:α->β->Prop} (hPQ:∀a b,P a b->Q a b):∀ {xs:List α} {ys:List β},All2 P xs ys->All2 Q xs ys
 | [],[],_=>True.intro
 |_::xs,_::ys,h=>⟨hPQ _ _ h.1,All2.imp hPQ h.2⟩
 | [],_::_,h=>h.elim
 |_::_,[],h=>h.elim
theorem All2.get {α β:Type} {P:α->β->Prop}:∀ {xs:List α} {ys:List β},All2 P xs ys->∀(i:Nat) (a:α),xs[i]? =some a->∃b,ys[i]? =some b/\P a b
 | [],[],_,i,a,ha=>by simp at ha
 |x::xs,y::ys,h,0,a,ha=>by simp at ha;subst ha;exact⟨y,rfl,h.1⟩
 |x::xs,y::ys,h,i+1,a,ha=>by simpa using All2.get h.2 i a (by simpa using ha)
 | [],_::_,h,_,_,_=>h.elim
 |_::_,[],h,_,_,_=>h.elim
theorem All2.of_get {α β:Type} {P:α->β->Prop}:∀ {xs:List α} {ys:List β},xs.length=ys.length->(∀(i:Nat) (a:α) (b:β),xs[i]? =some a->ys[i]? =some b->P a b)->All2 P xs ys
 | [],[],_,_=>True.intro
 |x::xs,y::ys,hl,h=>⟨h 0 x y rfl rfl,All2.of_get (by simpa using hl) (fun i a b ha hb=>h (i+1) a b (by simpa using ha) (by simpa using hb))⟩
 | [],_::_,hl,_=>by simp at hl
 |_::_,[],hl,_=>by simp at hl
theorem All2.get' {α β:Type} {P:α->β->Prop} {xs:List α} {ys:List β} (h:All2 P xs ys) (i:Nat) (a:α) (b:β) (ha:xs[i]? =some a) (hb:ys[i]? =some b):P a b:=by
 obtain⟨b',hb',hp⟩:=h.get i a ha
 rw[hb]at hb';cases hb';exact hp
theorem All2.append {α β:Type} {P:α->β->Prop}:∀ {xs:List α} {ys:List β} {xs':List α} {ys':List β},All2 P xs ys->All2 P xs' ys'->All2 P (xs++xs') (ys++ys')
 | [],[],_,_,_,h=>h
 |_::xs,_::ys,_,_,h,h'=>⟨h.1,All2.append h.2 h'⟩
 | [],_::_,_,_,h,_=>h.elim
 |_::_,[],_,_,h,_=>h.elim
theorem All2.take {α β:Type} {P:α->β->Prop} {xs:List α} {ys:List β} (h:All2 P xs ys) (n:Nat):All2 P (xs.take n) (ys.take n):=
 All2.of_get (by simp[h.len]) (fun i a b ha hb=>by
  rw[zaH]at ha hb
  split at ha
  .rw [zf ‹_›]at hb;exact h.get' i a b ha hb
  .cases ha)
theorem All2.drop {α β:Type} {P:α->β->Prop} {xs:List α} {ys:List β} (h:All2 P xs ys) (n:Nat):All2 P (xs.drop n) (ys.drop n):=
 All2.of_get (by simp[h.len]) (fun i a b ha hb=>by
  rw[zaL]at ha hb
  exact h.get' _ a b ha hb)
structure Ctx.Le (c c':Ctx):Prop where
 S:∀b o,c.S b o->c'.S b o
 w:∀b o,c.S b o->c'.w.cell? ⟨b,o,none⟩=c.w.cell? ⟨b,o,none⟩
def TokLe (c c':Ctx):Prop:=∀t,c.tok t≠none->c'.tok t≠none/\∀tk',c'.tok t=some (.live tk')->∃tk,c.tok t=some (.live tk)/\c'.τ t=c.τ t/\tk'.t=tk.t/\(tk.wr=false->tk'.wr=false/\(⟨tk'.t,tk'.xs⟩:(t:Tp)×List t.D)=⟨tk.t,tk.xs⟩)
def BoxLe (c c':Ctx):Prop:=∀k,c.live k->c'.live k/\c'.β k=c.β k
theorem TokLe.refl {c c':Ctx} (ht:c'.tok=c.tok) (hτ:c'.τ=c.τ):TokLe c c':=fun t h=>⟨by rw[ht];exact h,fun tk htk=>⟨tk,by rw[<-ht];exact htk,by rw[hτ],rfl,fun h=>⟨h,rfl⟩⟩⟩
theorem BoxLe.refl {c c':Ctx} (hl:c'.live=c.live) (hβ:c'.β=c.β):BoxLe c c':=fun k h=>⟨by rw[hl];exact h,by rw[hβ]⟩
section
variable {c c' : Ctx} (h : c.Le c') (hb : BoxLe c c') (ht : TokLe c c')
include h hb ht
theorem V0.mono {x:AV} {v:Value} (hx:V0 c x v):V0 c' x v:=by
 cases x with
 |dead=>exact True.intro
 |pv t y=>obtain⟨p,e,hr⟩:=hx;exact⟨p,e,hr.mono h.S h.w⟩
 |nils=>exact hx
 |nilp=>exact hx
 |box k o=>obtain⟨h1,h2⟩:=hx;exact⟨(hb k h1).1,by rw[(hb k h1).2];exact h2⟩
 |ptr t y o=>obtain⟨b,s,e,hc⟩:=hx;exact⟨b,s,e,hc.mono h.S h.w⟩
 |own n t xs=>
  obtain⟨h0,h3⟩:=ht n hx.2.1
  refine⟨Rep.mono h.S h.w hx.1,h0,fun tk' htk=>?_⟩
  obtain⟨tk,h1,h2,h4,h5⟩:=h3 tk' htk
  obtain⟨e1,e2,e3⟩:=hx.2.2 tk h1
  exact⟨(h5 e1).1,by rw[h2];exact e2,(h5 e1).2.trans e3⟩
 |mtk n=>
  obtain⟨h0,h3⟩:=ht n hx.2.1
  refine⟨hx.1,h0,fun tk' htk=>?_⟩
  obtain⟨tk,h1,h2,_⟩:=h3 tk' htk
  rw[h2];exact hx.2.2 tk h1
 |mptr n i o=>
  obtain⟨h0,h3⟩:=ht n hx.2.1
  refine⟨hx.1,h0,fun tk' htk=>?_⟩
  obtain⟨tk,h1,h2,h4,_⟩:=h3 tk' htk
  rw[h2,h4];exact hx.2.2 tk h1
 |sub n l k=>
  obtain⟨h0,h3⟩:=ht n hx.2.1
  refine⟨hx.1,h0,fun tk' htk=>?_⟩
  obtain⟨tk,h1,h2,h4,_⟩:=h3 tk' htk
  rw[h2,h4];exact hx.2.2 tk h1
 |gmap g=>exact⟨h.S _ _ hx.1,(h.w _ _ hx.1).trans hx.2.1,hx.2.2⟩
 |agg cs=>exact hx.elim
 |tup cs=>exact hx.elim
 |clo f cs=>exact hx.elim
theorem V1.mono {x:AV} {v:Value} (hx:V1 c x v):V1 c' x v:=by
 cases x with
 |clo f cs=>obtain⟨us,e,ha⟩:=hx;exact⟨us,e,ha.imp fun a b hab=>V0.mono h hb ht hab⟩
 |_=>simp only[V1]at hx⊢;exact V0.mono h hb ht hx
theorem V2.mono {x:AV} {v:Value} (hx:V2 c x v):V2 c' x v:=by
 cases x with
 |agg cs=>obtain⟨vs,e,ha⟩:=hx;exact⟨vs,e,ha.imp (fun a b hab=>⟨V1.mono h hb ht hab.1,hab.2⟩)⟩
 |_=>simp only[V2]at hx⊢;exact V1.mono h hb ht hx
theorem V3.mono {x:AV} {v:Value} (hx:V3 c x v):V3 c' x v:=by
 cases x with
 |tup cs=>obtain⟨vs,e,ha⟩:=hx;exact⟨vs,e,ha.imp (fun a b hab=>V2.mono h hb ht hab)⟩
 |_=>simp only[V3]at hx⊢;exact V2.mono h hb ht hx
end
theorem V1_of_V0 {c:Ctx} {x:AV} {v:Value} (h:V0 c x v):V1 c x v:=by cases x<;>first|exact h|exact h.elim
theorem V2_of_V1 {c:Ctx} {x:AV} {v:Value} (h:V1 c x v):V2 c x v:=by cases x<;>first|exact h|exact h.elim
theorem V3_of_V2 {c:Ctx} {x:AV} {v:Value} (h:V2 c x v):V3 c x v:=by cases x<;>first|exact h|exact h.elim
theorem V3_of_V1 {c:Ctx} {x:AV} {v:Value} (h:V1 c x v):V3 c x v:=V3_of_V2 (V2_of_V1 h)
theorem encQ_len (x:DQ):(encQ x).length=6:=by cases x;rfl
theorem enc_len :∀(t:Tp) (x:t.D),(enc t x).length=t.w
 | .bool,_=>rfl
 | .int _,_=>rfl
 | .str,_=>rfl
 | .unit,_=>rfl
 | .pair a b,x=>by simp[enc,Tp.w,enc_len a,enc_len b]
 | .sl _,_=>rfl
 | .opt _,_=>rfl
 | .q,x=>encQ_len x
theorem encQs_eq (xs:List DQ):encQs xs=xs.map encQ:=by
 induction xs with
 |nil=>rfl
 |cons x xs ih=>simp[encQs,ih]
theorem cells_enc :∀(t:Tp) (x:t.D),All2 (fun(c:AV) (p:PV)=>∃t x,c= .pv t x/\enc t x=[p]) (cellsOf t x) (enc t x)
 | .bool,x=>⟨⟨_,_,rfl,rfl⟩,True.intro⟩
 | .int _,x=>⟨⟨_,_,rfl,rfl⟩,True.intro⟩
 | .str,x=>⟨⟨_,_,rfl,rfl⟩,True.intro⟩
 | .unit,_=>True.intro
 | .pair a b,x=>(cells_enc a x.1).append (cells_enc b x.2)
 | .sl _,x=>⟨⟨_,_,rfl,rfl⟩,True.intro⟩
 | .opt _,x=>⟨⟨_,_,rfl,rfl⟩,True.intro⟩
 | .q,.mk k f ws a b kids=>⟨⟨_,_,rfl,rfl⟩,⟨_,_,rfl,rfl⟩,⟨_,_,rfl,by simp[enc,DQ.words]⟩,⟨_,_,rfl,rfl⟩,⟨_,_,rfl,rfl⟩,⟨.sl .q,kids,rfl,by simp only[enc,encQs_eq]⟩,True.intro⟩
theorem cells_len (t:Tp) (x:t.D):(cellsOf t x).length=t.w:=by rw[(cells_enc t x).len,enc_len]
theorem Rep.ofLit {w:World} {S:Stab} {p:PV} (h:p.isLit=true):Rep w S (litOf p) p:=by
 cases p with
 |bool b=>exact .bool b
 |int k n=>exact .int k n
 |str s=>exact .str s
 |sl rows=>cases h
 |opt row=>cases h
theorem Deep.rep {w:World} {S:Stab} {F:Nat->Prop} {v:Value} {c:AV} (h:Deep w F v c):(∀b o,F b->S b o)->∃(t:Tp) (x:t.D) (p:PV),c= .pv t x/\enc t x=[p]/\Rep w S v p:=by
 induction h with
 |lit F v t x p he hl hv=>exact fun _=>⟨t,x,p,rfl,he,hv▸Rep.ofLit hl⟩
 |nil F r=>exact fun _=>⟨.sl r,[],.sl [],rfl,rfl,rep_nils⟩
 |sl F cap r xs u b q vs T hb hg hz hc hx hu hq hd hr ih=>
  intro hS
  refine⟨.sl r,xs,.sl (xs.map (enc r)),rfl,rfl,?_⟩
  rw[show xs.length=(xs.map (enc r)).length from by simp]
  refine Rep.mk (b:=b) (o:=0) (m:=r.w) (by simpa using hc) (fun _=>rfl) (fun i row hi=>?_) (fun i row hi j c hj=>?_)
  .rw [zaF]at hi
   obtain⟨x,_,rfl⟩:=zaA.1 hi
   exact enc_len r x
  .rw [zaF]at hi
   obtain⟨x,hx,rfl⟩:=zaA.1 hi
   have hall:=cells_enc r x
   obtain⟨c',hc'⟩:∃c',(cellsOf r x)[j]? =some c':=by
    have:j<(cellsOf r x).length:=by rw[hall.len];exact(zh.1 hj).1
    exact⟨_,zc this⟩
   obtain⟨t',x',rfl,he⟩:=hall.get' j c' c hc' hj
   obtain⟨t2,x2,p2,e1,e2,e3⟩:=ih i j x _ hx hc' (fun b o hk=>hS b o (hq i j b hk).1)
   cases e1
   rw[he]at e2
   cases e2
   refine⟨hS _ _ hb,u i j,?_,e3⟩
   rw[zaY,cell_of_row w b _ vs T (0,0) hg]
   exact hu i j x _ hx hc'
theorem Upd.on {p q:Blk} {a b c:World} (h:Upd p a b) (k:Upd q b c) (hq:∀i,q i->i<a.heap.size->p i):Upd p a c:=
 ⟨k.os.trans h.os,k.tape.trans h.tape,k.output.trans h.output,zau h.size k.size,fun i hi hn=>(k.block i (zbi hi h.size) (fun hf=>hn (hq i hf hi))).trans (h.block i hi hn)⟩
abbrev Ords :=Nat->Nat×Array MapEntry×Nat
structure Root where
 W:World
 X:Nat->Prop
 S0:Stab
 bn:Nat->Option Nat
 tn:Nat->Option Value
 G:Ords
def Root.fr (R:Root) (b:Nat):Prop:=R.W.heap.size<=b\/R.X b
def Inn (hs:List (Nat×Nat×Nat)) (i j:Nat):Prop:=(∀d,(i,j,d)∉hs)/\∀k,(k,gone,gone)∈hs->k<=i
theorem Inn.nil (i j:Nat):Inn [] i j:=⟨fun d=>by simp,fun k h=>by cases h⟩
theorem Inn.of {hs hs':List (Nat×Nat×Nat)} {i j:Nat} (h:Inn hs' i j) (hh:∀x,x∈hs->x∈hs'):Inn hs i j:=⟨fun d hd=>h.1 d (hh _ hd),fun k hk=>h.2 k (hh _ hk)⟩
def Tree (w:World) (F:Nat->Prop) (v:Value) (r:Tp) (xs:List r.D) (hs:List (Nat×Nat×Nat)):Prop:=
 v= .slice none 0 0\/ ∃(b cap:Nat) (q:Nat->Nat->Nat->Prop),v= .slice (some ⟨b,0,none⟩) xs.length cap/\(∀i j k,q i j k->F k/\k≠b)/\(∀i j i' j' k,q i j k->q i' j' k->i=i'/\j=j')/\
  ∀(i j:Nat) (x:r.D) (c:AV),xs[i]? =some x->(cellsOf r x)[j]? =some c->∃u,w.cell? ⟨b,i*r.w+j,none⟩=some u/\u.oneCell'=true/\(Inn hs i j->Deep w (q i j) u c)
def Once (w:World) (S:Stab) (tk:Tok) (v:Value) (F:Nat->Prop):Prop:=match tk.tr with
 |none=>tk.deep=true->Deep w F v (.pv (.sl tk.t) tk.xs)
 |some hs=>tk.wr=true/\tk.deep=true/\(∀b,F b->∀o,¬S b o)/\Tree w F v tk.t tk.xs hs
def TokOk (Fr:Nat->Prop) (w:World) (S:Stab) (tk:Tok) (v:Value) (F:Nat->Prop):Prop:=
 (∀b,F b->Fr b/\b<w.heap.size)/\
 ((v= .slice none 0 0/\tk.xs=[])\/ ∃b cap vs T,v= .slice (some ⟨b,0,none⟩) tk.xs.length cap/\F b/\w.heap[b]? =some (.cells vs T (0,0))/\vs.size=cap*tk.t.w/\tk.xs.length<=cap/\cap<=maxLen/\
  (tk.wr=false->∀o,S b o->o<tk.xs.length*tk.t.w)/\(tk.wr=true->∀o,¬S b o)/\
  ∀(i j:Nat) (x:tk.t.D) (p:PV),tk.xs[i]? =some x->(enc tk.t x)[j]? =some p->∃u,vs[i*tk.t.w+j]? =some u/\(tk.tr=none->Rep w S u p)/\(tk.wr=false->S b (i*tk.t.w+j)))/\
 Once w S tk v F
def litV (t:Tp) (x:t.D):Value:=match enc t x with
 | [p]=>litOf p
 |_=>undef
def MapAt (w:World) (b:Nat) (cs:List AV):Prop:=
 ∃(kt vt:Tp) (es:List (kt.D×vt.D)) (ents:Array MapEntry) (clk:Nat),(cs=[.pv (.sl (.pair kt vt)) es]\/cs=[.dead])/\w.heap[b]? =some (.map ents clk)/\ents.toList.map (fun e=>(e.key,e.val))=es.map (fun x=>(litV kt x.1,litV vt x.2))/\clk=ents.size/\ents.toList.map (·.born)=List.range ents.size
def IterB (w:World) (b:Nat) (vs:List Value):Prop:=
 ∃(bm n m:Nat) (seen:Array Nat),vs=[.map (some bm),.int .i64 (n:Int),.int .i64 (m:Int),.int .i64 ((seen.toList.getLast?.map (· +1)).getD 0:Nat)]/\w.heap[b]? =some (.mapIter (some bm) n seen n)/\∀i,m.testBit i=true↔i∈seen.toList
def GIter (G:Ords) (w:World) (b g:Nat) (vs:List Value):Prop:=
 ∃(kt vt:Tp) (agg:Bool) (es:List (kt.D×vt.D)) (m c:Nat) (seen:Array Nat),lookG gtab g=some (.map kt vt agg es)/\vs=[.int .i64 (m:Int),.int .i64 (c:Int)]/\w.heap[b]? =some (.mapIter (some (G g).1) (G g).2.2 seen (G g).2.2)/\
  (∀i e,es[i]? =some e->(m.testBit i=true↔∃x,x∈(G g).2.1.toList/\x.key=litV kt e.1/\x.born∈seen.toList))/\(0<c->∃(e:kt.D×vt.D) (x:MapEntry) (ys:Array Nat),es[c-1]? =some e/\x∈(G g).2.1.toList/\x.key=litV kt e.1/\seen=ys.push x.born)
def BoxAt (G:Ords) (c:Ctx) (k b:Nat) (cs:List AV):Prop:=
 (mapName k=false/\∃vs T,c.w.heap[b]? =some (.cells (List.toArray vs) T (0,0))/\All2 (V1c c) cs vs)\/(kindN k=1/\MapAt c.w b cs)\/(kindN k=2/\∃vs,IterB c.w b vs/\All2 (V1c c) cs vs)\/(∃g,kindN k=g+3/\∃vs,GIter G c.w b g vs/\All2 (V1c c) cs vs)
theorem BoxAt.imp {G:Ords} {c c':Ctx} {k b:Nat} {cs:List AV} (h:BoxAt G c k b cs) (hh:c'.w.heap[b]? =c.w.heap[b]?) (hv:∀x v,V1c c x v->V1c c' x v):BoxAt G c' k b cs:=by
 rcases h with⟨h1,vs,T,h2,h3⟩|⟨h1,kt,vt,es,ents,clk,h2,h3,h4⟩|⟨h1,vs,⟨bm,n,m,seen,h2,h3,h4⟩,h5⟩|⟨g,h1,vs,⟨kt,vt,agg,es,m,n,seen,h0,h2,h3,h4⟩,h5⟩
 .exact .inl ⟨h1,vs,T,hh.trans h2,h3.imp hv⟩
 .exact .inr (.inl ⟨h1,kt,vt,es,ents,clk,h2,hh.trans h3,h4⟩)
 .exact .inr (.inr (.inl ⟨h1,vs,⟨bm,n,m,seen,h2,hh.trans h3,h4⟩,h5.imp hv⟩))
 .exact .inr (.inr (.inr ⟨g,h1,vs,⟨kt,vt,agg,es,m,n,seen,h0,h2,hh.trans h3,h4⟩,h5.imp hv⟩))
theorem BoxAt.lt {G:Ords} {c:Ctx} {k b:Nat} {cs:List AV} (h:BoxAt G c k b cs):b<c.w.heap.size:=by
 rcases h with⟨_,vs,T,h2,_⟩|⟨_,kt,vt,es,ents,clk,_,h3,_⟩|⟨_,vs,⟨bm,n,m,seen,_,h3,_⟩,_⟩|⟨_,_,vs,⟨_,_,_,_,_,_,_,_,_,h3,_⟩,_⟩
 .exact lt_of_at h2
 .exact lt_of_at h3
 .exact lt_of_at h3
 .exact lt_of_at h3
theorem BoxAt.cells {G:Ords} {c:Ctx} {k b:Nat} {cs:List AV} (h:BoxAt G c k b cs) (hk:mapName k=false):∃vs T,c.w.heap[b]? =some (.cells (List.toArray vs) T (0,0))/\All2 (V1c c) cs vs:=by
 rcases h with⟨_,h⟩|⟨h,_⟩|⟨h,_⟩|⟨_,h,_⟩
 .exact h
 .rw [kindN_0.1 hk]at h;cases h
 .rw [kindN_0.1 hk]at h;cases h
 .rw [kindN_0.1 hk]at h;cases h
structure Mem (R:Root) (box:Nat->Option BS) (tok:Nat->Option TS) (β:Nat->Nat) (τ:Nat->Value) (F:Nat->Nat->Prop) (S:Stab) (w:World):Prop where
 upd:Upd R.X R.W w
 old:∀b o,R.S0 b o->S b o
 new:∀b o,S b o->R.S0 b o\/R.fr b
 keep:∀b o,R.S0 b o->w.cell? ⟨b,o,none⟩=R.W.cell? ⟨b,o,none⟩
 lt:∀b o,S b o->b<w.heap.size
 boxes:∀k b,box k=some b->R.fr (β k)/\(b.fz=false->∀o,¬S (β k) o)/\(b.fz=true->∀o,o<b.cs.length->S (β k) o)/\BoxAt R.G ⟨w,S,fun k=>box k≠none,β,tok,τ⟩ k (β k) b.cs
 binj:∀k k' b b',box k=some b->box k'=some b'->β k=β k'->k=k'
 toks:∀t tk,tok t=some (.live tk)->TokOk R.fr w S tk (τ t) (F t)
 tdis:∀t t' tk tk' b,tok t=some (.live tk)->tok t'=some (.live tk')->F t b->F t' b->t=t'
 tbox:∀t tk k b,tok t=some (.live tk)->box k=some b->¬F t (β k)
 bfix:∀k b,R.bn k=some b->box k≠none->β k=b
 tfix:∀t v tk,R.tn t=some v->tok t=some (.live tk)->τ t=v
 hol:∀n tk hs i o d,tok n=some (.live tk)->tk.tr=some hs->(i,o,d)∈hs->d≠gone->tok d≠none/\∀td,tok d=some (.live td)->∃b l cap,τ n= .slice (some ⟨b,0,none⟩) l cap/\w.cell? ⟨b,i*tk.t.w+o,none⟩=some (τ d)
theorem TokOk.block {Fr:Nat->Prop} {w:World} {S:Stab} {tk:Tok} {v:Value} {F:Nat->Prop} (h:TokOk Fr w S tk v F) {b l cap:Nat} (e:v= .slice (some ⟨b,0,none⟩) l cap):F b:=by
 rcases h.2.1 with⟨h1,_⟩|⟨b',cap',vs,T,h1,h2,_⟩
 .rw [h1]at e;cases e
 .rw [h1]at e;cases e;exact h2
def LSt.ctx (s:LSt) (w:World) (S:Stab) (β:Nat->Nat) (τ:Nat->Value):Ctx:=⟨w,S,fun k=>lookB s.B k≠none,β,lookT s.T,τ⟩
def Rel (R:Root) (s:LSt) (a:Act) (w:World):Prop:=
 ∃β τ F S,Mem R (lookB s.B) (lookT s.T) β τ F S w/\a.tmps.size=s.L.length/\a.defers=[]/\∀i,V3 (s.ctx w S β τ) (getA s.L i) (a.tmps.getD i undef)
section
variable {R : Root} {w w' : World} {S S' : Stab} {box : Nat -> Option BS} {tok : Nat -> Option TS} {β : Nat -> Nat} {τ : Nat -> Value} {F : Nat -> Nat -> Prop}
theorem Mem.size (h:Mem R box tok β τ F S w):R.W.heap.size<=w.heap.size:=h.upd.size
theorem Mem.blt (h:Mem R box tok β τ F S w) {k:Nat} {b:BS} (hk:box k=some b):β k<w.heap.size:=by
 exact(h.boxes k b hk).2.2.2.lt
structure Step (X:Nat->Prop) (S S':Stab) (w w':World):Prop where
 upd:Upd X w w'
 cell:∀b o,S b o->w'.cell? ⟨b,o,none⟩=w.cell? ⟨b,o,none⟩
 old:∀b o,S b o->S' b o
 new:∀b o,S' b o->S b o\/w.heap.size<=b\/X b
 lt:∀b o,S' b o->b<w'.heap.size
theorem Step.of_below (hb:Below w.heap.size w w') (hl:∀b o,S b o->b<w.heap.size) (hS:∀b o,S b o->S' b o) (hN:∀b o,S' b o->S b o\/w.heap.size<=b) (hL:∀b o,S' b o->b<w'.heap.size):Step (fun _=>False) S S' w w':=
 ⟨Upd.of_below hb,fun b o h=>(bcell hb).1 b o (hl b o h),hS,fun b o h=>(hN b o h).imp id .inl,hL⟩
theorem Step.le {X:Nat->Prop} (h:Step X S S' w w') (live:Nat->Prop) (tok':Nat->Option TS) (live':Nat->Prop) (β':Nat->Nat) (τ':Nat->Value):Ctx.Le ⟨w,S,live,β,tok,τ⟩ ⟨w',S',live',β',tok',τ'⟩:=⟨h.old,h.cell⟩
theorem Tree.same {F:Nat->Prop} {v:Value} {r:Tp} {xs:List r.D} {hs:List (Nat×Nat×Nat)} (h:Tree w F v r xs hs) (hb:∀b l cap,v= .slice (some ⟨b,0,none⟩) l cap->w'.heap[b]? =w.heap[b]?) (hw:∀k,F k->w'.heap[k]? =w.heap[k]?):Tree w' F v r xs hs:=by
 rcases h with h|⟨b,cap,q,e,hq,hd,hc⟩
 .exact .inl h
 .exact .inr ⟨b,cap,q,e,hq,hd,fun i j x c hx hc'=>by
   obtain⟨u,h1,h2,h3⟩:=hc i j x c hx hc'
   exact⟨u,(World.cell?_of_block (w:=w) (hb b _ _ e)).trans h1,h2,fun hh=>(h3 hh).same fun k hk=>hw k (hq i j k hk).1⟩⟩
theorem TokOk.step {X:Nat->Prop} {Fr:Nat->Prop} {tk:Tok} {v:Value} {G:Nat->Prop} (h:TokOk Fr w S tk v G) (hs:Step X S S' w w') (hX:∀k,G k->¬X k):TokOk Fr w' S' tk v G:=by
 have hblk:=fun {b l cap:Nat} (e:v= .slice (some ⟨b,0,none⟩) l cap)=>h.block e
 obtain⟨h1,h3,h4⟩:=h
 have backF:∀b,G b->∀o,S' b o->S b o:=fun b hg o ho=>by
  rcases hs.new b o ho with h|h|h
  .exact h
  .have:=(h1 b hg).2;omega
  .exact absurd h (hX b hg)
 have same:∀k,G k->w'.heap[k]? =w.heap[k]? :=fun k hk=>hs.upd.block k (h1 k hk).2 (hX k hk)
 refine⟨fun b hg=>⟨(h1 b hg).1,zbi (h1 b hg).2 hs.upd.size⟩,?_,?_⟩
 .rcases h3 with h3|⟨b,cap,vs,T,e,hF,hg,hz,hn,hm,hst,hwr,hc⟩
  .exact .inl h3
  .exact .inr ⟨b,cap,vs,T,e,hF,(hs.upd.block b (h1 b hF).2 (hX b hF)).trans hg,hz,hn,hm,fun hw o ho=>hst hw o (backF b hF o ho),fun hw o ho=>hwr hw o (backF b hF o ho),fun i j x p hx hp=>by
    obtain⟨u,h5,h6,h7⟩:=hc i j x p hx hp
    exact⟨u,h5,fun ht=>(h6 ht).mono hs.old hs.cell,fun hw=>hs.old _ _ (h7 hw)⟩⟩
 .unfold Once at h4⊢
  split
  .rename_i ht;rw[ht]at h4;exact fun hd=>(h4 hd).same same
  .rename_i hs' ht
   rw[ht]at h4
   obtain⟨g1,g2,g3,g4⟩:=h4
   exact⟨g1,g2,fun b hb o ho=>g3 b hb o (backF b hb o ho),g4.same (fun b l cap e=>same b (hblk e)) same⟩
theorem Mem.step {X:Nat->Prop} (h:Mem R box tok β τ F S w) (hs:Step X S S' w w') (hX0:∀k,X k->R.fr k) (hXb:∀k b,box k=some b->¬X (β k)) (hXt:∀t tk,tok t=some (.live tk)->∀k,F t k->¬X k):Mem R box tok β τ F S' w':=by
 refine⟨h.upd.on hs.upd fun k hx hk=>?_,fun b o h0=>hs.old _ _ (h.old b o h0),fun b o h1=>?_,fun b o h0=>(hs.cell b o (h.old b o h0)).trans (h.keep b o h0),hs.lt,fun k b hk=>?_,h.binj,fun t tk ht=>(h.toks t tk ht).step hs (hXt t tk ht),h.tdis,h.tbox,h.bfix,h.tfix,fun n tk hs' i o d hn htr hin hne=>⟨(h.hol n tk hs' i o d hn htr hin hne).1,fun td hd=>?_⟩⟩
 case refine_4=>
  obtain⟨b,l,cap,e1,e2⟩:=(h.hol n tk hs' i o d hn htr hin hne).2 td hd
  have hF:=(h.toks n tk hn).block e1
  exact⟨b,l,cap,e1,(World.cell?_of_block (w:=w) (hs.upd.block b ((h.toks n tk hn).1 b hF).2 (hXt n tk hn b hF))).trans e2⟩
 .rcases hX0 k hx with h1|h1
  .omega
  .exact h1
 .rcases hs.new b o h1 with h2|h2|h2
  .exact h.new b o h2
  .exact .inr (.inl (zau h.size h2))
  .exact .inr (hX0 b h2)
 .obtain ⟨h1,h2,h2',hB⟩:=h.boxes k b hk
  refine⟨h1,fun hz o ho=>?_,fun hz o ho=>hs.old _ _ (h2' hz o ho),hB.imp (hs.upd.block _ (h.blt hk) (hXb k b hk)) fun x v hx=>⟨hx.1.mono (hs.le _ _ _ _ _) (BoxLe.refl rfl rfl) (TokLe.refl rfl rfl),hx.2⟩⟩
  rcases hs.new _ o ho with h5|h5|h5
  .exact h2 hz o h5
  .have:=h.blt hk;omega
  .exact hXb k b hk h5
theorem Mem.grow (h:Mem R box tok β τ F S w) (hb:Below w.heap.size w w') (hS:∀b o,S b o->S' b o) (hN:∀b o,S' b o->S b o\/w.heap.size<=b) (hL:∀b o,S' b o->b<w'.heap.size):Mem R box tok β τ F S' w':=
 h.step (Step.of_below hb h.lt hS hN hL) (fun _ h=>h.elim) (fun _ _ _ h=>h) (fun _ _ _ _ _ h=>h)
theorem Mem.drop (h:Mem R box tok β τ F S w) {tok':Nat->Option TS} (hu:∀t,tok t≠none->tok' t≠none) (hs:∀t tk,tok' t=some (.live tk)->tok t=some (.live tk)):Mem R box tok' β τ F S w:=by
 refine⟨h.upd,h.old,h.new,h.keep,h.lt,fun k b hk=>?_,h.binj,fun t tk ht=>h.toks t tk (hs t tk ht),fun t t' tk tk' b h1 h2=>h.tdis t t' tk tk' b (hs t tk h1) (hs t' tk' h2),fun t tk k b h1 h2=>h.tbox t tk k b (hs t tk h1) h2,h.bfix,fun t v tk h1 h2=>h.tfix t v tk h1 (hs t tk h2),fun n tk hs' i o d hn htr hin hne=>⟨hu d (h.hol n tk hs' i o d (hs n tk hn) htr hin hne).1,fun td hd=>(h.hol n tk hs' i o d (hs n tk hn) htr hin hne).2 td (hs d td hd)⟩⟩
 obtain⟨h1,h2,h2',hB⟩:=h.boxes k b hk
 exact⟨h1,h2,h2',hB.imp rfl fun x v hx=>⟨V1.mono (c:=⟨w,S,fun k=>box k≠none,β,tok,τ⟩) (c':=⟨w,S,fun k=>box k≠none,β,tok',τ⟩) ⟨fun _ _ h=>h,fun _ _ _=>rfl⟩ (BoxLe.refl rfl rfl) (fun t ht=>⟨hu t ht,fun tk h=>⟨tk,hs t tk h,rfl,rfl,fun hw=>⟨hw,rfl⟩⟩⟩) hx.1,hx.2⟩⟩
end
def updB (f:Nat->Option BS) (k:Nat) (b:BS):Nat->Option BS:=fun j=>if j=k then some b else f j
def updT (f:Nat->Option TS) (t:Nat) (x:Option TS):Nat->Option TS:=fun j=>if j=t then x else f j
section
variable {R : Root} {w w' : World} {S S' : Stab} {box : Nat -> Option BS} {tok : Nat -> Option TS} {β : Nat -> Nat} {τ : Nat -> Value} {F : Nat -> Nat -> Prop}
theorem Mem.nameBox (h:Mem R box tok β τ F S w) (d:Nat) (hmd:mapName d=false) (hd:box d=none) (hbn:R.bn d=none) (k:Nat) (hk:R.fr k) (T:TypeId) (vs:List Value) (hv:w.heap[k]? =some (.cells vs.toArray T (0,0))) (hS:∀o,¬S k o) (hne:∀j b,box j=some b->β j≠k) (hnt:∀t tk,tok t=some (.live tk)->¬F t k) (cs:List AV)
  (hc:All2 (V1c ⟨w,S,fun j=>updB box d ⟨false,cs⟩ j≠none,fun j=>if j=d then k else β j,tok,τ⟩) cs vs):
  Mem R (updB box d ⟨false,cs⟩) tok (fun j=>if j=d then k else β j) τ F S w:=by
 have lift:∀x v,V1c ⟨w,S,fun k=>box k≠none,β,tok,τ⟩ x v->V1c ⟨w,S,fun j=>updB box d ⟨false,cs⟩ j≠none,fun j=>if j=d then k else β j,tok,τ⟩ x v:=fun x v hx=>
  ⟨V1.mono (c:=⟨w,S,fun k=>box k≠none,β,tok,τ⟩) (c':=⟨w,S,fun j=>updB box d ⟨false,cs⟩ j≠none,fun j=>if j=d then k else β j,tok,τ⟩) ⟨fun _ _ h=>h,fun _ _ _=>rfl⟩ (fun j hj=>by
   have hjd:j≠d:=fun e=>hj (e▸hd)
   simp only[updB,hjd,if_false];exact⟨hj,trivial⟩) (TokLe.refl rfl rfl) hx.1,hx.2⟩
 refine⟨h.upd,h.old,h.new,h.keep,h.lt,fun j b hj=>?_,fun j j' b b' hj hj' e=>?_,h.toks,h.tdis,fun t tk j b ht hj=>?_,fun j b hb hj=>?_,h.tfix,h.hol⟩
 .by_cases e:j=d
  .subst e
   simp[updB]at hj;subst hj
   simp only[if_true]
   exact⟨hk,fun _=>hS,(fun h=>by cases h),.inl ⟨hmd,vs,T,hv,hc⟩⟩
  .simp only [updB,e,if_false]at hj
   obtain⟨h1,h2,h2',hB⟩:=h.boxes j b hj
   simp only[e,if_false]
   exact⟨h1,h2,h2',hB.imp rfl lift⟩
 .by_cases e1:j=d<;>by_cases e2:j'=d
  .rw [e1,e2]
  .simp only [updB,e1,e2,if_true,if_false]at hj' e
   exact absurd e.symm (hne j' b' hj')
  .simp only [updB,e1,e2,if_true,if_false]at hj e
   exact absurd e (hne j b hj)
  .simp only [updB,e1,e2,if_false]at hj hj' e
   exact h.binj j j' b b' hj hj' e
 .by_cases e1:j=d
  .simp only [e1,if_true];exact hnt t tk ht
  .simp only [updB,e1,if_false]at hj⊢
   exact h.tbox t tk j b ht hj
 .by_cases e1:j=d
  .subst e1;rw[hbn]at hb;cases hb
  .simp only [updB,e1,if_false]at hj⊢
   exact h.bfix j b hb hj
theorem Mem.newBox (h:Mem R box tok β τ F S w) (d:Nat) (hmd:mapName d=false) (hd:box d=none) (hbn:R.bn d=none) (T:TypeId) (vs:List Value) (cs:List AV) (hc:All2 (V1c ⟨w,S,fun k=>box k≠none,β,tok,τ⟩) cs vs):
  Mem R (updB box d ⟨false,cs⟩) tok (fun k=>if k=d then w.heap.size else β k) τ F S (w.alloc (.cells vs.toArray T)):=by
 have hb:Below w.heap.size w (w.alloc (.cells vs.toArray T)):=(Below.refl _ _).alloc (zae _) _
 have hg:=h.grow (S':=S) hb (fun _ _ h=>h) (fun _ _ h=>.inl h) (fun b o h1=>by have:=h.lt b o h1;simp;omega)
 refine hg.nameBox d hmd hd hbn w.heap.size (.inl h.size) T vs (heap_alloc_new w _) (fun o ho=>by have:=h.lt _ _ ho;omega) (fun j b hj e=>by have:=h.blt hj;omega) (fun t tk ht hF=>by have:=((h.toks t tk ht).1 _ hF).2;omega) cs
  (hc.imp fun x v hx=>⟨V1.mono (c:=⟨w,S,fun k=>box k≠none,β,tok,τ⟩) (c':=⟨w.alloc (.cells vs.toArray T),S,fun j=>updB box d ⟨false,cs⟩ j≠none,fun j=>if j=d then w.heap.size else β j,tok,τ⟩) ⟨fun _ _ h=>h,fun b o ho=>(bcell hb).1 b o (h.lt b o ho)⟩ (fun j hj=>by
   have hjd:j≠d:=fun e=>hj (e▸hd)
   simp only[updB,hjd,if_false];exact⟨hj,trivial⟩) (TokLe.refl rfl rfl) hx.1,hx.2⟩)
theorem Mem.setBox (h:Mem R box tok β τ F S w) (d:Nat) (hmd:mapName d=false) (cs cs':List AV) (hd:box d=some ⟨false,cs⟩) (vs':List Value)
  (hc:All2 (V1c ⟨w,S,fun k=>box k≠none,β,tok,τ⟩) cs' vs'):
  Mem R (updB box d ⟨false,cs'⟩) tok β τ F S (w.setRow (β d) vs'.toArray)/\Ctx.Le ⟨w,S,fun k=>box k≠none,β,tok,τ⟩ ⟨w.setRow (β d) vs'.toArray,S,fun k=>updB box d ⟨false,cs'⟩ k≠none,β,tok,τ⟩:=by
 obtain⟨d1,d2,_,dB⟩:=h.boxes d _ hd
 obtain⟨vs,T,d3,d4⟩:=dB.cells hmd
 have d2:=d2 rfl
 have hsame:∀k,k≠β d->(w.setRow (β d) vs'.toArray).heap[k]? =w.heap[k]? :=fun k hk=>setRow_other w (β d) k _ hk
 have hsize:(w.setRow (β d) vs'.toArray).heap.size=w.heap.size:=by simp[World.setRow]
 have hcell:∀b o,S b o->(w.setRow (β d) vs'.toArray).cell? ⟨b,o,none⟩=w.cell? ⟨b,o,none⟩:=fun b o hb=>World.cell?_of_block (w:=w) (hsame b (fun e=>d2 o (by rw[<-e];exact hb)))
 have hle:Ctx.Le ⟨w,S,fun k=>box k≠none,β,tok,τ⟩ ⟨w.setRow (β d) vs'.toArray,S,fun k=>updB box d ⟨false,cs'⟩ k≠none,β,tok,τ⟩:=⟨fun _ _ h=>h,hcell⟩
 have lift:∀x v,V1c ⟨w,S,fun k=>box k≠none,β,tok,τ⟩ x v->V1c ⟨w.setRow (β d) vs'.toArray,S,fun k=>updB box d ⟨false,cs'⟩ k≠none,β,tok,τ⟩ x v:=fun x v hx=>
  ⟨hx.1.mono hle (fun k hk=>⟨by simp only[updB];split<;>first|exact hk|simp,rfl⟩) (TokLe.refl rfl rfl),hx.2⟩
 have conv:∀ {k:Nat} {b:BS},updB box d ⟨false,cs'⟩ k=some b->∃b',box k=some b':=fun {k b} hk=>by
  by_cases e:k=d
  .exact ⟨_,e▸hd⟩
  .simp only [updB,e,if_false]at hk;exact⟨b,hk⟩
 have hstep:Step (fun k=>k=β d) S S w (w.setRow (β d) vs'.toArray):=⟨⟨rfl,rfl,rfl,by rw[hsize];exact zae _,fun k hk hn=>hsame k hn⟩,hcell,fun _ _ h=>h,fun _ _ h=>.inl h,fun b o hb=>by rw[hsize];exact h.lt b o hb⟩
 refine⟨⟨?_,h.old,h.new,fun b o h0=>(hcell b o (h.old b o h0)).trans (h.keep b o h0),fun b o hb=>by rw[hsize];exact h.lt b o hb,fun k b hk=>?_,fun k k' b b' hk hk' e=>?_,fun t tk ht=>?_,h.tdis,fun t tk k b ht hk=>?_,fun k b hb hk=>?_,h.tfix,fun n tk hs' i o d hn htr hin hne=>⟨(h.hol n tk hs' i o d hn htr hin hne).1,fun td hd=>?_⟩⟩,hle⟩
 .refine h.upd.on (q:=fun k=>k=β d) ⟨rfl,rfl,rfl,by rw[hsize];exact zae _,fun k hk hn=>hsame k hn⟩ (fun k e hk=>?_)
  subst e
  rcases d1 with d1|d1
  .omega
  .exact d1
 .by_cases e:k=d
  .subst e
   simp[updB]at hk;subst hk
   exact⟨d1,fun _=>d2,(fun h=>by cases h),.inl ⟨hmd,vs',T,setRow_heap w (β k) vs.toArray _ T (0,0) d3,hc.imp lift⟩⟩
  .simp only [updB,e,if_false]at hk
   obtain⟨h1,h2,h2',hB⟩:=h.boxes k b hk
   exact⟨h1,h2,h2',hB.imp (hsame _ (fun hh=>e (h.binj k d b _ hk hd hh))) lift⟩
 .obtain ⟨es,hk1⟩:=conv hk
  obtain⟨es',hk2⟩:=conv hk'
  exact h.binj k k' es es' hk1 hk2 e
 .exact (h.toks t tk ht).step hstep fun b hF e=>h.tbox t tk d _ ht hd (e▸hF)
 .obtain ⟨b',hk'⟩:=conv hk
  exact h.tbox t tk k b' ht hk'
 .refine h.bfix k b hb (fun e=>hk ?_)
  by_cases e':k=d
  .rw [e',hd]at e;cases e
  .simp only [updB,e',if_false];exact e
 .obtain ⟨b,l,cap,e1,e2⟩:=(h.hol n tk hs' i o d hn htr hin hne).2 td hd
  have hF:=(h.toks n tk hn).block e1
  exact⟨b,l,cap,e1,(World.cell?_of_block (w:=w) (hsame b (fun e=>h.tbox n tk _ _ hn ‹_› (e▸hF)))).trans e2⟩
theorem Mem.newTok (h:Mem R box tok β τ F S w) (d:Nat) (hd:tok d=none) (htn:R.tn d=none) (tk:Tok) (v:Value) (G:Nat->Prop)
  (hk:TokOk R.fr w S tk v G) (hwh:tk.whole=true) (hG:∀t tk' b,tok t=some (.live tk')->G b->¬F t b) (hGb:∀k b,box k=some b->¬G (β k)):
  Mem R box (updT tok d (some (.live tk))) β (fun t=>if t=d then v else τ t) (fun t=>if t=d then G else F t) S w:=by
 have live:∀ {t:Nat} {tk':Tok},t≠d->updT tok d (some (TS.live tk)) t=some (.live tk')->tok t=some (.live tk'):=fun {t tk'} e h=>by simpa only[updT,e,if_false]using h
 refine⟨h.upd,h.old,h.new,h.keep,h.lt,fun k b hb=>?_,h.binj,fun t tk' ht=>?_,fun t t' tk1 tk2 b h1 h2 hf1 hf2=>?_,fun t tk' k b ht hb=>?_,h.bfix,fun t v' tk' hv ht=>?_,fun n tk' hs i o c hn htr hin hne=>?_⟩
 .obtain ⟨h1,h2,h2',hB⟩:=h.boxes k b hb
  refine⟨h1,h2,h2',hB.imp rfl fun x u hx=>⟨V1.mono (c:=⟨w,S,fun k=>box k≠none,β,tok,τ⟩) (c':=⟨w,S,fun k=>box k≠none,β,updT tok d (some (.live tk)),fun t=>if t=d then v else τ t⟩) ⟨fun _ _ h=>h,fun _ _ _=>rfl⟩ (BoxLe.refl rfl rfl) (fun t ht=>by
   have e:t≠d:=fun e=>ht (e▸hd)
   simp only[updT,e,if_false]
   exact⟨ht,fun tk' h=>⟨tk',h,trivial,rfl,fun hw=>⟨hw,rfl⟩⟩⟩) hx.1,hx.2⟩⟩
 .by_cases e:t=d
  .subst e
   simp[updT]at ht;subst ht
   simpa using hk
  .have:=h.toks t tk' (live e ht)
   simpa[e]using this
 .by_cases e1:t=d<;>by_cases e2:t'=d
  .rw [e1,e2]
  .simp only [e1,if_true]at hf1
   simp only[e2,if_false]at hf2
   exact absurd hf2 (hG t' tk2 b (live e2 h2) hf1)
  .simp only [e1,if_false]at hf1
   simp only[e2,if_true]at hf2
   exact absurd hf1 (hG t tk1 b (live e1 h1) hf2)
  .simp only [e1,if_false]at hf1
   simp only[e2,if_false]at hf2
   exact h.tdis t t' tk1 tk2 b (live e1 h1) (live e2 h2) hf1 hf2
 .by_cases e:t=d
  .simp only [e,if_true];exact hGb k b hb
  .simp only [e,if_false];exact h.tbox t tk' k b (live e ht) hb
 .by_cases e:t=d
  .subst e;rw[htn]at hv;cases hv
  .simp only [e,if_false];exact h.tfix t v' tk' hv (live e ht)
 .by_cases e:n=d
  .subst e
   simp[updT]at hn;subst hn
   unfold Tok.whole at hwh
   rw[htr]at hwh
   cases hs with
   |nil=>cases hin
   |cons _ _=>cases hwh
  .obtain ⟨h1,h2⟩:=h.hol n tk' hs i o c (live e hn) htr hin hne
   have ec:c≠d:=fun e=>h1 (e▸hd)
   simp only[updT,ec,e,if_false]
   exact⟨h1,h2⟩
end
theorem getA_setA :∀(L:List AV) (d:Nat) (v:AV) (i:Nat),getA (setA L d v) i=if d=i/\i<L.length then v else getA L i
 | [],d,v,i=>by simp[setA,getA]
 |x::L,0,v,0=>by simp[setA,getA]
 |x::L,0,v,i+1=>by simp[setA,getA]
 |x::L,d+1,v,0=>by simp[setA,getA]
 |x::L,d+1,v,i+1=>by simp[setA,getA,getA_setA L d v i]
theorem setA_len :∀(L:List AV) (d:Nat) (v:AV),(setA L d v).length=L.length
 | [],_,_=>rfl
 |_::_,0,_=>rfl
 |_::L,d+1,v=>by simp[setA,setA_len L d v]
theorem lookB_setB :∀(B:List (Nat×BS)) (k:Nat) (b:BS),lookB (setB B k b)=updB (lookB B) k b
 | [],k,b=>by funext j;simp[setB,lookB,updB]
 |(i,c)::B,k,b=>by
  funext j
  simp only[setB]
  by_cases h:i=k
  .subst h;simp only[if_true,lookB,updB];split<;>rfl
  .rw [zu h]
   simp only[lookB,lookB_setB B k b,updB]
   by_cases h1:j=i
   .subst h1;simp[h]
   .simp [h1]
theorem lookT_setT :∀(T:List (Nat×Option TS)) (k:Nat) (x:Option TS),lookT (setT T k x)=updT (lookT T) k x
 | [],k,x=>by funext j;simp[setT,lookT,updT]
 |(i,y)::T,k,x=>by
  funext j
  simp only[setT]
  by_cases h:i=k
  .subst h;simp only[if_true,lookT,updT];split<;>rfl
  .rw [zu h]
   simp only[lookT,lookT_setT T k x,updT]
   by_cases h1:j=i
   .subst h1;simp[h]
   .simp [h1]
def Eff.updB (e:Eff) (f:Nat->Option BS):Nat->Option BS:=e.box.foldl (fun f x=>Go.Proofs.YtkglkigmdmohkaaGreatDoor.updB f x.1 x.2) f
def Eff.updT (e:Eff) (f:Nat->Option TS):Nat->Option TS:=e.tok.foldl (fun f x=>Go.Proofs.YtkglkigmdmohkaaGreatDoor.updT f x.1 x.2) f
theorem app_B (s:LSt) (d:Option Nat) (e:Eff):lookB (s.app d e).B=e.updB (lookB s.B):=by
 unfold LSt.app Eff.updB
 generalize e.box=l
 simp only
 generalize s.B=B
 induction l generalizing B with
 |nil=>rfl
 |cons x l ih=>simp only[zaq];rw[ih,lookB_setB]
theorem app_T (s:LSt) (d:Option Nat) (e:Eff):lookT (s.app d e).T=e.updT (lookT s.T):=by
 unfold LSt.app Eff.updT
 generalize e.tok=l
 simp only
 generalize s.T=B
 induction l generalizing B with
 |nil=>rfl
 |cons x l ih=>simp only[zaq];rw[ih,lookT_setT]
theorem app_L (s:LSt) (d:Option Nat) (e:Eff) (i:Nat):getA (s.app d e).L i=if d=some i/\i<s.L.length then e.val else getA s.L i:=by
 cases d with
 |none=>simp[LSt.app]
 |some d=>simp only[LSt.app,getA_setA,zaE]
theorem app_len (s:LSt) (d:Option Nat) (e:Eff):(s.app d e).L.length=s.L.length:=by
 cases d with
 |none=>rfl
 |some d=>simp only[LSt.app,setA_len]
end Go.Proofs.YtkglkigmdmohkaaGreatDoor
