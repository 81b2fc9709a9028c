
import Derived.Test.YtnkagklajgimlaaGreatDoorKX
import Derived.Test.YtnkagklajgimlaaGreatDoorKP
set_option linter.unusedSimpArgs false
set_option linter.unusedVariables false
namespace Go.Proofs.YtnkagklajgimlaaGreatDoor
open Go.RowKit
theorem alO {α:Type} {m:Nat} {C:mh α} {enc:α->List b6} {w:World} {S:b0} {v:Value} {xs:List α} {p:fM} (I:∀b o,p b->b<w.heap.size->S b o)
  (F:∀(cs:List Value) (x:α),C w cs x p->(enc x).length=cs.length/\∀(j:Nat) (c:b6),(enc x)[j]? =some c->∃u:Value,cs[j]? =some u/\bs w S u c) (h:wK m C w v xs p):bs w S v (.ar (xs.map enc)):=by
 obtain⟨a,cap,rfl,J,d⟩:=h
 have key:∃b o,(xs.map enc≠ []->a=some ⟨b,o,none⟩)/\(∀(i:Nat) (row:List b6),(xs.map enc)[i]? =some row->row.length=m)/\∀(i:Nat) (row:List b6),(xs.map enc)[i]? =some row->kr w S b (o+i*m) row:=by
  cases xs with
  |nil=>exact⟨0,0,fun h=>absurd rfl h,fun i row h=>by simp at h,fun i row h=>by simp at h⟩
  |cons z r=>
   obtain⟨b,o,cs,cJ,_⟩:=d 0 z rfl
   refine⟨b,o,fun _=>cJ,fun i row hi=>?_,fun i row hi j c K=>?_⟩
   .rw [iC]at hi
    cases e:(z::r)[i]? with
    |none=>rw[e]at hi;cases hi
    |some x=>
     rw[e]at hi;cases hi
     obtain⟨L,M,g,l,s,t,y,G,A⟩:=d i x e
     rw[(F g x A).1,y]
   .rw [iC]at hi
    cases e:(z::r)[i]? with
    |none=>rw[e]at hi;cases hi
    |some x=>
     rw[e]at hi;cases hi
     obtain⟨L,M,g,l,s,t,y,G,A⟩:=d i x e
     rw[cJ]at l;cases l
     obtain⟨u,hu,O⟩:=(F g x A).2 j c K
     exact⟨I _ _ s t,u,G j u hu,O⟩
 obtain⟨b,o,s,t,y⟩:=key
 have:=bs.mk (w:=w) (S:=S) (a:=a) (cap:=cap) (rows:=xs.map enc) (by rw[dE];exact J.2) s t y
 rwa[dE]at this
inductive Fe (B:Nat):aN->Prop
 |mk {k a b:Int} {f:List UInt8} {ws:List (List UInt8)} {kids:List aN} (bB:IntKind.i64.min<=k/\k<=IntKind.i64.max) (kB:f.length<=B) (bj:ws.length<=B) (hw:∀x,x∈ws->x.length<=B)
   (cJ:IntKind.i64.min<=a/\a<=IntKind.i64.max) (av:IntKind.i64.min<=b/\b<=IntKind.i64.max) (hm:kids.length<=B) (dy:∀x,x∈kids->Fe B x):Fe B (.mk k f ws a b kids)
def cH (B:Nat):(t:aJ)->t.D->Prop
 | .bool,_=>True
 | .int k,n=>k.min<=n/\n<=k.max
 | .str,s=>List.length s<=B
 | .unit,_=>True
 | .pair a b,x=>cH B a x.1/\cH B b x.2
 | .ar r,xs=>List.length xs<=B/\∀x,x∈xs->cH B r x
 | .opt r,x=>∀y,x=some y->cH B r y
 | .q,x=>Fe B x
abbrev zy :Nat:=9223372036854775807
def iZ (w:World):b0:=fun b _=>b<w.heap.size
def ml (t:aJ):mh t.D:=fun w cs x _=>cH zy t x/\cs.length=t.w/\∀(j:Nat) (c:b6),(enc t x)[j]? =some c->∃u:Value,cs[j]? =some u/\bs w (iZ w) u c
theorem ajw {w:World} {S:b0} {v:Value} {c:b6} (h:bs w S v c):v.oneCell'=true:=by cases h<;>rfl
theorem ml.one {t:aJ} {w:World} {v:Value} {x:t.D} {p:fM} (h:ml t w [v] x p):∃c,enc t x=[c]/\bs w (iZ w) v c:=by
 have e:(enc t x).length=1:=by rw[et,<-h.2.1];rfl
 obtain⟨c,d⟩:=anY e
 obtain⟨u,hu,g⟩:=h.2.2 0 c (by rw[d];rfl)
 obtain rfl:v=u:=by simpa using hu
 exact⟨c,d,g⟩
section
variable {H : Type} {w4 : TypeId × Value -> H} {P : Program} {w : World} {spare : Nat -> Bool} {held : Bool}
theorem Qj {k:IntKind} {fuel:Nat} {t:TypeId} {cs:List Value} {x:DataW H×List MemPlace} (g:P.underlying t=some (.int k)) (h:DataW.trod w4 P w 0 spare held fuel t cs=some x):∃d,ml (.int k) w cs d (fun _=>True):=by
 obtain⟨n,rfl,_,hw⟩:=DataW.trod_int g h
 refine⟨n,?_,rfl,fun j c e=>?_⟩
 .simp [Lit.wf]at hw;exact hw
 .match j,e with
  |0,e=>cases e;exact⟨_,rfl,.int _ _⟩
theorem Px {r:aJ} {fuel:Nat} {t e:TypeId} {cs:List Value} {x:DataW H×List MemPlace} (l:0<r.w) (A:P.underlying t=some (.slice e)) (hm:P.cellsOf e=r.w)
  (p:∀(n:Nat) (cs:List Value) (y:DataW H×List MemPlace),DataW.trod w4 P w 0 spare held n e cs=some y->cs.length=r.w->∃d,ml r w cs d (fun _=>True))
  (h:DataW.trod w4 P w 0 spare held fuel t cs=some x):∃d,ml (.ar r) w cs d (fun _=>True):=by
 obtain⟨v,xs,rfl,z⟩:=aqd (C:=ml r) l A hm p h
 have F:bs w (iZ w) v (.ar (xs.map (enc r))):=alO (fun b o _ av=>av) (fun cs x g=>⟨by rw[et,g.2.1],g.2.2⟩) z
 obtain⟨a,cap,_,G,s⟩:=z
 refine⟨xs,⟨G.1,fun y hy=>?_⟩,rfl,fun j c u=>?_⟩
 .obtain ⟨i,hi,rfl⟩:=eb.1 hy
  obtain⟨_,_,_,_,_,_,_,_,g⟩:=s i xs[i] (bG hi)
  exact g.1
 .match j,u with
  |0,u=>cases u;exact⟨_,rfl,F⟩
end
def wW (W:World):Ctx:=⟨W,iZ W,fun _=>False,fun _=>0,fun _=>none,fun _=>undef⟩
theorem ml.v1 {t:aJ} {w:World} {v:Value} {x:t.D} {p:fM} (h:ml t w [v] x p):ed (wW w) (.af t x) v:=by
 obtain⟨c,e,d⟩:=h.one
 exact⟨⟨c,e,d⟩,ajw d⟩
theorem ml.v3 {t:aJ} {w:World} {v:Value} {x:t.D} {p:fM} (h:ml t w [v] x p):bp (wW w) (.af t x) v:=h.v1.1
theorem alb {P:Program} {f:FuncId} {arg:aw} {run:gp arg.ft->Option Bool} (hm:ig P f ⟨arg,⟨[.af .bool],[]⟩,run⟩) (a:gp arg.ft) (c:run a=some true) {L:List au} (p:arg.mk' a=⟨L,[],[]⟩)
  (W:World) (i:lE W (fun _=>False) (iZ W)) (j:List Value) (h:bx (bp (wW W)) L j):
  Calls P f j.toArray W fun e o=>e= .returned (.bool true)/\Below W.heap.size W o:=by
 have kB:=hm.run a true c
 have l:Fb P f ⟨L,[],[]⟩ ((⟨[.af .bool],[]⟩:aw).mk' true):=by
  have e:(⟨arg,⟨[.af .bool],[]⟩,run⟩:Model).arg.mk' a=⟨L,[],[]⟩:=p
  rw[e]at kB;exact kB
 have d:∀b,¬kF (⟨L,[],[]⟩:aY) (fun _=>0) (fun _ _=>False) b:=by
  rintro b (⟨k,x,bB,_⟩|⟨t,aa,r,_⟩)
  .cases bB
  .cases r
 refine Calls.mono (l W (iZ W) (fun _=>0) (fun _=>undef) (fun _ _=>False) j (i.sub d) ⟨hF.refl _ _,fun _ _ h=>h,fun _ _ h=>.inl h,fun _ _ _=>rfl,fun _ _ h=>h,(fun _ _ h=>by cases h),(fun _ _ _ _ h=>by cases h),(fun _ _ h=>by cases h),(fun _ _ _ _ _ h=>by cases h),(fun _ _ _ _ h=>by cases h),(fun _ _ h=>by cases h),(fun _ _ _ h=>by cases h),(fun _ _ _ _ _ _ h=>by cases h)⟩ ?_) ?_
 .have e:(⟨L,[],[]⟩:aY).ctx W (iZ W) (fun _=>0) (fun _=>undef)=wW W:=by
   unfold aY.ctx wW
   simp[aZ,aH]
  rw[e];exact h
 rintro e o ⟨u,s,v,A,S',rfl,g,x,y,z⟩
 cases y
 refine⟨by rw[tG z],g.eD.os,g.eD.tape,g.eD.output,g.eD.size,fun k bB=>g.eD.block k bB (d k)⟩
end Go.Proofs.YtnkagklajgimlaaGreatDoor
