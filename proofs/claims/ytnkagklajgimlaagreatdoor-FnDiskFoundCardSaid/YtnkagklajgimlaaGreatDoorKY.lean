
import Derived.Test.YtnkagklajgimlaaGreatDoorKX
import Derived.Test.YtnkagklajgimlaaGreatDoorKP
set_option linter.unusedSimpArgs false
set_option linter.unusedVariables false
namespace Go.Proofs.YtnkagklajgimlaaGreatDoor
open Go.RowKit
theorem aii {α:Type} {m:Nat} {C:lI α} {enc:α->List b3} {w:World} {S:bW} {v:Value} {xs:List α} {p:fD} (I:∀b o,p b->b<w.heap.size->S b o)
  (F:∀(cs:List Value) (x:α),C w cs x p->(enc x).length=cs.length/\∀(j:Nat) (c:b3),(enc x)[j]? =some c->∃u:Value,cs[j]? =some u/\bq w S u c) (h:vx m C w v xs p):bq w S v (.av (xs.map enc)):=by
 obtain⟨a,cap,rfl,J,d⟩:=h
 have key:∃b o,(xs.map enc≠ []->a=some ⟨b,o,none⟩)/\(∀(i:Nat) (row:List b3),(xs.map enc)[i]? =some row->row.length=m)/\∀(i:Nat) (row:List b3),(xs.map enc)[i]? =some row->j1 w S b (o+i*m) row:=by
  cases xs with
  |nil=>exact⟨0,0,fun h=>absurd rfl h,fun i row h=>by simp at h,fun i row h=>by simp at h⟩
  |cons z r=>
   obtain⟨b,o,cs,dU,_⟩:=d 0 z rfl
   refine⟨b,o,fun _=>dU,fun i row hi=>?_,fun i row hi j c K=>?_⟩
   .rw [ie]at hi
    cases e:(z::r)[i]? with
    |none=>rw[e]at hi;cases hi
    |some x=>
     rw[e]at hi;cases hi
     obtain⟨L,M,g,l,s,t,y,G,A⟩:=d i x e
     rw[(F g x A).1,y]
   .rw [ie]at hi
    cases e:(z::r)[i]? with
    |none=>rw[e]at hi;cases hi
    |some x=>
     rw[e]at hi;cases hi
     obtain⟨L,M,g,l,s,t,y,G,A⟩:=d i x e
     rw[dU]at l;cases l
     obtain⟨u,hu,O⟩:=(F g x A).2 j c K
     exact⟨I _ _ s t,u,G j u hu,O⟩
 obtain⟨b,o,s,t,y⟩:=key
 have:=bq.mk (w:=w) (S:=S) (a:=a) (cap:=cap) (rows:=xs.map enc) (by rw[dX];exact J.2) s t y
 rwa[dX]at this
inductive DJ (B:Nat):bf->Prop
 |mk {k a b:Int} {f:List UInt8} {ws:List (List UInt8)} {kids:List bf} (bx:IntKind.i64.min<=k/\k<=IntKind.i64.max) (lf:f.length<=B) (cD:ws.length<=B) (hw:∀x,x∈ws->x.length<=B)
   (dU:IntKind.i64.min<=a/\a<=IntKind.i64.max) (au:IntKind.i64.min<=b/\b<=IntKind.i64.max) (hm:kids.length<=B) (dr:∀x,x∈kids->DJ B x):DJ B (.mk k f ws a b kids)
def cz (B:Nat):(t:aH)->t.D->Prop
 | .bool,_=>True
 | .int k,n=>k.min<=n/\n<=k.max
 | .str,s=>List.length s<=B
 | .unit,_=>True
 | .pair a b,x=>cz B a x.1/\cz B b x.2
 | .av r,xs=>List.length xs<=B/\∀x,x∈xs->cz B r x
 | .opt r,x=>∀y,x=some y->cz B r y
 | .q,x=>DJ B x
abbrev yo :Nat:=9223372036854775807
def jd (w:World):bW:=fun b _=>b<w.heap.size
def lN (t:aH):lI t.D:=fun w cs x _=>cz yo t x/\cs.length=t.w/\∀(j:Nat) (c:b3),(enc t x)[j]? =some c->∃u:Value,cs[j]? =some u/\bq w (jd w) u c
theorem af5 {w:World} {S:bW} {v:Value} {c:b3} (h:bq w S v c):v.oneCell'=true:=by cases h<;>rfl
theorem lN.one {t:aH} {w:World} {v:Value} {x:t.D} {p:fD} (h:lN t w [v] x p):∃c,enc t x=[c]/\bq w (jd w) v c:=by
 have e:(enc t x).length=1:=by rw[en,<-h.2.1];rfl
 obtain⟨c,d⟩:=aj9 e
 obtain⟨u,hu,g⟩:=h.2.2 0 c (by rw[d];rfl)
 obtain rfl:v=u:=by simpa using hu
 exact⟨c,d,g⟩
section
variable {H : Type} {vP : TypeId × Value -> H} {P : Program} {w : World} {spare : Nat -> Bool} {held : Bool}
theorem Og {k:IntKind} {fuel:Nat} {t:TypeId} {cs:List Value} {x:DataW H×List MemPlace} (g:P.underlying t=some (.int k)) (h:DataW.trod vP P w 0 spare held fuel t cs=some x):∃d,lN (.int k) w cs d (fun _=>True):=by
 obtain⟨n,rfl,_,hw⟩:=DataW.trod_int g h
 refine⟨n,?_,rfl,fun j c e=>?_⟩
 .simp [Lit.wf]at hw;exact hw
 .match j,e with
  |0,e=>cases e;exact⟨_,rfl,.int _ _⟩
theorem Nz {r:aH} {fuel:Nat} {t e:TypeId} {cs:List Value} {x:DataW H×List MemPlace} (l:0<r.w) (A:P.underlying t=some (.slice e)) (hm:P.cellsOf e=r.w)
  (p:∀(n:Nat) (cs:List Value) (y:DataW H×List MemPlace),DataW.trod vP P w 0 spare held n e cs=some y->cs.length=r.w->∃d,lN r w cs d (fun _=>True))
  (h:DataW.trod vP P w 0 spare held fuel t cs=some x):∃d,lN (.av r) w cs d (fun _=>True):=by
 obtain⟨v,xs,rfl,z⟩:=alK (C:=lN r) l A hm p h
 have F:bq w (jd w) v (.av (xs.map (enc r))):=aii (fun b o _ au=>au) (fun cs x g=>⟨by rw[en,g.2.1],g.2.2⟩) z
 obtain⟨a,cap,_,G,s⟩:=z
 refine⟨xs,⟨G.1,fun y hy=>?_⟩,rfl,fun j c u=>?_⟩
 .obtain ⟨i,hi,rfl⟩:=fe.1 hy
  obtain⟨_,_,_,_,_,_,_,_,g⟩:=s i xs[i] (bH hi)
  exact g.1
 .match j,u with
  |0,u=>cases u;exact⟨_,rfl,F⟩
end
def vJ (W:World):Ctx:=⟨W,jd W,fun _=>False,fun _=>0,fun _=>none,fun _=>undef⟩
theorem lN.v1 {t:aH} {w:World} {v:Value} {x:t.D} {p:fD} (h:lN t w [v] x p):ee (vJ w) (.ag t x) v:=by
 obtain⟨c,e,d⟩:=h.one
 exact⟨⟨c,e,d⟩,af5 d⟩
theorem lN.v3 {t:aH} {w:World} {v:Value} {x:t.D} {p:fD} (h:lN t w [v] x p):bo (vJ w) (.ag t x) v:=h.v1.1
theorem ahH {P:Program} {f:FuncId} {arg:ay} {run:fZ arg.fm->Option Bool} (hm:hW P f ⟨arg,⟨[.ag .bool],[]⟩,run⟩) (a:fZ arg.fm) (c:run a=some true) {L:List ar} (p:arg.mk' a=⟨L,[],[]⟩)
  (W:World) (i:k2 W (fun _=>False) (jd W)) (j:List Value) (h:bs (bo (vJ W)) L j):
  Calls P f j.toArray W fun e o=>e= .returned (.bool true)/\Below W.heap.size W o:=by
 have lf:=hm.run a true c
 have l:DH P f ⟨L,[],[]⟩ ((⟨[.ag .bool],[]⟩:ay).mk' true):=by
  have e:(⟨arg,⟨[.ag .bool],[]⟩,run⟩:Model).arg.mk' a=⟨L,[],[]⟩:=p
  rw[e]at lf;exact lf
 have d:∀b,¬kj (⟨L,[],[]⟩:aX) (fun _=>0) (fun _ _=>False) b:=by
  rintro b (⟨k,x,bx,_⟩|⟨t,aa,r,_⟩)
  .cases bx
  .cases r
 refine Calls.mono (l W (jd W) (fun _=>0) (fun _=>undef) (fun _ _=>False) j (i.sub d) ⟨hr.refl _ _,fun _ _ h=>h,fun _ _ h=>.inl h,fun _ _ _=>rfl,fun _ _ h=>h,(fun _ _ h=>by cases h),(fun _ _ _ _ h=>by cases h),(fun _ _ h=>by cases h),(fun _ _ _ _ _ h=>by cases h),(fun _ _ _ _ h=>by cases h),(fun _ _ h=>by cases h),(fun _ _ _ h=>by cases h),(fun _ _ _ _ _ _ h=>by cases h)⟩ ?_) ?_
 .have e:(⟨L,[],[]⟩:aX).ctx W (jd W) (fun _=>0) (fun _=>undef)=vJ W:=by
   unfold aX.ctx vJ
   simp[aY,aF]
  rw[e];exact h
 rintro e o ⟨u,s,v,A,S',rfl,g,x,y,z⟩
 cases y
 refine⟨by rw[sJ z],g.ew.os,g.ew.tape,g.ew.output,g.ew.size,fun k bx=>g.ew.block k bx (d k)⟩
end Go.Proofs.YtnkagklajgimlaaGreatDoor
