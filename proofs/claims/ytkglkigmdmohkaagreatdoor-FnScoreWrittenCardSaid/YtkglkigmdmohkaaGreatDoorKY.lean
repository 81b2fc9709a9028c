import Derived.Test.YtkglkigmdmohkaaGreatDoorKX
import Derived.Test.YtkglkigmdmohkaaGreatDoorKP
set_option linter.unusedSimpArgs false
set_option linter.unusedVariables false
namespace Go.Proofs.YtkglkigmdmohkaaGreatDoor
open Go.RowKit
theorem jsW {α:Type} {m:Nat} {C:CRep α} {enc:α->List PV} {w:World} {S:Stab} {v:Value} {xs:List α} {p:Blk} (hp:∀b o,p b->b<w.heap.size->S b o)
  (hC:∀(cs:List Value) (x:α),C w cs x p->(enc x).length=cs.length/\∀(j:Nat) (c:PV),(enc x)[j]? =some c->∃u:Value,cs[j]? =some u/\Rep w S u c) (h:SRep m C w v xs p):Rep w S v (.sl (xs.map enc)):=by
 obtain⟨a,cap,rfl,hl,hat⟩:=h
 have key:∃b o,(xs.map enc≠ []->a=some ⟨b,o,none⟩)/\(∀(i:Nat) (row:List PV),(xs.map enc)[i]? =some row->row.length=m)/\∀(i:Nat) (row:List PV),(xs.map enc)[i]? =some row->CellsAt w S b (o+i*m) row:=by
  cases xs with
  |nil=>exact⟨0,0,fun h=>absurd rfl h,fun i row h=>by simp at h,fun i row h=>by simp at h⟩
  |cons x0 xs0=>
   obtain⟨b,o,cs,ha,_⟩:=hat 0 x0 rfl
   refine⟨b,o,fun _=>ha,fun i row hi=>?_,fun i row hi j c hj=>?_⟩
   .rw [zaF]at hi
    cases hx:(x0::xs0)[i]? with
    |none=>rw[hx]at hi;cases hi
    |some x=>
     rw[hx]at hi;cases hi
     obtain⟨b',o',cs',ha',h1,h2,h3,h4,h5⟩:=hat i x hx
     rw[(hC cs' x h5).1,h3]
   .rw [zaF]at hi
    cases hx:(x0::xs0)[i]? with
    |none=>rw[hx]at hi;cases hi
    |some x=>
     rw[hx]at hi;cases hi
     obtain⟨b',o',cs',ha',h1,h2,h3,h4,h5⟩:=hat i x hx
     rw[ha]at ha';cases ha'
     obtain⟨u,hu,hr⟩:=(hC cs' x h5).2 j c hj
     exact⟨hp _ _ h1 h2,u,h4 j u hu,hr⟩
 obtain⟨b,o,h1,h2,h3⟩:=key
 have:=Rep.mk (w:=w) (S:=S) (a:=a) (cap:=cap) (rows:=xs.map enc) (by rw[zar];exact hl.2) h1 h2 h3
 rwa[zar]at this
inductive OkQ (B:Nat):DQ->Prop
 |mk {k a b:Int} {f:List UInt8} {ws:List (List UInt8)} {kids:List DQ} (hk:IntKind.i64.min<=k/\k<=IntKind.i64.max) (hf:f.length<=B) (hn:ws.length<=B) (hw:∀x,x∈ws->x.length<=B)
   (ha:IntKind.i64.min<=a/\a<=IntKind.i64.max) (hb:IntKind.i64.min<=b/\b<=IntKind.i64.max) (hm:kids.length<=B) (hq:∀x,x∈kids->OkQ B x):OkQ B (.mk k f ws a b kids)
def okD (B:Nat):(t:Tp)->t.D->Prop
 | .bool,_=>True
 | .int k,n=>k.min<=n/\n<=k.max
 | .str,s=>List.length s<=B
 | .unit,_=>True
 | .pair a b,x=>okD B a x.1/\okD B b x.2
 | .sl r,xs=>List.length xs<=B/\∀x,x∈xs->okD B r x
 | .opt r,x=>∀y,x=some y->okD B r y
 | .q,x=>OkQ B x
abbrev BigN :Nat:=9223372036854775807
def WS (w:World):Stab:=fun b _=>b<w.heap.size
def RdC (t:Tp):CRep t.D:=fun w cs x _=>okD BigN t x/\cs.length=t.w/\∀(j:Nat) (c:PV),(enc t x)[j]? =some c->∃u:Value,cs[j]? =some u/\Rep w (WS w) u c
theorem jmJ {w:World} {S:Stab} {v:Value} {c:PV} (h:Rep w S v c):v.oneCell'=true:=by cases h<;>rfl
theorem RdC.one {t:Tp} {w:World} {v:Value} {x:t.D} {p:Blk} (h:RdC t w [v] x p):∃c,enc t x=[c]/\Rep w (WS w) v c:=by
 have e1:(enc t x).length=1:=by rw[enc_len,<-h.2.1];rfl
 obtain⟨c,hc⟩:=len1 e1
 obtain⟨u,hu,hr⟩:=h.2.2 0 c (by rw[hc];rfl)
 obtain rfl:v=u:=by simpa using hu
 exact⟨c,hc,hr⟩
section
variable {H : Type} {ec : TypeId × Value -> H} {P : Program} {w : World} {spare : Nat -> Bool} {held : Bool}
theorem jay {k:IntKind} {fuel:Nat} {t:TypeId} {cs:List Value} {x:DataW H×List MemPlace} (ht:P.underlying t=some (.int k)) (h:DataW.trod ec P w 0 spare held fuel t cs=some x):∃d,RdC (.int k) w cs d (fun _=>True):=by
 obtain⟨n,rfl,_,hw⟩:=DataW.trod_int ht h
 refine⟨n,?_,rfl,fun j c hj=>?_⟩
 .simp [Lit.wf]at hw;exact hw
 .match j,hj with
  |0,hj=>cases hj;exact⟨_,rfl,.int _ _⟩
theorem jH {r:Tp} {fuel:Nat} {t e:TypeId} {cs:List Value} {x:DataW H×List MemPlace} (hm0:0<r.w) (ht:P.underlying t=some (.slice e)) (hm:P.cellsOf e=r.w)
  (hel:∀(n:Nat) (cs:List Value) (y:DataW H×List MemPlace),DataW.trod ec P w 0 spare held n e cs=some y->cs.length=r.w->∃d,RdC r w cs d (fun _=>True))
  (h:DataW.trod ec P w 0 spare held fuel t cs=some x):∃d,RdC (.sl r) w cs d (fun _=>True):=by
 obtain⟨v,xs,rfl,hs⟩:=read_slice (C:=RdC r) hm0 ht hm hel h
 have hr:Rep w (WS w) v (.sl (xs.map (enc r))):=jsW (fun b o _ hb=>hb) (fun cs x hc=>⟨by rw[enc_len,hc.2.1],hc.2.2⟩) hs
 obtain⟨a,cap,_,hl,hat⟩:=hs
 refine⟨xs,⟨hl.1,fun y hy=>?_⟩,rfl,fun j c hj=>?_⟩
 .obtain ⟨i,hi,rfl⟩:=zav.1 hy
  obtain⟨_,_,_,_,_,_,_,_,hc⟩:=hat i xs[i] (zc hi)
  exact hc.1
 .match j,hj with
  |0,hj=>cases hj;exact⟨_,rfl,hr⟩
end
def ctx0 (W:World):Ctx:=⟨W,WS W,fun _=>False,fun _=>0,fun _=>none,fun _=>undef⟩
theorem RdC.v1 {t:Tp} {w:World} {v:Value} {x:t.D} {p:Blk} (h:RdC t w [v] x p):V1c (ctx0 w) (.pv t x) v:=by
 obtain⟨c,e,hr⟩:=h.one
 exact⟨⟨c,e,hr⟩,jmJ hr⟩
theorem RdC.v3 {t:Tp} {w:World} {v:Value} {x:t.D} {p:Blk} (h:RdC t w [v] x p):V3 (ctx0 w) (.pv t x) v:=h.v1.1
theorem jqk {P:Program} {f:FuncId} {arg:Sh} {run:HD arg.codes->Option Bool} (hm:ModelOk P f ⟨arg,⟨[.pv .bool],[]⟩,run⟩) (a:HD arg.codes) (hrun:run a=some true) {L:List AV} (hL:arg.mk' a=⟨L,[],[]⟩)
  (W:World) {G:Ords} (hgl:GlobOk G W (fun _=>False) (WS W)) (vs:List Value) (h:All2 (V3 (ctx0 W)) L vs):
  Calls P f vs.toArray W fun e W'=>e= .returned (.bool true)/\Below W.heap.size W W':=by
 have hf:=hm.run a true hrun
 have hf':FnC P f ⟨L,[],[]⟩ ((⟨[.pv .bool],[]⟩:Sh).mk' true):=by
  have e:(⟨arg,⟨[.pv .bool],[]⟩,run⟩:Model).arg.mk' a=⟨L,[],[]⟩:=hL
  rw[e]at hf;exact hf
 have hno:∀b,¬lent (⟨L,[],[]⟩:LSt) (fun _=>0) (fun _ _=>False) b:=by
  rintro b (⟨k,x,hk,_⟩|⟨t,tk,ht,_⟩)
  .cases hk
  .cases ht
 refine Calls.mono (hf' W (WS W) (fun _=>0) (fun _=>undef) (fun _ _=>False) G vs (hgl.sub hno) ⟨Upd.refl _ _,fun _ _ h=>h,fun _ _ h=>.inl h,fun _ _ _=>rfl,fun _ _ h=>h,(fun _ _ h=>by cases h),(fun _ _ _ _ h=>by cases h),(fun _ _ h=>by cases h),(fun _ _ _ _ _ h=>by cases h),(fun _ _ _ _ h=>by cases h),(fun _ _ h=>by cases h),(fun _ _ _ h=>by cases h),(fun _ _ _ _ _ _ h=>by cases h)⟩ ?_) ?_
 .have e:(⟨L,[],[]⟩:LSt).ctx W (WS W) (fun _=>0) (fun _=>undef)=ctx0 W:=by
   unfold LSt.ctx ctx0
   simp[lookB,lookT]
  rw[e];exact h
 rintro e W' ⟨u,β',τ',F',S',rfl,hM,x,hx,hv⟩
 cases hx
 refine⟨by rw[v3_bool hv],hM.upd.os,hM.upd.tape,hM.upd.output,hM.upd.size,fun k hk=>hM.upd.block k hk (hno k)⟩
end Go.Proofs.YtkglkigmdmohkaaGreatDoor
