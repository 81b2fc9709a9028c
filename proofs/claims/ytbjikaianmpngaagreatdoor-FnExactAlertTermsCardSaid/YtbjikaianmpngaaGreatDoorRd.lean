/- How the laws' struct types are read. -/
import Derived.Test.YtbjikaianmpngaaGreatDoorKY
set_option linter.unusedSimpArgs false
set_option linter.unusedVariables false
namespace Go.Proofs.YtbjikaianmpngaaGreatDoor
open Go.RowKit
section
variable {H : Type} {enc : TypeId × Value -> H} {w : World} {spare : Nat -> Bool} {held : Bool}
theorem jBR {H:Type} {ec:TypeId×Value->H} {P:Program} {w:World} {spare:Nat->Bool} {held:Bool} {fuel:Nat} {t e:TypeId} {cs:List Value} {x:DataW H×List MemPlace} {Y:Type} {m:Nat} {C:CRep Y} (hm0:0<m) (ht:P.underlying t=some (.slice e)) (hm:P.cellsOf e=m)
  (hel:∀(n:Nat) (cs:List Value) (y:DataW H×List MemPlace),n<fuel->DataW.trod ec P w 0 spare held n e cs=some y->cs.length=m->∃d:Y,C w cs d (fun _=>True))
  (h:DataW.trod ec P w 0 spare held fuel t cs=some x):∃v xs,cs=[v]/\SRep m C w v xs (fun _=>True):=by
 rcases DataW.trod_slice ht h with⟨rfl,_⟩|⟨a,len,cap,elems,rest,n,hfu,rfl,_,_,hl,hcm,hlen,he,_⟩
 .exact ⟨_,[],rfl,SRep.nil _ _ _ _⟩
 .rw [hm]at he
  obtain⟨xs,hxl,hx⟩:=choose_list (fun i (d:Y)=>∃cs',w.cells? 0 (a.add (i*m)) m=some cs'/\C w cs' d (fun _=>True)) len (fun i hi=>by
   have h1:=he i hi
   rw[zc (by omega)]at h1
   obtain⟨cs',h2,h3⟩:=zaw.1 h1
   obtain⟨d,hd⟩:=hel n cs' _ (by omega) h3 (World.cells?_some h2).2.1
   exact⟨d,cs',h2,hd⟩)
  refine⟨_,xs,rfl,some a,cap,by rw[hxl],by simp only[maxLen]at hcm;exact⟨by omega,by omega⟩,fun i d hd=>?_⟩
  obtain⟨cs',h1,h2⟩:=hx i d hd
  obtain⟨_,hn,hc⟩:=World.cells?_some h1
  have hsome:∀j c,cs'[j]? =some c->w.cell? (a.add (i*m+j))=some c:=by
   intro j c hj
   obtain⟨hj1,rfl⟩:=zh.1 hj
   rw[<-Addr.add_add]
   exact(hc j (by omega)).trans hj
  obtain⟨b,o,rfl⟩:∃b o,a=⟨b,o,none⟩:=by
   have hi:i<len:=by have:=(zh.1 hd).1;omega
   obtain⟨cs0,k1,_⟩:=hx 0 (xs[0]'(by omega)) (by simp)
   obtain⟨_,kn,kc⟩:=World.cells?_some k1
   have h0:=kc 0 hm0
   rw[zc (by omega),Addr.add_add]at h0
   obtain⟨b,o,sp⟩:=a
   cases sp with
   |none=>exact⟨b,o,rfl⟩
   |some sp=>
    exfalso
    simp only[World.cell?,Addr.add,Nat.zero_mul,zbz,if_true]at h0
    split at h0
    .simp at h0
    .cases h0
  have hb:b<w.heap.size:=by
   have h0:=hsome 0 (cs'[0]'(by omega)) (by simp)
   rw[add_at]at h0
   exact lt_of_cell h0
  exact⟨b,o,cs',rfl,trivial,hb,hn,fun j c hj=>by rw[zbv,<-add_at];exact hsome j c hj,h2⟩
theorem jAX {H:Type} {ec:TypeId×Value->H} {P:Program} {w:World} {spare:Nat->Bool} {held:Bool} {r:Tp} {fuel:Nat} {t e:TypeId} {cs:List Value} {x:DataW H×List MemPlace} (hm0:0<r.w) (ht:P.underlying t=some (.slice e)) (hm:P.cellsOf e=r.w)
  (hel:∀(n:Nat) (cs:List Value) (y:DataW H×List MemPlace),n<fuel->DataW.trod ec P w 0 spare held n e cs=some y->cs.length=r.w->∃d,RdC r w cs d (fun _=>True))
  (h:DataW.trod ec P w 0 spare held fuel t cs=some x):∃d,RdC (.sl r) w cs d (fun _=>True):=by
 obtain⟨v,xs,rfl,hs⟩:=jBR (C:=RdC r) hm0 ht hm hel h
 have hr:Rep w (WS w) v (.sl (xs.map (Go.Proofs.YtbjikaianmpngaaGreatDoor.enc r))):=jsW (fun b o _ hb=>hb) (fun cs x hc=>⟨by rw[enc_len,hc.2.1],hc.2.2⟩) hs
 obtain⟨a,cap,_,hl,hat⟩:=hs
 refine⟨xs,⟨hl.1,fun y hy=>?_⟩,rfl,fun j c hj=>?_⟩
 .obtain ⟨i,hi,rfl⟩:=zav.1 hy
  obtain⟨_,_,_,_,_,_,_,_,hc⟩:=hat i xs[i] (zc hi)
  exact hc.1
 .match j,hj with
  |0,hj=>cases hj;exact⟨_,rfl,hr⟩
theorem jCB :∀(fuel:Nat) {cs:List Value} {x:DataW H×List MemPlace},DataW.trod enc Tryz.prog w 0 spare held fuel 46 cs=some x->∃d,RdC .q w cs d (fun _=>True):=by
 intro fuel
 induction fuel using Nat.strongRecOn with
 |_ fuel ih=>
 intro cs x h
 obtain⟨ys,n,hfu,_,hl,hn,hf⟩:=DataW.trod_struct Tryz.underlying46 h
 rw[show Tryz.prog.cellsOf 46=6 from by kernel_rfl]at hl
 obtain⟨c0,c1,c2,c3,c4,c5,rfl⟩:=len6 hl
 have f0:=hf 0 _ rfl
 rw[zc (by rw[hn];decide)]at f0
 obtain⟨y0,g0⟩:∃y,DataW.trod enc Tryz.prog w 0 spare held n 3 [c0]=some y:=⟨_,by simpa[show Tryz.prog.cellsOf 3=1 from by kernel_rfl]using f0⟩
 obtain⟨x0,r0⟩:=jay Tryz.underlying3 g0
 have f1:=hf 1 _ rfl
 rw[zc (by rw[hn];decide)]at f1
 obtain⟨y1,g1⟩:∃y,DataW.trod enc Tryz.prog w 0 spare held n 9 [c1]=some y:=⟨_,by simpa[show Tryz.prog.cellsOf 9=1 from by kernel_rfl]using f1⟩
 obtain⟨x1,r1⟩:=jN Tryz.underlying9 g1
 have f2:=hf 2 _ rfl
 rw[zc (by rw[hn];decide)]at f2
 obtain⟨y2,g2⟩:∃y,DataW.trod enc Tryz.prog w 0 spare held n 23 [c2]=some y:=⟨_,by simpa[show Tryz.prog.cellsOf 23=1 from by kernel_rfl]using f2⟩
 obtain⟨x2,r2⟩:=jH (r:=.str) (by decide) Tryz.underlying23 (by kernel_rfl) (fun n cs y hy _=>jN Tryz.underlying9 hy) g2
 have f3:=hf 3 _ rfl
 rw[zc (by rw[hn];decide)]at f3
 obtain⟨y3,g3⟩:∃y,DataW.trod enc Tryz.prog w 0 spare held n 3 [c3]=some y:=⟨_,by simpa[show Tryz.prog.cellsOf 3=1 from by kernel_rfl]using f3⟩
 obtain⟨x3,r3⟩:=jay Tryz.underlying3 g3
 have f4:=hf 4 _ rfl
 rw[zc (by rw[hn];decide)]at f4
 obtain⟨y4,g4⟩:∃y,DataW.trod enc Tryz.prog w 0 spare held n 3 [c4]=some y:=⟨_,by simpa[show Tryz.prog.cellsOf 3=1 from by kernel_rfl]using f4⟩
 obtain⟨x4,r4⟩:=jay Tryz.underlying3 g4
 have f5:=hf 5 _ rfl
 rw[zc (by rw[hn];decide)]at f5
 obtain⟨y5,g5⟩:∃y,DataW.trod enc Tryz.prog w 0 spare held n 44 [c5]=some y:=⟨_,by simpa[show Tryz.prog.cellsOf 44=1 from by kernel_rfl]using f5⟩
 obtain⟨x5,r5⟩:=jAX (r:=.q) (by decide) Tryz.underlying44 (by kernel_rfl) (fun m cs y hm hy _=>ih m (by omega) hy) g5
 obtain⟨o,_,hc⟩:=r0.cons (r1.cons (r2.cons (r3.cons (r4.cons r5))))
 refine⟨.mk x0 x1 x2 x3 x4 x5,?_,rfl,fun j c hj=>hc j c ?_⟩
 .obtain ⟨o0,o1,o2,o3,o4,o5⟩:=o
  exact OkQ.mk o0 o1 o2.1 o2.2 o3 o4 o5.1 o5.2
 .rw [<-hj]
  congr 1
  show _=encQ _
  simp only[encQ,encQs_eq]
  rfl
theorem jHe {fuel:Nat} {cs:List Value} {x:DataW H×List MemPlace} (h:DataW.trod enc Tryz.prog w 0 spare held fuel 48 cs=some x):∃d,RdC (.pair .str .q) w cs d (fun _=>True):=by
 obtain⟨ys,n,_,_,hl,hn,hf⟩:=DataW.trod_struct Tryz.underlying48 h
 rw[show Tryz.prog.cellsOf 48=7 from by kernel_rfl]at hl
 obtain⟨c0,c1,c2,c3,c4,c5,c6,rfl⟩:=len7 hl
 have f0:=hf 0 _ rfl
 rw[zc (by rw[hn];decide)]at f0
 obtain⟨y0,g0⟩:∃y,DataW.trod enc Tryz.prog w 0 spare held n 9 [c0]=some y:=⟨_,by simpa[show Tryz.prog.cellsOf 9=1 from by kernel_rfl]using f0⟩
 obtain⟨x0,r0⟩:=jN Tryz.underlying9 g0
 have f1:=hf 1 _ rfl
 rw[zc (by rw[hn];decide)]at f1
 obtain⟨y1,g1⟩:∃y,DataW.trod enc Tryz.prog w 0 spare held n 46 [c1,c2,c3,c4,c5,c6]=some y:=⟨_,by simpa[show Tryz.prog.cellsOf 46=6 from by kernel_rfl]using f1⟩
 obtain⟨x1,r1⟩:=jCB _ g1
 exact⟨_,r0.cons r1⟩
theorem jpJ {fuel:Nat} {cs:List Value} {x:DataW H×List MemPlace} (h:DataW.trod enc Tryz.prog w 0 spare held fuel 73 cs=some x):∃d,RdC (.pair (.sl .str) .str) w cs d (fun _=>True):=by
 obtain⟨ys,n,_,_,hl,hn,hf⟩:=DataW.trod_struct Tryz.underlying73 h
 rw[show Tryz.prog.cellsOf 73=2 from by kernel_rfl]at hl
 obtain⟨c0,c1,rfl⟩:=len2 hl
 have f0:=hf 0 _ rfl
 rw[zc (by rw[hn];decide)]at f0
 obtain⟨y0,g0⟩:∃y,DataW.trod enc Tryz.prog w 0 spare held n 23 [c0]=some y:=⟨_,by simpa[show Tryz.prog.cellsOf 23=1 from by kernel_rfl]using f0⟩
 obtain⟨x0,r0⟩:=jH (r:=.str) (by decide) Tryz.underlying23 (by kernel_rfl) (fun n cs y hy _=>jN Tryz.underlying9 hy) g0
 have f1:=hf 1 _ rfl
 rw[zc (by rw[hn];decide)]at f1
 obtain⟨y1,g1⟩:∃y,DataW.trod enc Tryz.prog w 0 spare held n 9 [c1]=some y:=⟨_,by simpa[show Tryz.prog.cellsOf 9=1 from by kernel_rfl]using f1⟩
 obtain⟨x1,r1⟩:=jN Tryz.underlying9 g1
 exact⟨_,r0.cons r1⟩
theorem jkp {fuel:Nat} {cs:List Value} {x:DataW H×List MemPlace} (h:DataW.trod enc Tryz.prog w 0 spare held fuel 26 cs=some x):∃d,RdC (.pair (.sl .str) (.sl (.pair (.sl .str) .str))) w cs d (fun _=>True):=by
 obtain⟨ys,n,_,_,hl,hn,hf⟩:=DataW.trod_struct Tryz.underlying26 h
 rw[show Tryz.prog.cellsOf 26=2 from by kernel_rfl]at hl
 obtain⟨c0,c1,rfl⟩:=len2 hl
 have f0:=hf 0 _ rfl
 rw[zc (by rw[hn];decide)]at f0
 obtain⟨y0,g0⟩:∃y,DataW.trod enc Tryz.prog w 0 spare held n 23 [c0]=some y:=⟨_,by simpa[show Tryz.prog.cellsOf 23=1 from by kernel_rfl]using f0⟩
 obtain⟨x0,r0⟩:=jH (r:=.str) (by decide) Tryz.underlying23 (by kernel_rfl) (fun n cs y hy _=>jN Tryz.underlying9 hy) g0
 have f1:=hf 1 _ rfl
 rw[zc (by rw[hn];decide)]at f1
 obtain⟨y1,g1⟩:∃y,DataW.trod enc Tryz.prog w 0 spare held n 24 [c1]=some y:=⟨_,by simpa[show Tryz.prog.cellsOf 24=1 from by kernel_rfl]using f1⟩
 obtain⟨x1,r1⟩:=jH (r:=(.pair (.sl .str) .str)) (by decide) Tryz.underlying24 (by kernel_rfl) (fun n cs y hy _=>jpJ hy) g1
 exact⟨_,r0.cons r1⟩
end
end Go.Proofs.YtbjikaianmpngaaGreatDoor
