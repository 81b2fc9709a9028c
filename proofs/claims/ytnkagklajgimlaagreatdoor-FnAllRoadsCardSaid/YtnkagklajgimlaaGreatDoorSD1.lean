
import Derived.Test.YtnkagklajgimlaaGreatDoorSA1
import Derived.Test.YtnkagklajgimlaaGreatDoorSC1
import Derived.Test.YtnkagklajgimlaaGreatDoorG1
import Derived.Test.YtnkagklajgimlaaGreatDoorQ1
import Derived.Test.YtnkagklajgimlaaGreatDoorQA
set_option linter.unusedVariables false
set_option linter.unusedSimpArgs false
namespace Go.Proofs.YtnkagklajgimlaaGreatDoor
open Go.RowKit
theorem IL (c2:List eT) (l:List dv):∀x,x∈iy c2 l->∃y,y∈l/\x.2=y.2:=by
 intro x g
 match l with
 | []=>rw[wa]at g;cases g
 |t::r=>
  rw[iy]at g
  split at g
  .rcases bn.1 g with rfl|g
   .exact ⟨_,cb,rfl⟩
   .obtain ⟨y,hy,e⟩:=IL c2 r x g
    exact⟨y,ch _ hy,e⟩
  .rename_i y hy
   rcases bn.1 g with rfl|g
   .exact ⟨_,cb,rfl⟩
   .obtain ⟨z,h,e⟩:=IL c2 _ x g
    exact⟨z,ch _ (qi h),e⟩
termination_by l.length
decreasing_by all_goals (simp; try omega)
theorem IW (c:aK) (s:List UInt8) (g:s.length<=10000):mZ (dk c s):=fun x h=>by
 obtain⟨y,hy,e⟩:=IL c.2 _ x h
 rw[e]
 exact Iu c.1 s g y hy
theorem IZ (c:aK) {ad:List aF} (i:e0 ad) (k:gW) (id:Int):(eN c ad k id).length<=160/\∀x,x∈eN c ad k id->0<=x/\x<1000000:=by
 unfold eN
 cases h:e1 ad id with
 |none=>exact⟨bg _,fun x e=>by cases e⟩
 |some d=>
  have j:=i.text (ql h) k.1
  refine⟨?_,fun x e=>?_⟩
  .dsimp only
   rw[Fv]
   have g:=ho (fun t:dv=>decide (t.1=k.2)) (dk c (ez d.2.1 k.1))
   have l:=o9 c (ez d.2.1 k.1)
   omega
  .dsimp only [b5]at e
   obtain⟨t,g,rfl⟩:=cg.1 e
   exact IW c _ (by omega) t (gH.1 g).1
theorem Rj (P:UInt8->Prop) (xs:List (List UInt8)) (sep:List UInt8) (h:∀c,c∈sep->P c) (i:∀x,x∈xs->∀c,c∈x->P c) (L:Nat) (j:∀x,x∈xs->x.length+sep.length<=L):∀n,n<=xs.length->(∀c,c∈e9 (xs.take n) sep->P c)/\(e9 (xs.take n) sep).length<=n*L
 |0,_=>⟨fun c e=>(by cases e),bg _⟩
 |n+1,k=>by
  obtain⟨l,o⟩:=Rj P xs sep h i L j n (by omega)
  have hm:=br (show n<xs.length from k)
  have g:=i _ hm
  have p:=j _ hm
  rw[dT (show n<xs.length from k),IM,Nat.succ_mul]
  rcases t:xs.take n with _|⟨a,r⟩
  .exact ⟨g,by dsimp only;omega⟩
  .rw [t]at l o
   dsimp only
   refine⟨fun c e=>?_,?_⟩
   .rcases cE.1 e with e|e
    .rcases cE.1 e with e|e
     .exact l c e
     .exact h c e
    .exact g c e
   .rw [bh,bh]
    omega
theorem CP (xs:List (List UInt8)) (i:∀x,x∈xs->okW x=true) (o:xs.length<=4):fI (e9 xs [32])=true/\(e9 xs [32]).length<=160:=by
 obtain⟨j,k⟩:=Rj (fun c=>32<=c.toNat/\c.toNat<=126) xs [32] (fun c g=>by rw[du.1 g];decide) (fun x h c g=>by
  have:=((iw x).1 (i x h)).1 c g
  unfold fX at this
  simp only[lu,a6,bo]at this
  omega) 13 (fun x h=>by
  have:=((iw x).1 (i x h)).2.2
  rw[bS]
  omega) xs.length (bE _)
 rw[cj]at j k
 refine⟨?_,by omega⟩
 unfold fI dL
 rw[a6,cz,bo]
 refine⟨fun n l=>?_,by omega⟩
 have e:n<(e9 xs [32]).length:=by have:=List.mem_range'.1 l;omega
 have:=j _ (br e)
 rw[<-pv e,an (by omega),an (by omega)]
 rfl
def lW (k:Int) (l:List Int):List Int:=(l.filter fun x=>decide (k<=x)).map fun x=>x-k
theorem Rm (k:Int) (l:List Int) {n:Nat} (h:n<l.length):lW k (l.take (n+1))=bif decide (k<=l[n])then lW k (l.take n)++ [l[n]-k]else lW k (l.take n):=by
 unfold lW
 rw[dT h,jP,ib]
 cases e:decide (k<=l[n])
 .rw [tM (p:=fun x=>decide (k<=x)) (by rw[e];decide),aj]
  exact fe _
 .rw [tL (p:=fun x=>decide (k<=x)) e,ao]
  rfl
theorem I2 (k:Int) (l:List Int):(lW k l).length<=l.length:=by
 unfold lW
 rw[dE]
 exact ho _ _
def ir (e:List dv) (i:Nat):Int:=(dA e i).2-(dA e 0).2-i
def yk (c:aK) (ad:List aF) (field:List UInt8) (e:List dv) (id:Int) (i:Nat):List Int:=lW (ir e i) (eN c ad (field,(dA e i).1) id)
def kd (c:aK) (ad:List aF) (field:List UInt8) (e:List dv) (id:Int) (n:Nat):List (List Int):=(List.range n).map (yk c ad field e id)
theorem Rz (c:aK) (ad:List aF) (field:List UInt8) (e:List dv) (id:Int) (n:Nat):kd c ad field e id (n+1)=kd c ad field e id n++ [yk c ad field e id n]:=by
 unfold kd
 rw[List.range_succ,ib]
 rfl
theorem yl (c:aK) (ad:List aF) (field:List UInt8) (e:List dv) (id:Int) (n:Nat):(kd c ad field e id n).length=n:=by
 unfold kd
 rw[dE,List.length_range]
theorem RG (c:aK) {ad:List aF} (g:e0 ad) (field:List UInt8) (e:List dv) (id:Int) (n:Nat):∀l,l∈kd c ad field e id n->l.length<=1048576:=fun l h=>by
 obtain⟨i,_,rfl⟩:=cg.1 h
 have j:=(IZ c g (field,(dA e i).1) id).1
 have k:=I2 (ir e i) (eN c ad (field,(dA e i).1) id)
 unfold yk
 omega
theorem adz (N:Nat) {c:aK} {s:cq} (g:fl N c s) (q:Int) (i:List UInt8) (j:List (List UInt8)) (r t:Int) (u:List aN) (id:Int) (hw:∀w,w∈j->okW w=true) (H:j.length<=4):
  CM N c.1 c.2 s.1 s.2 q i j r t u id=some (kd c s.1 i (dk c (e9 j [32])) id (dk c (e9 j [32])).length):=by
 have C:=g.m
 have V:=g.top
 obtain⟨I,J⟩:=CP j hw H
 have p:=IW c (e9 j [32]) (by omega)
 have L:=o9 c (e9 j [32])
 unfold CM
 rw[Rk N C (by omega) j [32] (by omega) (by decide) (fun x F=>by have:=((iw x).1 (hw x F)).2.2;omega),ag,yu N c _ (by omega) C (iR g.ok).1,ag]
 generalize dk c (e9 j [32])=e at*
 have W:=p.at 0
 refine(dh _ e.length (fun n=>(id,kd c s.1 i e id n,e,(n:Int),s.1,s.2,q,i,j,r,t,u)) (fun n=>some (kd c s.1 i e id e.length)) (fun go=>?_) (fun go n G o=>?_) N 0 (bg _) (by omega)).trans rfl
 .dsimp only
  rw[an (bm _),aj]
 .dsimp only
  have M:=p.at n
  have O:idx e (0:Int)=some (dA e 0):=by rw[<-mH (show 0<e.length by omega)];exact aP (n:=0) (by omega)
  obtain⟨P,y⟩:=IZ c g.dM (i,(dA e n).1) id
  simp only[aS]at o
  rw[aq (by omega:(n:Int)<e.length),ao,aP G,ag,O,ag,mH G,ai (by unfold fits;omega),ai (by unfold fits;omega),ag,Jd N g i (dA e n).1 id,ag]
  have Q:(dA e n).2-(dA e 0).2-(n:Int)=ir e n:=rfl
  rw[Q]
  have S: -2000000<=ir e n/\ir e n<=2000000:=by unfold ir;omega
  have T:yk c s.1 i e id n=lW (ir e n) (eN c s.1 (i,(dA e n).1) id):=rfl
  have U:=yl c s.1 i e id n
  rw[Rz,T]at o
  generalize ir e n=K at*
  generalize eN c s.1 (i,(dA e n).1) id=h at*
  generalize kd c s.1 i e id n=out at*
  refine(dh _ h.length (fun k=>(id,out,e,(n:Int),K,h,lW K (h.take k),(k:Int),s.1,s.2,q,i,j,r,t,u)) (fun k=>go (id,out++ [lW K h],e,(n:Int)+1,s.1,s.2,q,i,j,r,t,u)) (fun go2=>?_) (fun go2 k z l=>?_) N 0 (bg _) (by omega)).trans o
  .dsimp only
   rw[an (bm _),aj,cj,ai (bW (by rw[bS];omega) (by rw[bS];omega)),ai (aO (n:=n) (by omega))]
  .dsimp only
   have F:=y _ (br z)
   have A:=I2 K (h.take k)
   rw[bN]at A
   simp only[aS,Rm K h z]at l
   rw[aq (by omega:(k:Int)<h.length),ao,aP z,ag,ag,ai (by unfold fits;omega),ai (bW (by rw[bS];omega) (by rw[bS];omega)),<-l]
   simp only[ai (aO (n:=k) (by omega))]
   cases decide (K<=h[k])<;>rfl
theorem adD {e ρ:Type} {J:e->Option ρ} {X:(e->Option ρ)->Option ρ} {w:Option ρ} (g0:e) (v:Option ρ) (h:J g0=v) (i:∀g:e->Option ρ,g g0=v->X g=w):meet J X=w:=i J h
def ny (c:aK) (ad:List aF) (field:List UInt8) (e:List dv) (id:Int):Nat:=dK (e.map fun t=>jn c ad field t.1 id)
theorem Rp (c:aK) (ad:List aF) (field:List UInt8) (e:List dv) (id:Int) {n:Nat} (h:n<e.length):ny c ad field (e.take (n+1)) id=ny c ad field (e.take n) id+jn c ad field (dA e n).1 id:=by
 unfold ny
 rw[List.map_take,arC _ n (by rw[dE];exact h),List.map_take,List.getElem_map,mH h]
theorem IU (c:aK) {ad:List aF} (g:e0 ad) (field:List UInt8) (e:List dv) (id:Int):ny c ad field e id<=e.length*8800000:=by
 have:=tA 8800000 (e.map fun t=>jn c ad field t.1 id) (fun x h=>by
  obtain⟨t,_,rfl⟩:=cg.1 h
  exact yN c g field t.1 id)
 rwa[dE]at this
def yo (c:aK) (ad:List aF) (field:List UInt8) (g:List dv) (e:Int) (id:Int):Nat:=ny c ad field g id*min (ry (kd c ad field g id g.length) e).length 3
def vP (c:aK) (ad:List aF) (field:List UInt8) (ws:List (List UInt8)) (e:Int) (id:Int):Nat:=yo c ad field (dk c (e9 ws [32])) e id
theorem IP (c:aK) {ad:List aF} (h:e0 ad) (field:List UInt8) (g:List dv) (j:g.length<=160) (e id:Int):yo c ad field g e id<=4224000000:=by
 unfold yo
 have k:=IU c h field g id
 have i:min (ry (kd c ad field g id g.length) e).length 3<=3:=Nat.min_le_right _ _
 calc _<=1408000000*3:=tN (by omega) i
  _=4224000000:=rfl
theorem aph (c:aK) {ad:List aF} (g:e0 ad) (field:List UInt8) (ws:List (List UInt8)) (hw:∀w,w∈ws->okW w=true) (h:ws.length<=4) (e id:Int):vP c ad field ws e id<=4224000000:=by
 have i:=(CP ws hw h).2
 have j:=o9 c (e9 ws [32])
 exact IP c g field _ (by omega) e id
theorem anF (N:Nat) {c:aK} {s:cq} (g:fl N c s) (q:Int) (i:List UInt8) (j:List (List UInt8)) (k o:Int) (p:List aN) (id:Int) (hw:∀w,w∈j->okW w=true) (u:j.length<=4):
  CA N c.1 c.2 s.1 s.2 q i j k o p id=some (vP c s.1 i j k id:Int):=by
 have r:=g.m
 have P:=g.top
 obtain⟨C,F⟩:=CP j hw u
 have G:=o9 c (e9 j [32])
 have H:=Rk N r (by omega) j [32] (by omega) (by decide) (fun x I=>by have:=((iw x).1 (hw x I)).2.2;omega)
 have K:=yu N c (e9 j [32]) (by omega) r (iR g.ok).1
 unfold CA vP
 rw[adz N g q i j k o p id hw u,ag,yl]
 generalize dk c (e9 j [32])=h at*
 have y:=IP c g.dM i h (by omega) k id
 by_cases L:h.length=0
 .have e:h=[]:=wu.1 L
  subst e
  rw[aq (by omega),ao]
  show some (0:Int)=some ((0*_:Nat):Int)
  rw[Nat.zero_mul]
  rfl
 .rw [an (by omega),aj,adR N r (by omega) _ k (by rw[yl];omega) (RG c g.dM i h id h.length),ag]
  unfold yo at*
  generalize Q:ry (kd c s.1 i h id h.length) k=ps at*
  refine adD (id,((min ps.length 3:Nat):Int),c.1,c.2,s.1,s.2,q,i,j,k,o,p) (some ((ny c s.1 i h id*min ps.length 3:Nat):Int)) ?_ (fun J z=>?_)
  .dsimp only
   rw[H,ag,K,ag]
   refine(dh _ h.length (fun n=>(id,((min ps.length 3:Nat):Int),(ny c s.1 i (h.take n) id:Int),h,(n:Int),s.1,s.2,q,i,j,k,o,p)) (fun n=>some ((ny c s.1 i h id*min ps.length 3:Nat):Int)) (fun go=>?_) (fun go n t l=>?_) N 0 (bg _) (by omega)).trans rfl
   .dsimp only
    rw[an (bm _),aj,cj,<-n3,ai (ee (by omega) (by omega))]
   .dsimp only
    have M:=IU c g.dM i (h.take n) id
    have O:=yN c g.dM i (dA h n).1 id
    rw[bN]at M
    simp only[aS,Rp c s.1 i h id t]at l
    rw[aq (by omega:(n:Int)<h.length),ao,aP t,ag,mH t,Jf N g i (dA h n).1 id,ag,ai (ee (by omega) (by omega)),ai (aO (n:=n) (by omega)),<-l,Int.natCast_add]
  .by_cases A:(3:Int)<ps.length
   .rw [aq A,ao,<-z,Nat.min_eq_right (by omega)]
    rfl
   .rw [an A,aj,<-z,pg (by omega)]
theorem afd {n:Nat}:(if(n:Int)<3 then(n:Int)else 3)=((min n 3:Nat):Int):=by
 split<;>omega
theorem aaV (N:Nat) {c:aK} {s:cq} (g:fl N c s) (q:Int) (i:List UInt8) (l:List (List UInt8)) (o u:Int) (y:List aN) (id:Int) (d2:List eo) (d3:List gz) (hw:∀w,w∈l->okW w=true) (M:l.length<=4):
  CF N (c,s) q i l o u y id d2 d3=some (vP c s.1 i l o id:Int):=by
 have I:=g.m
 have ow:=g.top
 obtain⟨z,O⟩:=CP l hw M
 have P:=o9 c (e9 l [32])
 have t:=IW c (e9 l [32]) (by omega)
 have J:=EJ N c (e9 l [32]) (by omega) I (by omega) g.c8
 rw[(iR g.ok).1,z,fD,ao]at J
 unfold CF vP
 dsimp only
 rw[Q9 N l [32] (by omega) (by decide) (fun x K=>by have:=((iw x).1 (hw x K)).2.2;omega),ag,J,ag]
 generalize dk c (e9 l [32])=h at*
 have L:=IP c g.dM i h (by omega) o id
 by_cases Q:h.length=0
 .have e:h=[]:=wu.1 Q
  subst e
  rw[aq (by rfl),ao]
  show some (0:Int)=some ((0*_:Nat):Int)
  rw[Nat.zero_mul]
  rfl
 .rw [an (by omega),aj]
  unfold yo at*
  have bL:=t.at 0
  refine(dh _ h.length (fun n=>((c,s),h,kd c s.1 i h id n,(ny c s.1 i (h.take n) id:Int),h,(h.length:Int),(n:Int),q,i,l,o,u,y,id,d2,d3)) (fun n=>some ((ny c s.1 i h id*min (ry (kd c s.1 i h id h.length) o).length 3:Nat):Int)) (fun go=>?_) (fun go n A r=>?_) N 0 (bg _) (by omega)).trans rfl
  .dsimp only
   rw[an (bm _),aj,cj,adM N I (by omega) _ o (by rw[yl];omega) (RG c g.dM i h id h.length),ag,afd,<-n3,lB (min _ _),ai (ee (by omega) (by omega))]
  .dsimp only
   have S:=t.at n
   have T:idx h (0:Int)=some (dA h 0):=by rw[<-mH (show 0<h.length by omega)];exact aP (n:=0) (by omega)
   obtain⟨U,C⟩:=IZ c g.dM (i,(dA h n).1) id
   have V:=IU c g.dM i (h.take n) id
   have W:=yN c g.dM i (dA h n).1 id
   rw[bN]at V
   simp only[aS,Rp c s.1 i h id A]at r
   rw[aq (by omega:(n:Int)<h.length),ao,aP A,ag,mH A,Kb N g c i (dA h n).1 id,ag]
   have X:(dA h n).2-(dA h 0).2-(n:Int)=ir h n:=rfl
   have Y: -2000000<=ir h n/\ir h n<=2000000:=by unfold ir;omega
   have Z:yk c s.1 i h id n=lW (ir h n) (eN c s.1 (i,(dA h n).1) id):=rfl
   have atj:=yl c s.1 i h id n
   have F:=Kd N g i (dA h n).1 id
   rw[Rz,Z]at r
   generalize eN c s.1 (i,(dA h n).1) id=j at*
   generalize kd c s.1 i h id n=out at*
   generalize ny c s.1 i (h.take n) id=all at*
   generalize jn c s.1 i (dA h n).1 id=apq at*
   refine(dh _ j.length (fun k=>((c,s),h,out,(all:Int),(n:Int),lW (ir h n) (j.take k),h,(h.length:Int),(n:Int),j,(j.length:Int),(k:Int),q,i,l,o,u,y,id,d2,d3,(dA h n).1,(dA h n).2)) (fun k=>go ((c,s),h,out++ [lW (ir h n) j],((all+apq:Nat):Int),h,(h.length:Int),(n:Int)+1,q,i,l,o,u,y,id,d2,d3)) (fun go2=>?_) (fun go2 k G p=>?_) N 0 (bg _) (by omega)).trans r
   .dsimp only
    rw[an (bm _),aj,cj,ai (bW (by rw[bS];omega) (by rw[bS];omega)),F,ag,ai (ee (by omega) (by omega)),ai (aO (n:=n) (by omega)),Int.natCast_add]
   .dsimp only
    have K:=C _ (br G)
    have H:=I2 (ir h n) (j.take k)
    rw[bN]at H
    simp only[aS,Rm (ir h n) j G]at p
    rw[aq (by omega:(k:Int)<j.length),ao,aP G,ag,T,ag,X,ai (by unfold fits;omega),ai (by unfold fits;omega),ai (by unfold fits;omega),ai (bW (by rw[bS];omega) (by rw[bS];omega)),<-p,show decide ((0:Int)<=j[k]-ir h n)=decide (ir h n<=j[k])from by rw[decide_eq_decide];omega]
    simp only[ai (aO (n:=k) (by omega))]
    cases decide (ir h n<=j[k])<;>rfl
def sg (n:Int):Bool:=fX n||(decide (n=42)||decide (n=63))
def l2 (s:List UInt8):Bool:=dL s.length (fun n=>sg (eV s n))&&(decide ((1:Int)<=s.length)&&decide ((s.length:Int)<=12))
theorem Ru (N:Nat) (s:List UInt8) (h:s.length<N) (i:N<=1099511627776):ym N s=some (l2 s):=by
 unfold ym
 refine kx _ s.length (fun n=>(s,(s.length:Int),(n:Int))) (fun n=>sg (eV s n)) _ (fun go=>?_) (fun go n e=>?_) N h
 .dsimp only
  rw[an (bm _),aj,fB,ag]
 .dsimp only
  rw[aq (by omega:(n:Int)<s.length),ao,aP e]
  simp only[ag,Cp,pv e]
  have g:fits ((n:Int)+1):=aO (by omega)
  simp only[ai g,aS]
  unfold sg
  cases fX (eV s n)<;>cases decide (eV s n=42)<;>cases decide (eV s n=63)<;>rfl
theorem aeg (N:Nat) (s:List UInt8) (n:Nat) (i:n<s.length) (h:2<N) (e:N<=1099511627776):iO N ((s.take (n+1)).drop n)=some (fX (eV s n)):=by
 have g:((s.take (n+1)).drop n).length=1:=by rw[eF,bN];omega
 rw[oH N _ (by omega) e]
 congr 1
 unfold okW
 rw[g]
 have:eV ((s.take (n+1)).drop n) 0=eV s n:=by
  unfold eV
  rw[hV,hU,ai (by omega),lC]
 show((List.range' 0 1).all _&&_)=_
 rw[show List.range' 0 1=[0]from rfl,List.all_cons,List.all_nil,this]
 cases fX (eV s n)<;>rfl
theorem adi (N:Nat) (s:List UInt8) (h:s.length<N) (g:2<N) (i:N<=1099511627776):CR N s=some (l2 s):=by
 unfold CR
 refine kx _ s.length (fun n=>(s,(n:Int))) (fun n=>sg (eV s n)) _ (fun go=>?_) (fun go n e=>?_) N h
 .dsimp only
  rw[an (bm _),aj,jD,ag]
 .dsimp only
  have j:cut s (n:Int) ((n:Int)+1)=some ((s.take (n+1)).drop n):=by
   unfold cut
   rw[ai ⟨by omega,by omega,by omega⟩,show((n:Int)+1).toNat=n+1 from by omega,eg]
  rw[aq (by omega:(n:Int)<s.length),ao,aP e]
  simp only[ag,pv e]
  have k:fits ((n:Int)+1):=aO (by omega)
  simp only[ai k,j,ag]
  have hw:=aeg N s n e g i
  generalize iO N ((s.take (n+1)).drop n)=w at*
  subst hw
  rw[ag,aS]
  unfold sg
  generalize fX (eV s n)=p
  cases p<;>cases decide (eV s n=42)<;>cases decide (eV s n=63)<;>rfl
def eX {α:Type} (l:List α):Bool:=decide ((l.length:Int)=0)
def hA (k:Int) (f:List UInt8) (ws:List (List UInt8)) (a b:Int) (kids:List aN):Bool:=
 bif decide (k=1)then decide (f=[])&&(eX ws&&((decide (a=0)&&decide (b=0))&&eX kids))
 else bif decide (k=2)then(decide (a=0)&&decide (b=0)&&eX kids)&&(okW f&&(ws.all okW&&decide ((ws.length:Int)=1)))
 else bif decide (k=3)then eX kids&&(okW f&&(ws.all okW&&(decide ((2:Int)<=ws.length)&&decide ((ws.length:Int)<=4))&&(decide (b=0)&&(decide (0<=a)&&decide (a<=5)))))
 else bif decide (k=4)then eX kids&&(okW f&&(ws.all okW&&decide ((ws.length:Int)=1)&&(decide (b=0)&&(decide (1<=a)&&decide (a<=2)))))
 else bif decide (k=5)then(decide (a=0)&&decide (b=0)&&eX kids)&&(okW f&&(ws.all (fun w=>l2 w&& !okW w)&&decide ((ws.length:Int)=1)))
 else bif decide (k=6)then eX ws&&eX kids&&(okW f&&((decide (0<=a)&&decide (a<=999999999))&&(decide (a<=b)&&decide (b<=999999999))))
 else bif decide (k=7)||decide (k=8)then decide (f=[])&&(eX ws&&((decide (a=0)&&decide (b=0))&&(decide ((2:Int)<=kids.length)&&decide ((kids.length:Int)<=4))))
 else bif decide (k=9)then decide (f=[])&&(eX ws&&((decide (a=0)&&decide (b=0))&&decide ((kids.length:Int)=2)))
 else bif decide (k=10)then decide (f=[])&&(eX ws&&(decide ((kids.length:Int)=1)&&(decide (b=0)&&(decide (2<=a)&&decide (a<=9)))))
 else false
def cZ :Nat->aN->Bool
 |0,_=>false
 |n+1,.mk k f ws a b kids=>hA k f ws a b kids&&kids.all (cZ n)
theorem sY (N:Nat) (k:Int) (f:List UInt8) (ws:List (List UInt8)) (a b:Int) (kids:List aN) (p q r s:Bool):mI N k f ws a b kids p q r s=some ((p||decide (f=[]))&&((q||eX ws)&&((r||(decide (a=0)&&decide (b=0)))&&(s||eX kids)))):=by
 unfold mI eX
 cases p<;>cases q<;>cases r<;>cases s<;>cases decide (f=[])<;>cases decide ((ws.length:Int)=0)<;>cases decide (a=0)<;>cases decide (b=0)<;>cases decide ((kids.length:Int)=0)<;>rfl
theorem adX (N:Nat) (g:bC<N) (i:N<=1099511627776) (ws:List (List UInt8)) (most:Int) (h:ws.length<=1048576) (hw:∀w,w∈ws->w.length<=1048576):vn N ws most=some (ws.all okW&&(decide ((1:Int)<=ws.length)&&decide ((ws.length:Int)<=most))):=by
 have j:1048576<N:=g
 unfold vn
 refine(mr _ ws (fun n=>(ws,most,(n:Int))) okW (some false) (some (decide ((1:Int)<=ws.length)&&decide ((ws.length:Int)<=most))) (fun go=>?_) (fun go n e=>?_) N (by omega)).trans (by cases ws.all okW<;>rfl)
 .dsimp only
  rw[an (bm _),aj,jD,ag]
 .dsimp only
  have:=hw _ (br e)
  rw[aq (by omega:(n:Int)<ws.length),ao,aP e,ag,oH N _ (by omega) i,ag,ai (aO (n:=n) (by omega)),aS]
  cases okW ws[n]<;>rfl
theorem vp {c:Bool} {x y:Option Bool} {p q:Bool} (e:c=true->x=some p) (g:c=false->y=some q):(bif c then x else y)=some (bif c then p else q):=by
 cases c
 .exact g rfl
 .exact e rfl
theorem adj {α:Type} {xs:List α} (h:decide ((xs.length:Int)=1)=true):∃x,xs=[x]:=by
 have:=of_decide_eq_true h
 match xs,this with
 | [x],_=>exact⟨x,rfl⟩
theorem adK (N:Nat) (u:bC<N) (i:N<=1099511627776) (k:Int) (f:List UInt8) (ws:List (List UInt8)) (a b:Int) (kids:List aN) (H:f.length<=1048576) (h:ws.length<=1048576) (hw:∀w,w∈ws->w.length<=1048576):CW N k f ws a b kids=some (hA k f ws a b kids):=by
 have z:1048576<N:=u
 have g:=oH N f (by omega) i
 have l:=adX N u i ws
 unfold CW hA
 refine vp (fun _=>?_) (fun _=>vp (fun _=>?_) (fun _=>vp (fun _=>?_) (fun _=>vp (fun _=>?_) (fun _=>vp (fun _=>?_) (fun _=>vp (fun _=>?_) (fun _=>?_))))))
 .rw [sY,ag]
  rfl
 .rw [sY,ag]
  simp only[g,l _ h hw,ag,ly,fL,cl]
  generalize(decide (a=0)&&decide (b=0))=p
  generalize eX kids=q
  generalize okW f=r
  rw[show(decide ((1:Int)<=ws.length)&&decide ((ws.length:Int)<=1))=decide ((ws.length:Int)=1)from by rw[ma];simp only[a6,bo];omega]
  cases p<;>cases q<;>cases r<;>rfl
 .rw [sY,ag]
  simp only[g,l _ h hw,jD,ag,ly,fL,cl]
  generalize eX kids=q
  generalize okW f=r
  generalize ws.all okW=t
  rw[show decide ((2:Int)<=ws.length)=(decide ((1:Int)<ws.length))from by congr 1]
  by_cases j:(1:Int)<ws.length
  .rw [aq j,aq (by omega:(1:Int)<=ws.length)]
   cases q<;>cases r<;>cases t<;>cases decide ((ws.length:Int)<=4)<;>cases decide (b=0)<;>rfl
  .rw [an j]
   cases q<;>cases r<;>cases t<;>cases(decide ((1:Int)<=ws.length))<;>cases decide ((ws.length:Int)<=4)<;>rfl
 .rw [sY,ag]
  simp only[g,l _ h hw,jD,ag,ly,fL,cl]
  rw[show(decide ((1:Int)<=ws.length)&&decide ((ws.length:Int)<=1))=decide ((ws.length:Int)=1)from by rw[ma];simp only[a6,bo];omega]
  generalize eX kids=q
  generalize okW f=r
  generalize ws.all okW=t
  cases q<;>cases r<;>cases t<;>cases decide ((ws.length:Int)=1)<;>cases decide (b=0)<;>rfl
 .rw [sY,ag]
  simp only[g,ag,ly,fL,cl]
  generalize(decide (a=0)&&decide (b=0))=p
  generalize eX kids=q
  generalize okW f=r
  cases j:decide ((ws.length:Int)=1)with
  |false=>
   cases p<;>cases q<;>cases r<;>cases(ws.all fun w=>l2 w&& !okW w)<;>rfl
  |true=>
   obtain⟨w,rfl⟩:=adj j
   have I:=hw w cb
   have e:idx [w] (0:Int)=some w:=rfl
   simp only[e,ag,adi N w (by omega) (by omega) i,oH N w (by omega) i,List.all_cons,List.all_nil]
   generalize l2 w=x
   generalize okW w=y
   cases p<;>cases q<;>cases r<;>cases x<;>cases y<;>rfl
 .rw [sY,ag]
  simp only[g,jD,ag,ly,fL,cl]
  generalize eX kids=q
  generalize eX ws=p
  generalize okW f=r
  generalize(decide (0<=a)&&decide (a<=999999999))=s
  cases p<;>cases q<;>cases r<;>cases s<;>rfl
 .simp only [meet,sY,jD,ag,ly,fL,cl,fD]
  generalize decide (f=[])=p
  generalize eX ws=q
  generalize decide (a=0)=r
  generalize J:decide (b=0)=s
  generalize decide (k=7)=A
  generalize decide (k=8)=C
  generalize decide (k=9)=F
  generalize decide (k=10)=o
  generalize(decide ((2:Int)<=kids.length)&&decide ((kids.length:Int)<=4))=x
  generalize(decide ((kids.length:Int)=2))=K
  generalize(decide ((kids.length:Int)=1))=G
  generalize(decide (2<=a)&&decide (a<=9))=y
  cases A<;>cases C<;>cases F<;>cases o<;>cases p<;>cases q<;>cases r<;>cases s<;>cases G<;>rfl
def ie :Nat->aN->Prop
 |0,_=>True
 |n+1,q=>q.field.length<=1048576/\q.words.length<=1048576/\(∀w,w∈q.words->w.length<=1048576)/\q.kids.length<=1048576/\∀c,c∈q.kids->ie n c
theorem RV (N:Nat) (g:bC<N) (h:N<=1099511627776):∀(n D:Nat),n<D->n<=1000->∀q,ie n q->vq N D q.kind q.field q.words q.lo q.hi q.kids (n:Int)=some (cZ n q)
 |0,D+1,_,_,q,_=>by
  rw[vq,aq (by rfl),ao]
  rfl
 |n+1,D+1,z,A,q,r=>by
  have t:1048576<N:=g
  have u:=RV N g h n D (by omega) (by omega)
  obtain⟨k,f,ws,a,b,kids⟩:=q
  obtain⟨j,l,o,y,p⟩:=r
  dsimp only[aN.kind,aN.field,aN.words,aN.lo,aN.hi,aN.kids]at j l o y p⊢
  rw[vq,an (by omega),aj,adK N g h k f ws a b kids j l o,ag,cZ]
  have e:((n+1:Nat):Int)-1=(n:Int):=by omega
  cases C:hA k f ws a b kids
  .rfl
  .rw [bf,aj,cl]
   refine Eq.trans (mr _ kids (fun i=>(((n+1:Nat):Int),(i:Int),k,f,ws,a,b,kids)) (cZ n) (some false) (some true) (fun go=>?_) (fun go i hi=>?_) N (by omega)) ?_
   .dsimp only
    rw[an (bm _),aj]
   .dsimp only
    have hm:=br hi
    rw[aq (by omega:(i:Int)<kids.length),ao,aP hi,ag,e,ai (by unfold fits;omega),u _ (p _ hm),ag,ai (aO (n:=i) (by omega)),aS]
    cases cZ n kids[i]<;>rfl
   .cases kids.all (cZ n)<;>rfl
theorem IQ {e ρ:Type} {J:e->Option ρ} {X:(e->Option ρ)->Option ρ} {w:Option ρ} (g0:e) (v:Option ρ) (h:J g0=v) (i:∀g:e->Option ρ,g g0=v->X g=w):meet J X=w:=i J h
abbrev E9 :Type:=Bool×Int×Int×Int×Int×Bool×Int×Int
def zc (k:Int):Option E9:=ea (.int .i64) (.pair .bool (.pair (.int .i64) (.pair (.int .i64) (.pair (.int .i64) (.pair (.int .i64) (.pair .bool (.pair (.int .i64) (.int .i64)))))))) gg k
theorem aeX {k:Int} (g:¬k=1) (h:¬k=2) (i:¬k=3) (j:¬k=4) (l:¬k=5) (o:¬k=6) (p:¬k=7) (r:¬k=8) (t:¬k=9) (e:¬k=10):zc k=none:=by
 unfold zc ea gg
 simp only[List.find?,aJ.h2,an g,an h,an i,an j,an l,an o,an p,an r,an t,an e,Option.map_none]
def hJ (n lo hi:Int):Bool:=decide (lo<=n)&&decide (n<=hi)
def hP (k:Int) (w:List UInt8):Bool:=bif decide (k=5)then l2 w&& !okW w else okW w
def hz (s:E9) (k:Int) (f:List UInt8) (ws:List (List UInt8)) (a b:Int) (kids:List aN) (P:aN->Bool):Bool:=
 (s.1== !decide (f=[]))&&((!s.1||okW f)&&(hJ ws.length s.2.1 s.2.2.1&&(hJ kids.length s.2.2.2.2.2.2.1 s.2.2.2.2.2.2.2&&(hJ a s.2.2.2.1 s.2.2.2.2.1&&((!s.2.2.2.2.2.1||hJ b a 999999999)&&((s.2.2.2.2.2.1||decide (b=0))&&(ws.all (hP k)&&kids.all P)))))))
def Ri (s:Option E9) (k:Int) (f:List UInt8) (ws:List (List UInt8)) (a b:Int) (kids:List aN) (P:aN->Bool):Bool:=
 match s with
 |none=>false
 |some s=>hz s k f ws a b kids P
theorem aeM (N:Nat) (F:bC<N) (u:N<=1099511627776) (n D:Nat) (O:n<=1000) (G:∀q,ie n q->oO N D q.kind q.field q.words q.lo q.hi q.kids (n:Int)=some (cZ n q)) (k:Int) (f:List UInt8) (ws:List (List UInt8)) (a b:Int) (kids:List aN) (P:f.length<=1048576) (Q:ws.length<=1048576) (H:∀w,w∈ws->w.length<=1048576) (S:kids.length<=1048576) (I:∀c,c∈kids->ie n c):oO N (D+1) k f ws a b kids ((n+1:Nat):Int)=some (Ri (zc k) k f ws a b kids (cZ n)):=by
 have K:1048576<N:=F
 have e:((n+1:Nat):Int)-1=(n:Int):=by omega
 rw[oO]
 unfold zc
 generalize ea (.int .i64) (.pair .bool (.pair (.int .i64) (.pair (.int .i64) (.pair (.int .i64) (.pair (.int .i64) (.pair .bool (.pair (.int .i64) (.int .i64)))))))) gg k=o
 cases o with
 |none=>rfl
 |some sh=>
  obtain⟨x,h,j,l,p,g,r,t⟩:=sh
  show _=some (hz _ k f ws a b kids (cZ n))
  unfold hz
  dsimp only
  generalize y:(ws.all (hP k)&&kids.all (cZ n))=v3
  generalize z:((!g||hJ b a 999999999)&&((g||decide (b=0))&&v3))=v2
  refine IQ (((n+1:Nat):Int),k,f,ws,a,b,kids,x,h,j,l,p,g,r,t) (some (hJ ws.length h j&&(hJ kids.length r t&&(hJ a l p&&v2)))) ?_ (fun J L=>?_)
  .dsimp only
   refine IQ (((n+1:Nat):Int),k,f,ws,a,b,kids,x,h,j,l,p,g,r,t) (some v2) ?_ (fun T A=>?_)
   .dsimp only
    refine IQ (((n+1:Nat):Int),k,f,ws,a,b,kids) (some v3) ?_ (fun U C=>?_)
    .dsimp only
     refine Eq.trans (mr _ ws (fun i=>(((n+1:Nat):Int),ws,(ws.length:Int),(i:Int),k,f,ws,a,b,kids)) (hP k) (some false) (some (kids.all (cZ n))) (fun go=>?_) (fun go i hi=>?_) N (by omega)) ?_
     .dsimp only
      rw[an (bm _),aj]
      refine Eq.trans (mr _ kids (fun i=>(((n+1:Nat):Int),kids,(kids.length:Int),(i:Int))) (cZ n) (some false) (some true) (fun go=>?_) (fun go i hi=>?_) N (by omega)) ?_
      .dsimp only
       rw[an (bm _),aj]
      .dsimp only
       have hm:=br hi
       rw[aq (by omega:(i:Int)<kids.length),ao,aP hi,ag,e,ai (by unfold fits;omega),G _ (I _ hm),ag,ai (aO (n:=i) (by omega)),aS]
       cases cZ n kids[i]<;>rfl
      .cases kids.all (cZ n)<;>rfl
     .dsimp only
      have hm:=H _ (br hi)
      have M:fits ((i:Int)+1):=aO (by omega)
      rw[aq (by omega:(i:Int)<ws.length),ao,aP hi,ag]
      simp only[Ru N _ (by omega:ws[i].length<N) u,l7 N _ (by omega:ws[i].length<N) u,ag,ai M,aS]
      unfold hP
      cases decide (k=5)<;>cases l2 ws[i]<;>cases okW ws[i]<;>rfl
     .rw [<-y]
      cases ws.all (hP k)<;>rfl
    .simp only [fB,ag,C]
     rw[<-z]
     unfold hJ
     cases g<;>cases decide (a<=b)<;>cases decide (b<=999999999)<;>cases decide (b=0)<;>rfl
   .simp only [fB,ag,A]
    unfold hJ
    cases(decide (h<=(ws.length:Int))&&decide ((ws.length:Int)<=j))<;>cases(decide (r<=(kids.length:Int))&&decide ((kids.length:Int)<=t))<;>cases(decide (l<=a)&&decide (a<=p))<;>rfl
  .dsimp only [Option.isSome,Option.getD]
   rw[an (by omega:¬((n+1:Nat):Int)<1)]
   simp only[l7 N f (by omega) u,ag,L]
   cases x<;>cases decide (f=[])<;>cases okW f<;>rfl
theorem oM {m v:Int}:hJ m v v=decide (m=v):=by unfold hJ;rw[ma];simp only[a6,bo];omega
theorem adh (k:Int) (f:List UInt8) (ws:List (List UInt8)) (a b:Int) (kids:List aN) (P:aN->Bool):Ri (zc k) k f ws a b kids P=(hA k f ws a b kids&&kids.all P):=by
 have e:decide ((ws.length:Int)=0)=true->ws.all (hP k)=true:=fun h=>by
  have:=of_decide_eq_true h
  rw[wu.1 (by omega:ws.length=0)]
  rfl
 have r:decide ((kids.length:Int)=0)=true->kids.all P=true:=fun h=>by
  have:=of_decide_eq_true h
  rw[wu.1 (by omega:kids.length=0)]
  rfl
 have M:decide (f=[])=true->okW f=false:=fun h=>by rw[of_decide_eq_true h];rfl
 by_cases t:k=1
 .subst t
  show hz (false,0,0,0,0,false,0,0) 1 f ws a b kids P=_
  rw[show hP 1=okW from rfl]at e
  unfold hz hA eX
  rw[show hP 1=okW from rfl]
  dsimp only
  simp only[oM]
  unfold hJ
  generalize ws.all okW=q at*
  generalize kids.all P=p at*
  generalize decide ((ws.length:Int)=0)=l at*
  generalize decide ((kids.length:Int)=0)=m at*
  generalize decide (a=0)=u at*
  generalize decide (b=0)=v at*
  generalize decide (f=[])=z at*
  generalize okW f=o at*
  cases q<;>cases p<;>cases l<;>cases m<;>cases u<;>cases v<;>cases z<;>cases o<;>first|rfl|simp_all
 by_cases y:k=2
 .subst y
  show hz (true,1,1,0,0,false,0,0) 2 f ws a b kids P=_
  clear e
  unfold hz hA eX
  rw[show hP 2=okW from rfl]
  dsimp only
  simp only[oM]
  unfold hJ
  generalize ws.all okW=q at*
  generalize kids.all P=p at*
  generalize decide ((ws.length:Int)=1)=l at*
  generalize decide ((kids.length:Int)=0)=m at*
  generalize decide (a=0)=u at*
  generalize decide (b=0)=v at*
  generalize decide (f=[])=z at*
  generalize okW f=o at*
  cases q<;>cases p<;>cases l<;>cases m<;>cases u<;>cases v<;>cases z<;>cases o<;>first|rfl|simp_all
 by_cases A:k=3
 .subst A
  show hz (true,2,4,0,5,false,0,0) 3 f ws a b kids P=_
  clear e
  unfold hz hA eX
  rw[show hP 3=okW from rfl]
  dsimp only
  simp only[oM]
  unfold hJ
  generalize ws.all okW=q at*
  generalize kids.all P=p at*
  generalize decide ((2:Int)<=ws.length)=K at*
  generalize decide ((ws.length:Int)<=4)=L at*
  generalize decide ((kids.length:Int)=0)=m at*
  generalize decide ((0:Int)<=a)=g at*
  generalize decide (a<=5)=i at*
  generalize decide (b=0)=v at*
  generalize decide (f=[])=z at*
  generalize okW f=o at*
  cases q<;>cases p<;>cases K<;>cases L<;>cases m<;>cases g<;>cases i<;>cases v<;>cases z<;>cases o<;>first|rfl|simp_all
 by_cases C:k=4
 .subst C
  show hz (true,1,1,1,2,false,0,0) 4 f ws a b kids P=_
  clear e
  unfold hz hA eX
  rw[show hP 4=okW from rfl]
  dsimp only
  simp only[oM]
  unfold hJ
  generalize ws.all okW=q at*
  generalize kids.all P=p at*
  generalize decide ((ws.length:Int)=1)=l at*
  generalize decide ((kids.length:Int)=0)=m at*
  generalize decide ((1:Int)<=a)=g at*
  generalize decide (a<=2)=i at*
  generalize decide (b=0)=v at*
  generalize decide (f=[])=z at*
  generalize okW f=o at*
  cases q<;>cases p<;>cases l<;>cases m<;>cases g<;>cases i<;>cases v<;>cases z<;>cases o<;>first|rfl|simp_all
 by_cases F:k=5
 .subst F
  show hz (true,1,1,0,0,false,0,0) 5 f ws a b kids P=_
  clear e
  unfold hz hA eX
  rw[show hP 5=(fun w=>l2 w&& !okW w)from rfl]
  dsimp only
  simp only[oM]
  unfold hJ
  generalize ws.all (fun w=>l2 w&& !okW w)=q at*
  generalize kids.all P=p at*
  generalize decide ((ws.length:Int)=1)=l at*
  generalize decide ((kids.length:Int)=0)=m at*
  generalize decide (a=0)=u at*
  generalize decide (b=0)=v at*
  generalize decide (f=[])=z at*
  generalize okW f=o at*
  cases q<;>cases p<;>cases l<;>cases m<;>cases u<;>cases v<;>cases z<;>cases o<;>first|rfl|simp_all
 by_cases G:k=6
 .subst G
  show hz (true,0,0,0,999999999,true,0,0) 6 f ws a b kids P=_
  rw[show hP 6=okW from rfl]at e
  unfold hz hA eX
  rw[show hP 6=okW from rfl]
  dsimp only
  simp only[oM]
  unfold hJ
  generalize ws.all okW=q at*
  generalize kids.all P=p at*
  generalize decide ((ws.length:Int)=0)=l at*
  generalize decide ((kids.length:Int)=0)=m at*
  generalize decide ((0:Int)<=a)=g at*
  generalize decide (a<=999999999)=i at*
  generalize decide (a<=b)=v1 at*
  generalize decide (b<=999999999)=v2 at*
  generalize decide (f=[])=z at*
  generalize okW f=o at*
  cases q<;>cases p<;>cases l<;>cases m<;>cases g<;>cases i<;>cases v1<;>cases v2<;>cases z<;>cases o<;>first|rfl|simp_all
 by_cases H:k=7
 .subst H
  show hz (false,0,0,0,0,false,2,4) 7 f ws a b kids P=_
  rw[show hP 7=okW from rfl]at e
  clear r
  unfold hz hA eX
  rw[show hP 7=okW from rfl]
  dsimp only
  simp only[oM]
  unfold hJ
  generalize ws.all okW=q at*
  generalize kids.all P=p at*
  generalize decide ((ws.length:Int)=0)=l at*
  generalize decide ((2:Int)<=kids.length)=m1 at*
  generalize decide ((kids.length:Int)<=4)=m2 at*
  generalize decide (a=0)=u at*
  generalize decide (b=0)=v at*
  generalize decide (f=[])=z at*
  generalize okW f=o at*
  cases q<;>cases p<;>cases l<;>cases m1<;>cases m2<;>cases u<;>cases v<;>cases z<;>cases o<;>first|rfl|simp_all
 by_cases I:k=8
 .subst I
  show hz (false,0,0,0,0,false,2,4) 8 f ws a b kids P=_
  rw[show hP 8=okW from rfl]at e
  clear r
  unfold hz hA eX
  rw[show hP 8=okW from rfl]
  dsimp only
  simp only[oM]
  unfold hJ
  generalize ws.all okW=q at*
  generalize kids.all P=p at*
  generalize decide ((ws.length:Int)=0)=l at*
  generalize decide ((2:Int)<=kids.length)=m1 at*
  generalize decide ((kids.length:Int)<=4)=m2 at*
  generalize decide (a=0)=u at*
  generalize decide (b=0)=v at*
  generalize decide (f=[])=z at*
  generalize okW f=o at*
  cases q<;>cases p<;>cases l<;>cases m1<;>cases m2<;>cases u<;>cases v<;>cases z<;>cases o<;>first|rfl|simp_all
 by_cases J:k=9
 .subst J
  show hz (false,0,0,0,0,false,2,2) 9 f ws a b kids P=_
  rw[show hP 9=okW from rfl]at e
  clear r
  unfold hz hA eX
  rw[show hP 9=okW from rfl]
  dsimp only
  simp only[oM]
  unfold hJ
  generalize ws.all okW=q at*
  generalize kids.all P=p at*
  generalize decide ((ws.length:Int)=0)=l at*
  generalize decide ((kids.length:Int)=2)=m at*
  generalize decide (a=0)=u at*
  generalize decide (b=0)=v at*
  generalize decide (f=[])=z at*
  generalize okW f=o at*
  cases q<;>cases p<;>cases l<;>cases m<;>cases u<;>cases v<;>cases z<;>cases o<;>first|rfl|simp_all
 by_cases j:k=10
 .subst j
  show hz (false,0,0,2,9,false,1,1) 10 f ws a b kids P=_
  rw[show hP 10=okW from rfl]at e
  clear r
  unfold hz hA eX
  rw[show hP 10=okW from rfl]
  dsimp only
  simp only[oM]
  unfold hJ
  generalize ws.all okW=q at*
  generalize kids.all P=p at*
  generalize decide ((ws.length:Int)=0)=l at*
  generalize decide ((kids.length:Int)=1)=m at*
  generalize decide ((2:Int)<=a)=g at*
  generalize decide (a<=9)=i at*
  generalize decide (b=0)=v at*
  generalize decide (f=[])=z at*
  generalize okW f=o at*
  cases q<;>cases p<;>cases l<;>cases m<;>cases g<;>cases i<;>cases v<;>cases z<;>cases o<;>first|rfl|simp_all
 rw[aeX t y A C F G H I J j]
 unfold hA
 simp only[an t,an y,an A,an C,an F,an G,an H,an I,an J,an j,Bool.or_false,aj,pf]
 rfl
theorem Sv (N:Nat) (e:bC<N) (g:N<=1099511627776):∀(n D:Nat),n<D->n<=1000->∀q,ie n q->oO N D q.kind q.field q.words q.lo q.hi q.kids (n:Int)=some (cZ n q)
 |0,D+1,_,_,q,_=>by
  rw[oO]
  generalize ea (.int .i64) (.pair .bool (.pair (.int .i64) (.pair (.int .i64) (.pair (.int .i64) (.pair (.int .i64) (.pair .bool (.pair (.int .i64) (.int .i64)))))))) gg q.kind=o
  cases o<;>rfl
 |n+1,D+1,u,y,q,h=>by
  have i:=Sv N e g n D (by omega) (by omega)
  obtain⟨k,f,ws,a,b,kids⟩:=q
  obtain⟨j,l,p,r,t⟩:=h
  rw[show oO N (D+1) (aN.mk k f ws a b kids).kind (aN.mk k f ws a b kids).field (aN.mk k f ws a b kids).words (aN.mk k f ws a b kids).lo (aN.mk k f ws a b kids).hi (aN.mk k f ws a b kids).kids ((n+1:Nat):Int)=oO N (D+1) k f ws a b kids ((n+1:Nat):Int)from rfl,aeM N e g n D (by omega) i k f ws a b kids j l p r t,adh,cZ]
theorem IX {α:Type} (c:α) (p:List α):cut (c::p) 1 (((c::p).length:Nat):Int)=some p:=by
 unfold cut
 rw[ai ⟨by omega,by rw[ba];omega,ic _⟩,eg,cj]
 rfl
theorem CU (N:Nat):∀(D:Nat) (p s:List UInt8),p.length+s.length<D->∃b,pO N D p s=some b/\oL N D p s=some b
 |D+1,[],s,_=>⟨decide (s=[]),rfl,rfl⟩
 |D+1,c::p,s,h=>by
  have j:idx (c::p) 0=some c:=rfl
  rw[pO,oL]
  simp only[an (List.cons_ne_nil c p),aj,j,ag,IX]
  have k:p.length+s.length<D:=by rw[ba]at h;omega
  by_cases i:(c.toNat:Int)=42
  .simp only [aq i,ao]
   obtain⟨b,e,g⟩:=CU N D p s k
   rw[e,g]
   cases b with
   |true=>exact⟨true,rfl,rfl⟩
   |false=>
    match s,h with
    | [],_=>exact⟨false,rfl,rfl⟩
    |d::s,h=>
     obtain⟨a8,l,o⟩:=CU N D (c::p) s (by simp only[ba]at h⊢;omega)
     simp only[ag,aj,an (List.cons_ne_nil d s),dH,ao,IX,l,o]
     exact⟨a8,rfl,rfl⟩
  .simp only [an i,aj]
   match s,h with
   | [],_=>exact⟨false,rfl,rfl⟩
   |d::s,h=>
    obtain⟨b,e,g⟩:=CU N D p s (by simp only[ba]at h⊢;omega)
    have r:idx (d::s) 0=some d:=rfl
    simp only[an (List.cons_ne_nil d s),aj,dH,ao,ag,IX,r,e,g]
    cases decide ((c.toNat:Int)=63)with
    |true=>exact⟨b,rfl,rfl⟩
    |false=>
     cases decide ((c.toNat:Int)=(d.toNat:Int))with
     |true=>exact⟨b,rfl,rfl⟩
     |false=>exact⟨false,rfl,rfl⟩
theorem T5 (N:Nat) (s:cq) (field:List UInt8) (t:s.2.length<N) (p:s.2.length<=1000000):sA N s field=some ((iN field s.2).map fun e=>e.2.1):=by
 refine Def.get ?_
 unfold sA
 refine Def.upto s.2.length (fun n g=>g=(field,(iN field (s.2.take n)).map (fun e=>e.2.1),s.2,(s.2.length:Int),(n:Int))) (fun go g j=>?_) (fun go n g k j i=>?_) N 0 _ (bg _) rfl (by omega)
 .subst j
  dsimp only
  rw[an (bm _),aj,cj]
  exact Def.ret rfl
 .subst j
  dsimp only
  have r:(iN field (s.2.take n)).length<=n:=dS (ho _ _) (by rw[bN];omega)
  have l:=aO (n:=n) (by omega)
  rw[aq (by omega:(n:Int)<s.2.length),ao,aP k,ag]
  have o:iN field (s.2.take (n+1))=iN field (s.2.take n)++(if s.2[n].1=field then [s.2[n]]else []):=by
   unfold iN
   rw[dT k,jP]
   by_cases h:s.2[n].1=field
   .simp [h]
   .simp [h]
  by_cases h:s.2[n].1=field
  .rw [aq h,ao,ai (bW (by rw[dE];simp only[ba,bH];omega) (by rw[dE];simp only[ba,bH];omega)),ai l]
   refine i _ ?_
   rw[o,ai h,ib,aS]
   rfl
  .rw [an h,aj,ai l]
   refine i _ ?_
   rw[o,aC h,fe,aS]
def mV (s:cq) (field:List UInt8):List (List UInt8):=(iN field s.2).map fun e=>e.2.1
theorem UQ (N:Nat) {c:aK} {s:cq} (g:fl N c s) (field:List UInt8):(mV s field).length<=7680/\∀t,t∈mV s field->okW t=true:=by
 refine⟨?_,fun t h=>?_⟩
 .unfold mV
  rw[dE]
  exact dS (ho _ _) g.small.1
 .obtain ⟨e,he,rfl⟩:=cg.1 h
  have:=(gH.1 he).1
  rw[g.om]at this
  exact F7 c (iR g.ok).1 g.dM e this
theorem Gg (a b:List UInt8):0<=j6 a b:=((w7 a b a.length).at b.length).1
def pT (c:aK) (ad:List aF) (field w:List UInt8) (id:Int) (t:List UInt8):Int:=((jn c ad field t id:Int)*(3-j6 t w)).tdiv 3
def iv (c:aK) (ad:List aF) (field w:List UInt8) (g id:Int) (e:Int) (t:List UInt8):Int:=bif decide (j6 t w<=g)then(if e<pT c ad field w id t then pT c ad field w id t else e)else e
def vD (c:aK) (s:cq) (field w:List UInt8) (e id:Int):Int:=(mV s field).foldl (iv c s.1 field w e id) 0
theorem JF (c:aK) {ad:List aF} (i:e0 ad) (field w:List UInt8) (e id:Int) (j:e<=2) (t:List UInt8) (h:j6 t w<=e):0<=(jn c ad field t id:Int)*(3-j6 t w)/\(jn c ad field t id:Int)*(3-j6 t w)<=26400000/\0<=pT c ad field w id t/\pT c ad field w id t<=8800000:=by
 have k:=yN c i field t id
 have l:=Gg t w
 have g:0<=(jn c ad field t id:Int)*(3-j6 t w):=Int.mul_nonneg (by omega) (by omega)
 have o:(jn c ad field t id:Int)*(3-j6 t w)<=8800000*3:=Int.mul_le_mul (by omega) (by omega) (by omega) (by omega)
 refine⟨g,by omega,?_,?_⟩
 .unfold pT
  rw[E2 g]
  omega
 .unfold pT
  rw[E2 g]
  omega
theorem aeC (c:aK) {ad:List aF} (i:e0 ad) (field w:List UInt8) (e id:Int) (j:e<=2) (g:Int) (k:0<=g/\g<=8800000) (t:List UInt8):0<=iv c ad field w e id g t/\iv c ad field w e id g t<=8800000:=by
 unfold iv
 by_cases h:j6 t w<=e
 .have:=JF c i field w e id j t h
  rw[aq h,ao]
  split<;>omega
 .rw [an h,aj]
  exact k
theorem Dt (c:aK) {ad:List aF} (i:e0 ad) (field w:List UInt8) (g id:Int) (j:g<=2):∀(l:List (List UInt8)) (e:Int),0<=e/\e<=8800000->0<=l.foldl (iv c ad field w g id) e/\l.foldl (iv c ad field w g id) e<=8800000
 | [],_,h=>h
 |t::l,e,h=>Dt c i field w g id j l _ (aeC c i field w g id j e h t)
theorem I1 {β:Type} (field:List UInt8) (f:β->List UInt8->β):∀(es:List cQ) (b:β),(es.foldl (fun a e=>bif decide (e.1=field)then f a e.2.1 else a) b)=((iN field es).map fun e=>e.2.1).foldl f b
 | [],_=>rfl
 |e::l,b=>by
  have g:=I1 field f l
  unfold iN at g⊢
  rw[eZ,g]
  cases h:decide (e.1=field)
  .rw [tM (p:=fun e:cQ=>decide (e.1=field)) (by rw[h];decide),aj]
  .rw [tL (p:=fun e:cQ=>decide (e.1=field)) h,ao]
   rfl
theorem anE (N:Nat) {c:aK} {s:cq} (g:fl N c s) (q:Int) (h w:List UInt8) (j t:Int) (u:List aN) (id:Int) (hw:okW w=true) (y:j<=2):CB N s.1 s.2 q h [w] j t u id=some (vD c s h w j id):=by
 have H:=g.m
 have I:=g.top
 have z:=g.small.1
 have A:=((iw w).1 hw).2.2
 have key:vD c s h w j id=s.2.foldl (fun a e=>bif decide (e.1=h)then iv c s.1 h w j id a e.2.1 else a) 0:=(I1 h (iv c s.1 h w j id) s.2 0).symm
 have p:∀n,0<=(s.2.take n).foldl (fun a e=>bif decide (e.1=h)then iv c s.1 h w j id a e.2.1 else a) 0/\(s.2.take n).foldl (fun a e=>bif decide (e.1=h)then iv c s.1 h w j id a e.2.1 else a) 0<=8800000:=fun n=>by
  rw[I1]
  exact Dt c g.dM h w j id y _ 0 (by omega)
 unfold CB
 rw[key]
 refine(dh _ s.2.length (fun n=>(id,(s.2.take n).foldl (fun a e=>bif decide (e.1=h)then iv c s.1 h w j id a e.2.1 else a) 0,(n:Int),s.1,s.2,q,h,[w],j,t,u)) (fun n=>some (s.2.foldl (fun a e=>bif decide (e.1=h)then iv c s.1 h w j id a e.2.1 else a) 0)) (fun go=>?_) (fun go n r i=>?_) N 0 (bg _) (by omega)).trans rfl
 .dsimp only
  rw[an (bm _),aj,cj]
 .dsimp only
  have J:=p n
  have C:fits ((n:Int)+1):=aO (by omega)
  have hm:s.2[n]∈eu c s.1:=by rw[<-g.om];exact br r
  have F:=((iw _).1 (F7 c (iR g.ok).1 g.dM _ hm)).2.2
  have G:idx [w] (0:Int)=some w:=rfl
  simp only[aS,ou _ _ _ _ r]at i
  generalize(s.2.take n).foldl (fun a e=>bif decide (e.1=h)then iv c s.1 h w j id a e.2.1 else a) 0=o at*
  rw[aq (by omega:(n:Int)<s.2.length),ao,aP r,ag,G,ag,anN N s.2[n].2.1 w (by omega) (by omega) (by omega),ag]
  simp only[ai C]
  by_cases he:s.2[n].1=h
  .rw [aq he,ao]at i
   rw[aq he,bf,aj]
   unfold iv at i
   by_cases k:j6 s.2[n].2.1 w<=j
   .have K:=JF c g.dM h w j id y _ k
    have L:=Gg s.2[n].2.1 w
    rw[aq k,ao]at i
    rw[an (by omega),aj,Jf N g h s.2[n].2.1 id,ag,ai (by unfold fits;omega),ai (ee (by omega) (by omega)),ai (by decide)]
    have e:((jn c s.1 h s.2[n].2.1 id:Int)*(3-j6 s.2[n].2.1 w)).tdiv 3=pT c s.1 h w id s.2[n].2.1:=rfl
    rw[e,ai (ee (by omega) (by omega))]
    by_cases l:o<pT c s.1 h w id s.2[n].2.1
    .rw [ai l]at i
     rw[aq l,ao]
     exact i
    .rw [aC l]at i
     rw[an l,aj]
     exact i
   .rw [an k,aj]at i
    rw[aq (by omega),ao]
    exact i
  .rw [an he,aj]at i
   rw[an he,dH,ao]
   exact i
def si (N:Nat) (p t:List UInt8):Bool:=(oL N N p t).getD false
theorem Rv (N:Nat) (p t:List UInt8) (h:p.length+t.length<N):oL N N p t=some (si N p t)/\pO N N p t=some (si N p t):=by
 obtain⟨b,e,g⟩:=CU N N p t h
 unfold si
 rw[g]
 exact⟨rfl,e⟩
theorem YB (N:Nat) (e:N<=1099511627776) (p t:List UInt8) (h:p.length+t.length<N) (g:l2 p=true) (i:okW t=true):Cz N p t=some (si N p t):=by
 unfold Cz
 rw[Ru N p (by omega) e,ag,g,ao,l7 N t (by omega) e,ag,i,ao,(Rv N p t h).2,ag]
def sn (N:Nat) (c:aK) (ad:List aF) (field p:List UInt8) (id:Int) (t:List UInt8):Bool:=si N p t&&decide ((0:Int)<(eN c ad (field,t) id).length)
def sl (N:Nat) (c:aK) (s:cq) (field p:List UInt8) (id:Int):Bool:=(mV s field).any (sn N c s.1 field p id)
theorem Pg (field:List UInt8) (f:List UInt8->Bool):∀es:List cQ,es.any (fun e=>decide (e.1=field)&&f e.2.1)=((iN field es).map fun e=>e.2.1).any f
 | []=>rfl
 |e::l=>by
  have g:=Pg field f l
  unfold iN at g⊢
  rw[qh,g]
  cases h:decide (e.1=field)
  .rw [tM (p:=fun e:cQ=>decide (e.1=field)) (by rw[h];decide),pf,fL]
  .rw [tL (p:=fun e:cQ=>decide (e.1=field)) h,cl]
   rfl
theorem Fp {α i ρ:Type} (F:(i->Option ρ)->i->Option ρ) (xs:List α) (st:Nat->i) (p:α->Bool) (yes no:Option ρ) (g:∀go,F go (st xs.length)=no)
  (e:∀go n (j:n<xs.length),F go (st n)=bif p xs[n]then yes else go (st (n+1))) (N:Nat) (h:xs.length<N):iter F N (st 0)=bif xs.any p then yes else no:=by
 refine(dh F xs.length st (fun n=>bif(xs.drop n).any p then yes else no) (fun go=>by rw[g,me];rfl) (fun go n j k=>?_) N 0 (bg _) (by omega)).trans (by rw[rP])
 rw[e go n j,k,eY j,qh]
 cases p xs[n]<;>rfl
theorem anD (N:Nat) {c:aK} {s:cq} (g:fl N c s) (q:Int) (h w:List UInt8) (i j:Int) (k:List aN) (id:Int) (hw:w.length<=12):CK N s.1 s.2 q h [w] i j k id=some (sl N c s h w id):=by
 have u:=g.m
 have y:=g.top
 have o:=g.small.1
 unfold CK sl mV
 rw[<-Pg]
 refine(Fp _ s.2 (fun n=>(id,(n:Int),s.1,s.2,q,h,[w],i,j,k)) (fun e=>decide (e.1=h)&&sn N c s.1 h w id e.2.1) (some true) (some false) (fun go=>?_) (fun go n l=>?_) N (by omega)).trans (by cases s.2.any (fun e=>decide (e.1=h)&&sn N c s.1 h w id e.2.1)<;>rfl)
 .dsimp only
  rw[an (bm _),aj]
 .dsimp only
  have p:fits ((n:Int)+1):=aO (by omega)
  have hm:s.2[n]∈eu c s.1:=by rw[<-g.om];exact br l
  have r:=((iw _).1 (F7 c (iR g.ok).1 g.dM _ hm)).2.2
  have t:idx [w] (0:Int)=some w:=rfl
  unfold sn
  rw[aq (by omega:(n:Int)<s.2.length),ao,aP l,ag,t,ag,(Rv N w s.2[n].2.1 (by omega)).1,ag,Jd N g h s.2[n].2.1 id,ag,aS]
  simp only[ai p]
  cases decide (s.2[n].1=h)<;>cases si N w s.2[n].2.1<;>cases decide ((0:Int)<(eN c s.1 (h,s.2[n].2.1) id).length)<;>rfl
theorem Je (N:Nat) {c:aK} {s:cq} (g:fl N c s) (id:Int):vs N s.1 s.2 id=some ((e1 s.1 id).getD (0,[],[])):=by
 have i:=g.m
 have j:=g.top
 have e:=g.dM.c7
 unfold vs e1
 refine tu _ s.1 (fun n=>(id,(n:Int),s.1,s.2,(0:Int))) (fun d=>decide (d.1=id)) (fun d=>d) (0,[],[]) _ _ rfl (by cases s.1.find? fun d=>decide (d.1=id)<;>rfl) (fun go=>?_) (fun go n h=>?_) N (by omega)
 .dsimp only
  rw[an (bm _),aj]
 .dsimp only
  rw[aq (by omega:(n:Int)<s.1.length),ao,aP h,ag,ag,ai (aO (n:=n) (by omega)),aS]
def h9 (N D:Nat) (c:aK) (s:cq) (d:aF) (q:aN):Int:=(kk N D c.1 c.2 s.1 s.2 q.kind q.field q.words q.lo q.hi q.kids d.1).getD 0
def pw :Nat->Int
 |0=>4224000000
 |k+1=>9*pw k
theorem Fx :∀k:Nat,k<=4->4224000000<=pw k/\pw k<=30000000000000
 |0,_=>by decide
 |1,_=>by decide
 |2,_=>by decide
 |3,_=>by decide
 |4,_=>by decide
 |k+5,h=>by omega
structure kP (N D:Nat) (c:aK) (s:cq) (d:aF) (B:Int) (kind:Int) (f:List UInt8) (ws:List (List UInt8)) (a b:Int) (kids:List aN) (v:Int):Prop where
 ref:kk N D c.1 c.2 s.1 s.2 kind f ws a b kids d.1=some v
 uC:kE N D (c,s) kind f ws a b kids d.1 d.2.1 d.2.2=some v
 low:0<=v
 top:v<=B
theorem WH (N D:Nat) {c:aK} {s:cq} (d:aF) (f:List UInt8) (ws:List (List UInt8)) (a b:Int) (kids:List aN):kP N (D+1) c s d 4224000000 1 f ws a b kids 100:=⟨rfl,rfl,by decide,by decide⟩
theorem WO (N D:Nat) {c:aK} {s:cq} (g:fl N c s) (d:aF) (f w:List UInt8) (a b:Int) (kids:List aN) (hw:okW w=true):kP N (D+1) c s d 4224000000 2 f [w] a b kids (jn c s.1 f (EH c w) d.1):=by
 have e:=g.m
 have i:=g.top
 have j:=yN c g.dM f (EH c w) d.1
 have h:idx [w] (0:Int)=some w:=rfl
 refine⟨?_,?_,by omega,by omega⟩
 .rw [kk,an (by decide),aj,aq rfl,ao,h,ag,aqD N c w e (by omega) g.c8 (iR g.ok).1 hw,ag,Jf N g,ag]
 .rw [kE,an (by decide),aj,aq rfl,ao,h,ag]
  dsimp only
  rw[aaW N c w e (by omega) g.c8 (iR g.ok).1 hw,ag,Kd N g,ag]
theorem WM (N D:Nat) {c:aK} {s:cq} (g:fl N c s) (d:aF) (f:List UInt8) (ws:List (List UInt8)) (a b:Int) (kids:List aN) (hw:∀w,w∈ws->okW w=true) (e:ws.length<=4):kP N (D+1) c s d 4224000000 3 f ws a b kids (vP c s.1 f ws a d.1):=by
 have h:=aph c g.dM f ws hw e a d.1
 refine⟨?_,?_,by omega,by omega⟩
 .rw [kk,an (by decide),aj,an (by decide),aj,aq rfl,ao,anF N g 3 f ws a b kids d.1 hw e,ag]
 .rw [kE,an (by decide),aj,an (by decide),aj,aq rfl,ao,aaV N g 3 f ws a b kids d.1 d.2.1 d.2.2 hw e,ag]
theorem WL (N D:Nat) {c:aK} {s:cq} (g:fl N c s) (d:aF) (f w:List UInt8) (a b:Int) (kids:List aN) (hw:okW w=true) (k:a<=2):kP N (D+1) c s d 4224000000 4 f [w] a b kids (vD c s f w a d.1):=by
 have H:=g.m
 have I:=g.top
 have z:0<=vD c s f w a d.1/\vD c s f w a d.1<=8800000:=Dt c g.dM f w a d.1 k _ 0 (by omega)
 obtain⟨J,l⟩:=UQ N g f
 have A:=((iw w).1 hw).2.2
 have C:idx [w] (0:Int)=some w:=rfl
 have o:sA N s f=some (mV s f):=T5 N s f (by have:=g.small.1;omega) (by have:=g.small.1;omega)
 refine⟨?_,?_,z.1,by omega⟩
 .rw [kk,an (by decide),aj,an (by decide),aj,an (by decide),aj,aq rfl,ao,anE N g 4 f w a b kids d.1 hw k,ag]
 .rw [kE,an (by decide),aj,an (by decide),aj,an (by decide),aj,aq rfl,ao]
  dsimp only
  rw[o,ag]
  have p:∀n,0<=((mV s f).take n).foldl (iv c s.1 f w a d.1) 0/\((mV s f).take n).foldl (iv c s.1 f w a d.1) 0<=8800000:=fun n=>Dt c g.dM f w a d.1 k _ 0 (by omega)
  unfold vD
  generalize mV s f=i at*
  refine(dh _ i.length (fun n=>((c,s),(i.take n).foldl (iv c s.1 f w a d.1) 0,i,(i.length:Int),(n:Int),4,f,[w],a,b,kids,d.1,d.2.1,d.2.2)) (fun n=>some (i.foldl (iv c s.1 f w a d.1) 0)) (fun go=>?_) (fun go n r j=>?_) N 0 (bg _) (by omega)).trans rfl
  .dsimp only
   rw[an (bm _),aj,cj]
  .dsimp only
   have K:=p n
   have F:fits ((n:Int)+1):=aO (by omega)
   have u:=l _ (br r)
   have G:=((iw _).1 u).2.2
   have t:=Gg i[n] w
   simp only[aS,ou _ _ _ _ r]at j
   generalize(i.take n).foldl (iv c s.1 f w a d.1) 0=y at*
   rw[aq (by omega:(n:Int)<i.length),ao,aP r,ag,C,ag,aoD N i[n] w (by omega) (by omega) (by omega) (by omega),u,hw,fD,ao,ag,fB,ag,aq t,cl]
   simp only[ai F]
   unfold iv at j
   by_cases h:j6 i[n] w<=a
   .have L:=JF c g.dM f w a d.1 k _ h
    rw[aq h,ao]at j
    rw[aq h,ao,Kd N g f i[n] d.1,ag,ai (by unfold fits;omega),ai (ee (by omega) (by omega)),ai (by decide)]
    have e:((jn c s.1 f i[n] d.1:Int)*(3-j6 i[n] w)).tdiv 3=pT c s.1 f w d.1 i[n]:=rfl
    rw[e,ai (ee (by omega) (by omega))]
    exact j
   .rw [an h,aj]at j
    rw[an h,aj]
    exact j
theorem WI (N D:Nat) {c:aK} {s:cq} (g:fl N c s) (d:aF) (f w:List UInt8) (a b:Int) (kids:List aN) (hw:l2 w=true) (h:w.length<=12):kP N (D+1) c s d 4224000000 5 f [w] a b kids (bif sl N c s f w d.1 then 100 else 0):=by
 have t:=g.m
 have u:=g.top
 obtain⟨y,i⟩:=UQ N g f
 have o:idx [w] (0:Int)=some w:=rfl
 have j:sA N s f=some (mV s f):=T5 N s f (by have:=g.small.1;omega) (by have:=g.small.1;omega)
 refine⟨?_,?_,by cases sl N c s f w d.1<;>decide,by cases sl N c s f w d.1<;>decide⟩
 .rw [kk,an (by decide),aj,an (by decide),aj,an (by decide),aj,an (by decide),aj,aq rfl,ao,anD N g 5 f w a b kids d.1 h,ag]
  cases sl N c s f w d.1<;>rfl
 .rw [kE,an (by decide),aj,an (by decide),aj,an (by decide),aj,an (by decide),aj,aq rfl,ao]
  dsimp only
  rw[j,ag]
  unfold sl
  generalize mV s f=e at*
  refine(Fp _ e (fun n=>((c,s),e,(e.length:Int),(n:Int),5,f,[w],a,b,kids,d.1,d.2.1,d.2.2)) (sn N c s.1 f w d.1) (some 100) (some 0) (fun go=>?_) (fun go n k=>?_) N (by omega)).trans (by cases e.any (sn N c s.1 f w d.1)<;>rfl)
  .dsimp only
   rw[an (bm _),aj]
  .dsimp only
   have p:fits ((n:Int)+1):=aO (by omega)
   have l:=i _ (br k)
   have r:=((iw _).1 l).2.2
   unfold sn
   rw[aq (by omega:(n:Int)<e.length),ao,aP k,ag,o,ag,YB N (by omega) w e[n] (by omega) hw l,ag,Kb N g c f e[n] d.1,ag,aS]
   simp only[ai p]
   cases si N w e[n]<;>cases decide ((0:Int)<(eN c s.1 (f,e[n]) d.1).length)<;>rfl
def Tv (d:aF) (f:List UInt8) (a b:Int):Int:=bif decide (a<=jG d.2.2 f)&&decide (jG d.2.2 f<=b)then 100 else 0
theorem WN (N D:Nat) {c:aK} {s:cq} (g:fl N c s) (d:aF) (e:e1 s.1 d.1=some d) (f:List UInt8) (ws:List (List UInt8)) (a b:Int) (kids:List aN):kP N (D+1) c s d 4224000000 6 f ws a b kids (Tv d f a b):=by
 have h:=g.m
 have j:=g.top
 have hm:=ql e
 have i:=nE (rq g.ok) d hm
 have k:=(JR i).2.1
 unfold Tv
 refine⟨?_,?_,by cases decide (a<=jG d.2.2 f)&&decide (jG d.2.2 f<=b)<;>decide,by cases decide (a<=jG d.2.2 f)&&decide (jG d.2.2 f<=b)<;>decide⟩
 .rw [kk,an (by decide),aj,an (by decide),aj,an (by decide),aj,an (by decide),aj,an (by decide),aj,aq rfl,ao,Je N g d.1,e,mW,ag,anO N h (by omega) d.1 d.2.1 d.2.2 f (by omega),ag,jD,ag]
  cases decide (a<=jG d.2.2 f)&&decide (jG d.2.2 f<=b)<;>rfl
 .rw [kE,an (by decide),aj,an (by decide),aj,an (by decide),aj,an (by decide),aj,an (by decide),aj,aq rfl,ao,XE N h (by omega) d.1 d.2.1 d.2.2 f (g.gE d hm) i (by omega),ag,fB,ag]
  cases decide (a<=jG d.2.2 f)&&decide (jG d.2.2 f<=b)<;>rfl
abbrev rS (N D:Nat) (c:aK) (s:cq) (d:aF) (B:Int) (q:aN) (v:Int):Prop:=kP N D c s d B q.kind q.field q.words q.lo q.hi q.kids v
theorem kP.mono {N D:Nat} {c:aK} {s:cq} {d:aF} {B e:Int} {kind:Int} {f:List UInt8} {ws:List (List UInt8)} {a b:Int} {kids:List aN} {v:Int} (h:kP N D c s d B kind f ws a b kids v) (g:B<=e):kP N D c s d e kind f ws a b kids v:=⟨h.ref,h.uC,h.low,Int.le_trans h.top g⟩
theorem WQ (N D:Nat) {c:aK} {s:cq} (d:aF) (f:List UInt8) (ws:List (List UInt8)) (a b:Int) (x:aN) (B v:Int) (o:B<=30000000000000) (h:rS N D c s d B x v) (p:2<=a/\a<=9):kP N (D+1) c s d (9*B) 10 f ws a b [x] (a*v):=by
 have e:=h.low
 have j:=h.top
 have k:0<=a*v:=Int.mul_nonneg (by omega) e
 have l:a*v<=9*B:=Int.mul_le_mul (by omega) j e (by omega)
 have g:fits (a*v):=ee (by omega) (by omega)
 have i:idx [x] (0:Int)=some x:=rfl
 refine⟨?_,?_,k,l⟩
 .rw [kk,an (by decide),aj,an (by decide),aj,an (by decide),aj,an (by decide),aj,an (by decide),aj,an (by decide),aj,aq rfl,ao,i,ag,h.ref,ag,ai g]
 .rw [kE,an (by decide),aj,an (by decide),aj,an (by decide),aj,an (by decide),aj,an (by decide),aj,an (by decide),aj,aq rfl,ao,i,ag,h.uC,ag,ai g]
theorem WJ (N D:Nat) {c:aK} {s:cq} (d:aF) (f:List UInt8) (ws:List (List UInt8)) (a b:Int) (x y:aN) (B v w:Int) (h:rS N D c s d B x v) (hy:rS N D c s d B y w):kP N (D+1) c s d B 9 f ws a b [x,y] (bif decide (0<w)then 0 else v):=by
 have e:idx [x,y] (0:Int)=some x:=rfl
 have g:idx [x,y] (1:Int)=some y:=rfl
 have i:=h.low
 have j:=h.top
 refine⟨?_,?_,?_,?_⟩
 .rw [kk,an (by decide),aj,an (by decide),aj,an (by decide),aj,an (by decide),aj,an (by decide),aj,an (by decide),aj,an (by decide),aj,aq rfl,ao,g,ag,hy.ref,ag,e,ag,h.ref,ag]
  cases decide (0<w)<;>rfl
 .rw [kE,an (by decide),aj,an (by decide),aj,an (by decide),aj,an (by decide),aj,an (by decide),aj,an (by decide),aj,an (by decide),aj,aq rfl,ao,g,ag,hy.uC,ag,e,ag,h.uC,ag]
  cases decide (0<w)<;>rfl
 .cases decide (0<w)
  .exact i
  .exact ic _
 .cases decide (0<w)
  .exact j
  .exact Int.le_trans i j
def km (V:aN->Int) (l:List aN):Int:=l.foldl (fun a x=>a+V x) 0
theorem Us (V:aN->Int) (B:Int) (l:List aN) (h:∀x,x∈l->0<=V x/\V x<=B):∀n,n<=l.length->0<=km V (l.take n)/\km V (l.take n)<=n*B
 |0,_=>⟨ic _,by show(0:Int)<=((0:Nat):Int)*B;rw[show((0:Nat):Int)=0 from rfl,Int.zero_mul];exact ic _⟩
 |n+1,e=>by
  have g:=Us V B l h n (by omega)
  have i:=h _ (br (show n<l.length from e))
  unfold km at g⊢
  rw[ou _ _ _ _ (show n<l.length from e),aS,Int.add_mul,Int.one_mul]
  exact⟨by omega,by omega⟩
def vA (V:aN->Int) (kind:Int) (kids:List aN):Int:=bif kids.any (fun x=>decide (V x=0)&&decide (kind=7))then 0 else km V kids
theorem WK (N D:Nat) (J:1048576<N) {c:aK} {s:cq} (d:aF) (kind:Int) (K:kind=7\/kind=8) (f:List UInt8) (ws:List (List UInt8)) (a b:Int) (kids:List aN) (z:kids.length<=4) (V:aN->Int) (B:Int) (A:0<=B) (C:B<=30000000000000) (h:∀x,x∈kids->rS N D c s d B x (V x)):kP N (D+1) c s d (9*B) kind f ws a b kids (vA V kind kids):=by
 have G:∀x,x∈kids->0<=V x/\V x<=B:=fun x g=>⟨(h x g).low,(h x g).top⟩
 have k:=Us V B kids G
 have j:=k kids.length (bE _)
 rw[cj]at j
 have hmul:∀n:Nat,n<=4->(n:Int)*B<=4*B:=fun n i=>Int.mul_le_mul_of_nonneg_right (by omega) A
 have L:=hmul kids.length z
 have y:0<=vA V kind kids/\vA V kind kids<=9*B:=by
  unfold vA
  cases kids.any (fun x=>decide (V x=0)&&decide (kind=7))
  .exact ⟨j.1,by rw[aj];omega⟩
  .exact ⟨ic _,by rw[ao];omega⟩
 have key:∀ {l:Type} (F:(l->Option Int)->l->Option Int) (st:Nat->l),(∀go,F go (st kids.length)=some (km V kids))->(∀go n (i:n<kids.length),F go (st n)=bif decide (V kids[n]=0)&&decide (kind=7)then some 0 else go (st (n+1)))->iter F N (st 0)=some (vA V kind kids):=fun F st H I=>by
  refine(Fp F kids st (fun x=>decide (V x=0)&&decide (kind=7)) (some 0) (some (km V kids)) H I N (by omega)).trans ?_
  unfold vA
  cases kids.any (fun x=>decide (V x=0)&&decide (kind=7))<;>rfl
 refine⟨?_,?_,y.1,y.2⟩
 .rw [kk,an (by omega),aj,an (by omega),aj,an (by omega),aj,an (by omega),aj,an (by omega),aj,an (by omega),aj,an (by omega),aj,an (by omega),aj]
  refine key _ (fun n=>(d.1,km V (kids.take n),(n:Int),c.1,c.2,s.1,s.2,kind,f,ws,a,b,kids)) (fun go=>?_) (fun go n i=>?_)
  .dsimp only
   rw[an (bm _),aj,cj]
  .dsimp only
   have g:=h _ (br i)
   have o:=g.low
   have p:=g.top
   have r:=k n (by omega)
   have u:=hmul n (by omega)
   have e:km V (kids.take (n+1))=km V (kids.take n)+V kids[n]:=by unfold km;rw[ou _ _ _ _ i]
   rw[aq (by omega:(n:Int)<kids.length),ao,aP i,ag,g.ref,ag,e,aS]
   generalize km V (kids.take n)=t at*
   generalize V kids[n]=v at*
   simp only[ai (show fits (t+v)from ee (by omega) (by omega)),ai (aO (n:=n) (by omega))]
   cases decide (v=0)<;>cases decide (kind=7)<;>rfl
 .rw [kE,an (by omega),aj,an (by omega),aj,an (by omega),aj,an (by omega),aj,an (by omega),aj,an (by omega),aj,an (by omega),aj,an (by omega),aj]
  refine key _ (fun n=>((c,s),km V (kids.take n),kids,(kids.length:Int),(n:Int),kind,f,ws,a,b,kids,d.1,d.2.1,d.2.2)) (fun go=>?_) (fun go n i=>?_)
  .dsimp only
   rw[an (bm _),aj,cj]
  .dsimp only
   have g:=h _ (br i)
   have o:=g.low
   have p:=g.top
   have r:=k n (by omega)
   have u:=hmul n (by omega)
   have e:km V (kids.take (n+1))=km V (kids.take n)+V kids[n]:=by unfold km;rw[ou _ _ _ _ i]
   rw[aq (by omega:(n:Int)<kids.length),ao,aP i,ag,g.uC,ag,e,aS]
   generalize km V (kids.take n)=t at*
   generalize V kids[n]=v at*
   simp only[ai (show fits (t+v)from ee (by omega) (by omega)),ai (aO (n:=n) (by omega))]
   cases decide (v=0)<;>cases decide (kind=7)<;>rfl
theorem ar3 {α:Type} {xs:List α} (h:(xs.length:Int)=2):∃x y,xs=[x,y]:=by
 match xs,h with
 | [x,y],_=>exact⟨x,y,rfl⟩
theorem DB {α:Type} {xs:List α} (h:(xs.length:Int)=1):∃x,xs=[x]:=by
 match xs,h with
 | [x],_=>exact⟨x,rfl⟩
theorem TY (N:Nat) {c:aK} {s:cq} (g:fl N c s) (d:aF) (J:e1 s.1 d.1=some d):∀k:Nat,k<=4->∀q:aN,cZ k q=true->∀D,k<D->∃v,rS N D c s d (pw k) q v
 |0,_,q,o,_,_=>by rw[cZ]at o;cases o
 |k+1,K,.mk kind f ws a b kids,o,0,O=>by omega
 |k+1,K,.mk kind f ws a b kids,o,D+1,O=>by
  rw[cZ,a6,cz]at o
  obtain⟨e,i⟩:=o
  have L:=Fx k (by omega)
  have j:=Fx (k+1) K
  have u:=TY N g d J k (by omega)
  have P:pw (k+1)=9*pw k:=rfl
  show ∃v,kP N (D+1) c s d (pw (k+1)) kind f ws a b kids v
  by_cases z:kind=1
  .subst z
   exact⟨_,(WH N D d f ws a b kids).mono j.1⟩
  by_cases A:kind=2
  .subst A
   have h:((decide (a=0)&&decide (b=0)&&eX kids)&&(okW f&&(ws.all okW&&decide ((ws.length:Int)=1))))=true:=e
   simp only[a6,bo]at h
   obtain⟨w,rfl⟩:=DB h.2.2.2
   have hw:okW w=true:=cz.1 h.2.2.1 w cb
   exact⟨_,(WO N D g d f w a b kids hw).mono j.1⟩
  by_cases C:kind=3
  .subst C
   have h:(eX kids&&(okW f&&(ws.all okW&&(decide ((2:Int)<=ws.length)&&decide ((ws.length:Int)<=4))&&(decide (b=0)&&(decide (0<=a)&&decide (a<=5))))))=true:=e
   simp only[a6,bo]at h
   exact⟨_,(WM N D g d f ws a b kids (cz.1 h.2.2.1.1) (by omega)).mono j.1⟩
  by_cases F:kind=4
  .subst F
   have h:(eX kids&&(okW f&&(ws.all okW&&decide ((ws.length:Int)=1)&&(decide (b=0)&&(decide (1<=a)&&decide (a<=2))))))=true:=e
   simp only[a6,bo]at h
   obtain⟨w,rfl⟩:=DB h.2.2.1.2
   have hw:okW w=true:=cz.1 h.2.2.1.1 w cb
   exact⟨_,(WL N D g d f w a b kids hw h.2.2.2.2.2).mono j.1⟩
  by_cases G:kind=5
  .subst G
   have h:((decide (a=0)&&decide (b=0)&&eX kids)&&(okW f&&(ws.all (fun w=>l2 w&& !okW w)&&decide ((ws.length:Int)=1))))=true:=e
   simp only[a6,bo]at h
   obtain⟨w,rfl⟩:=DB h.2.2.2
   have hw:=cz.1 h.2.2.1 w cb
   rw[a6]at hw
   have H:w.length<=12:=by
    have:=hw.1
    unfold l2 at this
    simp only[a6,bo]at this
    omega
   exact⟨_,(WI N D g d f w a b kids hw.1 H).mono j.1⟩
  by_cases I:kind=6
  .subst I
   exact⟨_,(WN N D g d J f ws a b kids).mono j.1⟩
  by_cases l:kind=7\/kind=8
  .have H:kids.length<=4:=by
    unfold hA at e
    rw[an z,aj,an A,aj,an C,aj,an F,aj,an G,aj,an I,aj,show(decide (kind=7)||decide (kind=8))=true from by rcases l with h|h<;>subst h<;>rfl,ao]at e
    simp only[a6,bo]at e
    omega
   have hex:∀x,x∈kids->rS N D c s d (pw k) x (h9 N D c s d x):=fun x Q=>by
    obtain⟨v,p⟩:=u x (i x Q) D (by omega)
    have:h9 N D c s d x=v:=by unfold h9;rw[p.ref];rfl
    rw[this]
    exact p
   exact⟨_,WK N D g.m d kind l f ws a b kids H (h9 N D c s d) (pw k) (by omega) L.2 hex⟩
  have r:(decide (kind=7)||decide (kind=8))=false:=by
   rw[an (fun h=>l (.inl h)),an (fun h=>l (.inr h))]
   rfl
  unfold hA at e
  rw[an z,aj,an A,aj,an C,aj,an F,aj,an G,aj,an I,aj,r,aj]at e
  by_cases M:kind=9
  .subst M
   rw[aq rfl,ao]at e
   simp only[a6,bo]at e
   obtain⟨x,y,rfl⟩:=ar3 e.2.2.2
   obtain⟨v,p⟩:=u x (i x cb) D (by omega)
   obtain⟨w,hw⟩:=u y (i y (ch _ cb)) D (by omega)
   exact⟨_,(WJ N D d f ws a b x y _ v w p hw).mono (by omega)⟩
  rw[an M,aj]at e
  by_cases t:kind=10
  .subst t
   rw[aq rfl,ao]at e
   simp only[a6,bo]at e
   obtain⟨x,rfl⟩:=DB e.2.2.1
   obtain⟨v,p⟩:=u x (i x cb) D (by omega)
   exact⟨_,WQ N D d f ws a b x _ v L.2 p e.2.2.2.2⟩
  rw[an t,aj]at e
  cases e
theorem KB (N:Nat) {c:aK} {s:cq} (g:fl N c s) (d:aF) (h:e1 s.1 d.1=some d) (q:aN) (i:cZ 4 q=true):rS N N c s d 30000000000000 q (h9 N N c s d q):=by
 have j:=g.m
 obtain⟨v,e⟩:=TY N g d h 4 (bE _) q i N (by omega)
 have:h9 N N c s d q=v:=by unfold h9;rw[e.ref];rfl
 rw[this]
 exact e.mono (Fx 4 (bE _)).2
theorem FH (N:Nat) (x y:Int):rb N x y=some (if x<y then-1 else if y<x then 1 else 0):=by
 simp only[rb,pP,ag,decide_true,bf,aj]
 by_cases h:x<y
 .simp [h]
 .by_cases e:y<x<;>simp[h,e]
theorem Af {α:Type} (xs:List α) (n:Nat) (h:n<=xs.length):cut xs 0 (n:Int)=some (xs.take n):=by
 unfold cut
 rw[ai ⟨by omega,by omega,by omega⟩]
 simp
theorem Xo {α:Type} (xs:List α) (n:Nat) (h:n<=xs.length):cut xs (n:Int) (xs.length:Int)=some (xs.drop n):=by
 unfold cut
 rw[ai ⟨by omega,by omega,by omega⟩]
 simp
def eP (a b:bY):Bool:=decide (b.2<a.2)||(decide (a.2=b.2)&&decide (a.1<b.1))
theorem yB (a b:bY):eP a b=true↔b.2<a.2\/(a.2=b.2/\a.1<b.1):=by
 unfold eP
 simp only[lu,a6,bo]
theorem s7 (a:bY):eP a a=false:=by
 cases h:eP a a
 .rfl
 .rw [yB]at h;omega
theorem Dm {a b c:bY} (h:eP a b=true) (k:eP b c=true):eP a c=true:=by
 rw[yB]at*;omega
theorem Sg {a b:bY} (h:eP a b=true):eP b a=false:=by
 cases e:eP b a
 .rfl
 .rw [yB]at*;omega
theorem Sh {a b:bY} (h:a.1≠b.1):eP a b=true\/eP b a=true:=by
 rw[yB,yB];omega
theorem aoe :rV eP:=⟨fun x y h=>Sg h,fun x y z h k=>Dm h k⟩
def fv (l:List bY) (h:bY):List bY:=match l with
 | []=>[h]
 |x::r=>if eP x h=true then x::fv r h else h::x::r
theorem Bs (h x:bY):∀l,x∈fv l h↔x=h\/x∈l
 | []=>by simp[fv]
 |y::r=>by
  unfold fv
  have e:=Bs h x r
  split
  .rw [bn,e,bn];constructor<;>rintro(h|h|h)<;>simp_all
  .simp
theorem N9 (h:bY):∀l,(fv l h).length=l.length+1
 | []=>rfl
 |y::r=>by
  unfold fv
  split
  .rw [ba,N9 h r];rfl
  .rfl
theorem HB (h:bY):∀(a b:List bY),(∀x,x∈a->eP x h=true)->fv (a++b) h=a++fv b h
 | [],_,_=>rfl
 |x::a,b,e=>by
  rw[kp,fv,ai (e x (by simp)),HB h a b fun y hy=>e y (by simp[hy])]
  rfl
theorem Ob (h:bY):∀l,(l.Pairwise fun a b=>eP a b=true)->(∀x,x∈l->x.1≠h.1)->(fv l h).Pairwise fun a b=>eP a b=true
 | [],_,_=>by simp[fv]
 |y::r,g,k=>by
  rw[en]at g
  unfold fv
  split
  .rename_i hy
   rw[en]
   refine⟨fun z e=>?_,Ob h r g.2 fun x o=>k x (by simp[o])⟩
   rcases(Bs h z r).1 e with rfl|e
   .exact hy
   .exact g.1 z e
  .rename_i hy
   have i:eP h y=true:=by
    rcases Sh (k y (by simp))with j|j
    .exact absurd j hy
    .exact j
   rw[en,en]
   refine⟨fun z e=>?_,g⟩
   rcases bn.1 e with rfl|e
   .exact i
   .exact Dm i (g.1 z e)
def eB (l:List bY):List bY:=l.foldl fv []
abbrev ju (l:List bY):Prop:=l.Pairwise fun a b=>a.1≠b.1
theorem Ui :∀(l acc:List bY),ju l->(∀x,x∈acc->∀y,y∈l->x.1≠y.1)->(acc.Pairwise fun a b=>eP a b=true)->((l.foldl fv acc).Pairwise fun a b=>eP a b=true)/\(∀x,x∈l.foldl fv acc↔x∈acc\/x∈l)
 | [],acc,_,_,h=>⟨h,fun x=>by simp⟩
 |h::l,acc,g,i,j=>by
  rw[ju,en]at g
  rw[eZ]
  obtain⟨k,o⟩:=Ui l (fv acc h) g.2 (fun x e y hy=>by
   rcases(Bs h x acc).1 e with rfl|e
   .exact g.1 y hy
   .exact i x e y (by simp[hy])) (Ob h acc j fun x e=>i x e h (by simp))
  refine⟨k,fun x=>?_⟩
  rw[o,Bs,bn]
  constructor<;>rintro(h|h)<;>simp_all
  .rcases h with h|h<;>simp_all
  .rcases h with h|h<;>simp_all
theorem Ew :∀(l acc:List bY),(l.foldl fv acc).length=acc.length+l.length
 | [],acc=>by simp
 |h::l,acc=>by rw[eZ,Ew l,N9,ba];omega
theorem nR {l:List bY} (e:ju l):((eB l).Pairwise fun a b=>eP a b=true)/\∀x,x∈eB l↔x∈l:=by
 obtain⟨g,h⟩:=Ui l [] e (fun x i=>by cases i) l9
 exact⟨g,fun x=>by rw[show eB l=l.foldl fv []from rfl,h];simp⟩
theorem arw {l R:List bY} (e:ju l) (g:R.Perm l) (i:R.Pairwise fun a b=>eP a b=true):R=eB l:=by
 obtain⟨j,o⟩:=nR e
 exact zf eP s7 (fun a b c h k=>Dm h k) R _ i j fun x=>by rw[g.mem_iff,o]
theorem Ny (N:Nat) (i:4<=N) (a b:bY):Def (j3 N () a b) fun r=>decide (r<0)=eP a b:=by
 show Def (sC N a.1 a.2 b.1 b.2) _
 unfold sC
 rw[FH,ag,FH,ag,SO N i,ag]
 refine Def.ret ?_
 unfold eP
 by_cases e:b.2<a.2
 .rw [ai e,aq e]
  simp
 .rw [aC e,an e]
  by_cases g:a.2<b.2
  .rw [ai g,an (by omega:¬a.2=b.2)]
   simp
  .rw [aC g,aq (by omega:a.2=b.2)]
   by_cases h:a.1<b.1
   .simp [h]
   .by_cases j:b.1<a.1<;>simp[h,j]
theorem MG (N:Nat) (o:1048576<N) (k:N<=16777216) (l:List bY) (p:l.length<=100000) (j:ju l) (most:Nat) (hm:most<=100000):q1 N l most=some ((eB l).take most):=by
 refine Def.get ?_
 unfold q1
 rw[ai (bW (by simp;omega) (by simp;omega)),fE]
 refine Def.bind (arp eP aoe N k (by omega) l () ⟨fun x r y hy=>Ny N (by omega) x y,j.imp fun h=>Sh h⟩ (by omega)) fun R g=>?_
 have i:=g.1.length_eq
 rw[arw j g.1 g.2]at i⊢
 generalize eB l=L at*
 have e:(if(most:Int)<L.length then(most:Int)else(L.length:Int))=((min most L.length:Nat):Int):=by split<;>omega
 rw[e,Af L _ (Nat.min_le_right _ _),ag,ai (bW (by simp;omega) (by simp;omega)),fE]
 refine Def.ret ?_
 rw[<-List.take_take,cj]
theorem anJ (N:Nat) (a b:bY):D7 N a.1 a.2 b.1 b.2=some (eP a b):=by
 unfold D7 eP
 by_cases e:b.2<a.2
 .rw [aq e];rfl
 .rw [an e]
  by_cases g:a.2=b.2
  .rw [aq g];rfl
  .rw [an g];rfl
theorem anK (N:Nat) (l:List bY) (h:bY) (most:Nat) (A:l.length<=100000) (C:1048576<N) (hm:most<=100000):y0 N l h.1 h.2 most=some ((fv l h).take most):=by
 refine Def.get ?_
 unfold y0
 have fin:∀j:Nat,j<=l.length->l.take j++ [h]++l.drop j=fv l h->Def (Option.bind (cut l 0 (j:Int)) fun(y:List (Int×Int))=>
   if room ([]:List (Int×Int)).length y.length 16 then
   (if room (([]:List (Int×Int))++y).length ([(h.1,h.2)]:List (Int×Int)).length 16 then
   (Option.bind (cut l (j:Int) (l.length:Int)) fun(o:List (Int×Int))=>
   (if room ((([]:List (Int×Int))++y)++([(h.1,h.2)]:List (Int×Int))).length o.length 16 then
   (bif(decide ((most:Int)<((((([]:List (Int×Int))++y)++([(h.1,h.2)]:List (Int×Int)))++o).length:Int)))then
   (Option.bind (cut (((([]:List (Int×Int))++y)++([(h.1,h.2)]:List (Int×Int)))++o) 0 (most:Int)) fun(z:List (Int×Int))=>
   (some z))
   else
   (some (((([]:List (Int×Int))++y)++([(h.1,h.2)]:List (Int×Int)))++o)))
   else none))
   else none)
   else none) fun r=>r=(fv l h).take most:=fun j i he=>by
  rw[Af l j i,ag,ai (bW (by simp;omega) (by simp;omega)),ai (bW (by simp;omega) (by simp;omega)),Xo l j i,ag,ai (bW (by simp;omega) (by simp;omega)),fE]
  rw[show l.take j++ [(h.1,h.2)]++l.drop j=fv l h from he]
  generalize fv l h=L
  refine Def.bO (fun e=>?_) (fun e=>?_)
  .rw [Af L most (by omega),ag]
   exact Def.ret rfl
  .exact Def.ret (jS (by omega)).symm
 refine Def.upto l.length (fun j v=>v=(l,(most:Int),(j:Int),h.1,h.2)/\∀x,x∈l.take j->eP x h=true) (fun go v p=>?_) (fun go j v i p t=>?_) N 0 _ (bg _) ⟨rfl,by simp⟩ (by omega)
 .obtain ⟨rfl,k⟩:=p
  dsimp only
  rw[an (bm _),aj]
  refine fin l.length (bE _) ?_
  rw[cj]at k
  have:=HB h l [] k
  rw[fe]at this
  rw[cj,me,fe,this]
  rfl
 .obtain ⟨rfl,k⟩:=p
  dsimp only
  rw[aq (by omega:(j:Int)<l.length),ao,aP i,ag,anJ N l[j] h,ag]
  cases u:eP l[j] h with
  |true=>
   rw[ao,ai (aO (n:=j) (by omega))]
   refine t _ ⟨by rw[aS],fun x g=>?_⟩
   rw[dT i,cE,du]at g
   rcases g with g|rfl
   .exact k x g
   .exact u
  |false=>
   rw[aj]
   refine fin j (by omega) ?_
   have:=HB h (l.take j) (l.drop j) k
   rw[ko,eY i,fv,aC (by rw[u];decide),<-eY i]at this
   rw[this,e5]
   rfl
theorem Oa (h:bY):∀(l:List bY) (m:Nat),(fv (l.take m) h).take m=(fv l h).take m
 | [],m=>by rw[List.take_nil]
 |x::r,0=>by rw[List.take_zero,List.take_zero]
 |x::r,m+1=>by
  rw[hX]
  unfold fv
  by_cases e:eP x h=true
  .rw [ai e,ai e,hX,hX,Oa h r m]
  .rw [aC e,aC e,hX,hX]
   cases m with
   |zero=>rfl
   |succ k=>rw[hX,hX,List.take_take,pg (Nat.le_succ k)]
theorem arv (l:List bY) (h:bY):eB (l++ [h])=fv (eB l) h:=by unfold eB;rw[hW];rfl
theorem Ai :∀ {ad:List aF},(ad.Pairwise fun a b=>a.1<b.1)->∀d,d∈ad->e1 ad d.1=some d
 | [],_,d,h=>by cases h
 |x::l,e,d,h=>by
  rw[en]at e
  unfold e1
  rw[n0]
  rcases bn.1 h with rfl|h
  .rw [aq rfl]
  .have:=e.1 d h
   rw[an (by omega)]
   exact Ai e.2 d h
theorem FV {ad:List aF} {id:Int} {d:aF} (h:e1 ad id=some d):d∈ad/\d.1=id:=by
 refine⟨ql h,?_⟩
 have:=List.find?_some h
 exact of_decide_eq_true this
theorem yQ (N:Nat) (e:bC<N) (g:N<=1099511627776) (q:aN) (h:ie 4 q):pK N q.kind q.field q.words q.lo q.hi q.kids=some (cZ 4 q):=by
 have i:1048576<N:=e
 unfold pK
 rw[show(4:Int)=((4:Nat):Int)from rfl,Sv N e g 4 N (by omega) (by omega) q h,ag]
theorem apM (N:Nat) (e:bC<N) (g:N<=1099511627776) (q:aN) (h:ie 4 q):D4 N q.kind q.field q.words q.lo q.hi q.kids=some (cZ 4 q):=by
 have i:1048576<N:=e
 unfold D4
 rw[show(4:Int)=((4:Nat):Int)from rfl,RV N e g 4 N (by omega) (by omega) q h,ag]
structure Fit (N:Nat) (c:aK) (s:cq) (q:aN):Prop where
 cS:bC<N
 top:N<=16777216
 c8:cH bC gJ c
 gE:∀x,x∈s.1->cH bC fN x
 len:s.1.length<=1048576
 lL:ie 4 q
theorem Fit.pC {N:Nat} {c:aK} {s:cq} {q:aN} (h:Fit N c s q) (e:fS c s=true):fl N c s:=⟨h.cS,h.top,h.c8,h.gE,e⟩
theorem Fit.jK {N:Nat} {c:aK} {s:cq} {q:aN} (h:Fit N c s q):u1 N c.1 c.2 s.1 s.2=some (fS c s):=T3 N h.cS h.top c h.c8 s h.gE h.len
theorem Fit.apK {N:Nat} {c:aK} {s:cq} {q:aN} (h:Fit N c s q):pK N q.kind q.field q.words q.lo q.hi q.kids=some (cZ 4 q):=yQ N h.cS (by have:=h.top;omega) q h.lL
def uS (V:aF->Int) (P:bY->Bool) (d:aF):Option bY:=bif decide (0<V d)&&P (d.1,V d)then some (d.1,V d)else none
def h3 (V:aF->Int) (P:bY->Bool) (ad:List aF):List bY:=ad.filterMap (uS V P)
def dD (_:bY):Bool:=true
theorem ND (V:aF->Int) (P:bY->Bool):∀ad:List aF,(h3 V dD ad).filter P=h3 V P ad
 | []=>rfl
 |d::l=>by
  have e:=ND V P l
  unfold h3 at e⊢
  unfold uS dD at e⊢
  simp only[tK,fD]at e⊢
  cases h:decide (0<V d)
  .exact e
  .rw [cl,ao]
   cases g:P (d.1,V d)
   .dsimp only
    rw[tM (p:=P) (by rw[g];decide)]
    exact e
   .dsimp only
    rw[tL (p:=P) g,e]
    rfl
theorem A2 {V:aF->Int} {P:bY->Bool} {ad:List aF} {x:bY} (h:x∈h3 V P ad):∃d,d∈ad/\x=(d.1,V d)/\0<V d/\P x=true:=by
 obtain⟨d,i,e⟩:=rQ.1 h
 unfold uS at e
 cases g:decide (0<V d)&&P (d.1,V d)with
 |false=>rw[g,aj]at e;cases e
 |true=>
  rw[g,ao]at e
  cases e
  rw[a6,bo]at g
  exact⟨d,i,rfl,g.1,g.2⟩
theorem NF (V:aF->Int) (P:bY->Bool) (ad:List aF):(h3 V P ad).length<=ad.length:=tJ _ _
theorem NC (V:aF->Int) (P:bY->Bool):∀ {ad:List aF},(ad.Pairwise fun a b=>a.1<b.1)->ju (h3 V P ad)
 | [],_=>l9
 |d::l,g=>by
  rw[en]at g
  have h:=NC V P g.2
  unfold h3 at h⊢
  rw[tK]
  have i:∀x,x∈l.filterMap (uS V P)->d.1≠x.1:=fun x j=>by
   obtain⟨e,he,rfl,_⟩:=A2 (V:=V) (P:=P) j
   have:=g.1 e he
   show d.1≠e.1
   omega
  unfold uS
  cases decide (0<V d)&&P (d.1,V d)
  .exact h
  .exact en.2 ⟨i,h⟩
theorem NG (V:aF->Int) (P:bY->Bool) (ad:List aF) {n:Nat} (h:n<ad.length):h3 V P (ad.take (n+1))=bif decide (0<V ad[n])&&P (ad[n].1,V ad[n])then h3 V P (ad.take n)++ [(ad[n].1,V ad[n])]else h3 V P (ad.take n):=by
 unfold h3
 rw[Aq _ _ _ h]
 unfold uS
 cases decide (0<V ad[n])&&P (ad[n].1,V ad[n])
 .exact fe _
 .rfl
def e4 (N:Nat) (c:aK) (s:cq) (q:aN) (P:bY->Bool):List bY:=bif fS c s&&cZ 4 q then h3 (fun d=>h9 N N c s d q) P s.1 else []
theorem KC {N:Nat} {c:aK} {s:cq} {q:aN} (h:Fit N c s q):u5 N c.1 c.2 s.1 s.2 q.kind q.field q.words q.lo q.hi q.kids=some (e4 N c s q dD):=by
 have p:1048576<N:=h.cS
 have r:=h.len
 unfold u5 e4
 rw[h.jK,ag,h.apK,ag]
 cases k:fS c s with
 |false=>rfl
 |true=>
  cases l:cZ 4 q with
  |false=>rfl
  |true=>
   have g:=h.pC k
   rw[bf,aj,aj,fD,ao]
   refine(dh _ s.1.length (fun n=>(h3 (fun d=>h9 N N c s d q) dD (s.1.take n),s.1,(s.1.length:Int),(n:Int),q.kind,q.field,q.words,q.lo,q.hi,q.kids,c.1,c.2,s.1,s.2)) (fun n=>some (h3 (fun d=>h9 N N c s d q) dD s.1)) (fun go=>?_) (fun go n i e=>?_) N 0 (bg _) (by omega)).trans rfl
   .dsimp only
    rw[an (bm _),aj,cj]
   .dsimp only
    have hm:=br i
    have o:=KB N g s.1[n] (Ai g.dM.gB.ids _ hm) q l
    have he:=o.uC
    have j:=NF (fun d=>h9 N N c s d q) dD (s.1.take n)
    rw[bN]at j
    simp only[aS,NG (fun d=>h9 N N c s d q) dD s.1 i]at e
    generalize h3 (fun d=>h9 N N c s d q) dD (s.1.take n)=out at*
    generalize h9 N N c s s.1[n] q=v at*
    rw[aq (by omega:(n:Int)<s.1.length),ao,aP i,ag,he,ag,ai (bW (by rw[bS];omega) (by rw[bS];omega)),<-e]
    simp only[ai (aO (n:=n) (by omega)),dD,fD]
    cases decide (0<v)<;>rfl
theorem uT (N:Nat) (c:aK) (s:cq) (q:aN) (P:bY->Bool):(e4 N c s q P).length<=16:=by
 unfold e4
 cases e:fS c s with
 |false=>exact bg _
 |true=>
  cases g:cZ 4 q with
  |false=>exact bg _
  |true=>exact dS (NF _ _ _) (iR e).2.1.c7
theorem NH (N:Nat) (c:aK) (s:cq) (q:aN) (P:bY->Bool):(e4 N c s q dD).filter P=e4 N c s q P:=by
 unfold e4
 cases fS c s&&cZ 4 q
 .rfl
 .exact ND _ P _
theorem A3 (N:Nat) (c:aK) (s:cq) (q:aN) (P:bY->Bool):ju (e4 N c s q P):=by
 unfold e4
 cases e:fS c s with
 |false=>exact l9
 |true=>
  cases g:cZ 4 q with
  |false=>exact l9
  |true=>exact NC _ _ (iR e).2.1.gB.ids
def jq (N:Nat) (c:aK) (s:cq) (q:aN) (P:bY->Bool) (most:Nat):List bY:=(eB (e4 N c s q P)).take most
def kb (most:Int):Bool:=decide (1<=most)&&decide (most<=16)
theorem Hw {m:Int} (h:kb m=true):∃k:Nat,m=(k:Int)/\1<=k/\k<=16:=by
 unfold kb at h
 simp only[a6,bo]at h
 exact⟨m.toNat,by omega,by omega,by omega⟩
def mT (N:Nat) (c:aK) (s:cq) (q:aN) (P:bY->Bool) (most:Int):List bY:=bif kb most then jq N c s q P most.toNat else []
theorem Gm {N:Nat} (e:1048576<N) (g:N<=16777216) (c:aK) (s:cq) (q:aN) (P:bY->Bool) (most:Nat) (hm:most<=16):q1 N (e4 N c s q P) most=some (jq N c s q P most):=by
 have h:=uT N c s q P
 exact MG N e g _ (by omega) (A3 N c s q P) most (by omega)
theorem apr {i:Type} {N:Nat} (o:1048576<N) (V:aF->Int) (P:bY->Bool) (ad:List aF) (p:ad.length<=16) (most:Nat) (hm:most<=16) (F:(i->Option (List bY))->i->Option (List bY)) (st:List bY->Int->i) (h:∀go out,F go (st out (ad.length:Int))=some out)
  (g:∀go (n:Nat) (j:n<ad.length) (out e:List bY),y0 N out ad[n].1 (V ad[n]) most=some e->F go (st out (n:Int))=go (st (bif decide (0<V ad[n])&&P (ad[n].1,V ad[n])then e else out) ((n:Int)+1))):
  iter F N (st [] 0)=some ((eB (h3 V P ad)).take most):=by
 refine Eq.trans ?_ (dh F ad.length (fun n=>st ((eB (h3 V P (ad.take n))).take most) (n:Int)) (fun _=>some ((eB (h3 V P ad)).take most)) (fun go=>by rw[h,cj]) (fun go n j k=>?_) N 0 (bg _) (by omega))
 .simp only [List.take_zero,h3,List.filterMap_nil,eB,List.foldl_nil,List.take_nil]
  rfl
 .have l:=anK N ((eB (h3 V P (ad.take n))).take most) (ad[n].1,V ad[n]) most (by rw[bN];omega) o (by omega)
  rw[Oa]at l
  rw[g go n j _ _ l,<-aS,<-k,NG V P ad j]
  cases decide (0<V ad[n])&&P (ad[n].1,V ad[n])
  .rfl
  .rw [ao,ao,arv]
theorem anL {N:Nat} {c:aK} {s:cq} {q:aN} (h:Fit N c s q) (e:fS c s=true) (j:cZ 4 q=true) (most:Nat) (hm:most<=16):D8 N c.1 c.2 s.1 s.2 q.kind q.field q.words q.lo q.hi q.kids most=some (jq N c s q dD most):=by
 have g:=h.pC e
 have o:e4 N c s q dD=h3 (fun d=>h9 N N c s d q) dD s.1:=by unfold e4;rw[e,j];rfl
 unfold D8 jq
 rw[o]
 refine apr h.cS (fun d=>h9 N N c s d q) dD s.1 g.dM.c7 most hm _ (fun out i=>((most:Int),out,i,c.1,c.2,s.1,s.2,q.kind,q.field,q.words,q.lo,q.hi,q.kids)) (fun go out=>?_) (fun go n k out l p=>?_)
 .dsimp only
  rw[an (bm _),aj]
 .dsimp only
  have r:=g.dM.c7
  have hm:=br k
  have he:=(KB N g s.1[n] (Ai g.dM.gB.ids _ hm) q j).ref
  rw[aq (by omega:(n:Int)<s.1.length),ao,aP k,ag,he,ag,ag,p,ag]
  simp only[ai (aO (n:=n) (by omega)),dD,fD]
  cases decide (0<h9 N N c s s.1[n] q)<;>rfl
theorem arU {N:Nat} {c:aK} {s:cq} {q:aN} (h:Fit N c s q) (most:Int):Bn N c.1 c.2 s.1 s.2 q.kind q.field q.words q.lo q.hi q.kids most=some (mT N c s q dD most):=by
 unfold Bn mT
 rw[fB,ag,show(decide ((1:Int)<=most)&&decide (most<=16))=kb most from rfl]
 cases hm:kb most with
 |false=>rfl
 |true=>
  obtain⟨k,rfl,g,e⟩:=Hw hm
  rw[bf,aj,KC h,ag,Gm h.cS h.top c s q dD k e,ag]
  rfl
def vY (many which:Int):Bool:=(decide (1<=many)&&decide (many<=4))&&(decide (0<=which)&&decide (which<=many-1))
def ln (many which:Int) (h:bY):Bool:=decide (h.1.tmod many=which)
theorem aqN (N:Nat) (many which:Int):Bq N many which=some (vY many which):=by
 unfold Bq vY
 rw[fB,ag]
 by_cases h:1<=many/\many<=4
 .rw [aq h.1,aq h.2,fD,ao,ai (by unfold fits;omega),fB,ag,cl]
 .have:(decide (1<=many)&&decide (many<=4))=false:=by
   rw[Bool.eq_false_iff]
   intro e
   simp only[a6,bo]at e
   exact h e
  rw[this,aj,pf]
def Et (N:Nat) (c:aK) (s:cq) (q:aN) (many which most:Int):List bY:=bif vY many which then mT N c s q (ln many which) most else []
theorem aqO {N:Nat} {c:aK} {s:cq} {q:aN} (h:Fit N c s q) (many which most:Int):xP N c.1 c.2 s.1 s.2 q.kind q.field q.words q.lo q.hi q.kids many which most=some (Et N c s q many which most):=by
 have y:1048576<N:=h.cS
 unfold xP Et
 rw[aqN,ag]
 cases i:vY many which with
 |false=>rfl
 |true=>
 unfold mT
 rw[bf,aj,fB,ag,show(decide ((1:Int)<=most)&&decide (most<=16))=kb most from rfl]
 cases hm:kb most with
 |false=>rfl
 |true=>
  obtain⟨k,rfl,z,u⟩:=Hw hm
  have g:many≠0:=by
   unfold vY at i
   simp only[a6,bo]at i
   omega
  have A:=uT N c s q dD
  have o:=NH N c s q (ln many which)
  have r:=Gm h.cS h.top c s q (ln many which) k u
  rw[bf,aj,KC h,ag,ao,ao,eg]
  generalize e4 N c s q dD=e at*
  refine(dh _ e.length (fun n=>(many,which,(k:Int),(e.take n).filter (ln many which),e,(e.length:Int),(n:Int))) (fun n=>some (jq N c s q (ln many which) k)) (fun go=>?_) (fun go n t j=>?_) N 0 (bg _) (by omega)).trans rfl
  .dsimp only
   rw[an (bm _),aj,cj,o,r,ag]
  .dsimp only
   have l:=ho (ln many which) (e.take n)
   rw[bN]at l
   simp only[aS,dT t,jP]at j
   rw[aq (by omega:(n:Int)<e.length),ao,aP t,ag,ai g,ai (bW (by rw[bS];omega) (by rw[bS];omega)),<-j]
   simp only[ai (aO (n:=n) (by omega))]
   rw[show decide (e[n].1.tmod many=which)=ln many which e[n]from rfl]
   cases i:ln many which e[n]
   .rw [aj,tM (p:=ln many which) (by rw[i];decide),List.filter_nil,fe]
   .rw [ao,tL (p:=ln many which) i,List.filter_nil]
end Go.Proofs.YtnkagklajgimlaaGreatDoor
