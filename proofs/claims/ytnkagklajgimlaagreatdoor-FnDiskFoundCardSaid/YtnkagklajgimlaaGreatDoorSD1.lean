
import Derived.Test.YtnkagklajgimlaaGreatDoorSA1
import Derived.Test.YtnkagklajgimlaaGreatDoorSC1
import Derived.Test.YtnkagklajgimlaaGreatDoorG1
import Derived.Test.YtnkagklajgimlaaGreatDoorQ1
import Derived.Test.YtnkagklajgimlaaGreatDoorQA
set_option linter.unusedVariables false
set_option linter.unusedSimpArgs false
namespace Go.Proofs.YtnkagklajgimlaaGreatDoor
open Go.RowKit
theorem G8 (c2:List eS) (l:List dp):∀x,x∈h9 c2 l->∃y,y∈l/\x.2=y.2:=by
 intro x g
 match l with
 | []=>rw[u6]at g;cases g
 |t::r=>
  rw[h9]at g
  split at g
  .rcases bm.1 g with rfl|g
   .exact ⟨_,b6,rfl⟩
   .obtain ⟨y,hy,e⟩:=G8 c2 r x g
    exact⟨y,b7 _ hy,e⟩
  .rename_i y hy
   rcases bm.1 g with rfl|g
   .exact ⟨_,b6,rfl⟩
   .obtain ⟨z,h,e⟩:=G8 c2 _ x g
    exact⟨z,b7 _ (nq h),e⟩
termination_by l.length
decreasing_by all_goals (simp; try omega)
theorem He (c:aL) (s:List UInt8) (g:s.length<=10000):mo (dv c s):=fun x h=>by
 obtain⟨y,hy,e⟩:=G8 c.2 _ x h
 rw[e]
 exact GO c.1 s g y hy
theorem Hi (c:aL) {ad:List aC} (i:eZ ad) (k:gL) (id:Int):(eG c ad k id).length<=160/\∀x,x∈eG c ad k id->0<=x/\x<1000000:=by
 unfold eG
 cases h:e2 ad id with
 |none=>exact⟨bg _,fun x e=>by cases e⟩
 |some d=>
  have j:=i.text (oq h) k.1
  refine⟨?_,fun x e=>?_⟩
  .dsimp only
   rw[DW]
   have g:=hK (fun t:dp=>decide (t.1=k.2)) (dv c (eu d.2.1 k.1))
   have l:=om c (eu d.2.1 k.1)
   omega
  .dsimp only [b2]at e
   obtain⟨t,g,rfl⟩:=cd.1 e
   exact He c _ (by omega) t (hp.1 g).1
theorem Ph (P:UInt8->Prop) (xs:List (List UInt8)) (sep:List UInt8) (h:∀c,c∈sep->P c) (i:∀x,x∈xs->∀c,c∈x->P c) (L:Nat) (j:∀x,x∈xs->x.length+sep.length<=L):∀n,n<=xs.length->(∀c,c∈fp (xs.take n) sep->P c)/\(fp (xs.take n) sep).length<=n*L
 |0,_=>⟨fun c e=>(by cases e),bg _⟩
 |n+1,k=>by
  obtain⟨l,o⟩:=Ph P xs sep h i L j n (by omega)
  have hm:=bA (show n<xs.length from k)
  have g:=i _ hm
  have p:=j _ hm
  rw[ec (show n<xs.length from k),G9,Nat.succ_mul]
  rcases t:xs.take n with _|⟨a,r⟩
  .exact ⟨g,by dsimp only;omega⟩
  .rw [t]at l o
   dsimp only
   refine⟨fun c e=>?_,?_⟩
   .rcases cp.1 e with e|e
    .rcases cp.1 e with e|e
     .exact l c e
     .exact h c e
    .exact g c e
   .rw [a1,a1]
    omega
theorem Bx (xs:List (List UInt8)) (i:∀x,x∈xs->okW x=true) (o:xs.length<=4):fz (fp xs [32])=true/\(fp xs [32]).length<=160:=by
 obtain⟨j,k⟩:=Ph (fun c=>32<=c.toNat/\c.toNat<=126) xs [32] (fun c g=>by rw[c1.1 g];decide) (fun x h c g=>by
  have:=((h7 x).1 (i x h)).1 c g
  unfold gv at this
  simp only[lB,bk,bz]at this
  omega) 13 (fun x h=>by
  have:=((h7 x).1 (i x h)).2.2
  rw[bS]
  omega) xs.length (bC _)
 rw[cl]at j k
 refine⟨?_,by omega⟩
 unfold fz dL
 rw[bk,cA,bz]
 refine⟨fun n l=>?_,by omega⟩
 have e:n<(fp xs [32]).length:=by have:=List.mem_range'.1 l;omega
 have:=j _ (bA e)
 rw[<-pS e,ak (by omega),ak (by omega)]
 rfl
def lj (k:Int) (l:List Int):List Int:=(l.filter fun x=>decide (k<=x)).map fun x=>x-k
theorem Pl (k:Int) (l:List Int) {n:Nat} (h:n<l.length):lj k (l.take (n+1))=bif decide (k<=l[n])then lj k (l.take n)++ [l[n]-k]else lj k (l.take n):=by
 unfold lj
 rw[ec h,kV,iD]
 cases e:decide (k<=l[n])
 .rw [List.filter_cons_of_neg (p:=fun x=>decide (k<=x)) (by rw[e];decide),aj]
  exact e5 _
 .rw [List.filter_cons_of_pos (p:=fun x=>decide (k<=x)) e,ao]
  rfl
theorem Hl (k:Int) (l:List Int):(lj k l).length<=l.length:=by
 unfold lj
 rw[dX]
 exact hK _ _
def h4 (e:List dp) (i:Nat):Int:=(du e i).2-(du e 0).2-i
def xh (c:aL) (ad:List aC) (field:List UInt8) (e:List dp) (id:Int) (i:Nat):List Int:=lj (h4 e i) (eG c ad (field,(du e i).1) id)
def jO (c:aL) (ad:List aC) (field:List UInt8) (e:List dp) (id:Int) (n:Nat):List (List Int):=(List.range n).map (xh c ad field e id)
theorem Px (c:aL) (ad:List aC) (field:List UInt8) (e:List dp) (id:Int) (n:Nat):jO c ad field e id (n+1)=jO c ad field e id n++ [xh c ad field e id n]:=by
 unfold jO
 rw[List.range_succ,iD]
 rfl
theorem xi (c:aL) (ad:List aC) (field:List UInt8) (e:List dp) (id:Int) (n:Nat):(jO c ad field e id n).length=n:=by
 unfold jO
 rw[dX,List.length_range]
theorem PE (c:aL) {ad:List aC} (g:eZ ad) (field:List UInt8) (e:List dp) (id:Int) (n:Nat):∀l,l∈jO c ad field e id n->l.length<=1048576:=fun l h=>by
 obtain⟨i,_,rfl⟩:=cd.1 h
 have j:=(Hi c g (field,(du e i).1) id).1
 have k:=Hl (h4 e i) (eG c ad (field,(du e i).1) id)
 unfold xh
 omega
theorem aaX (N:Nat) {c:aL} {s:cB} (g:ff N c s) (q:Int) (i:List UInt8) (j:List (List UInt8)) (r t:Int) (u:List bf) (id:Int) (hw:∀w,w∈j->okW w=true) (H:j.length<=4):
  Ho N c.1 c.2 s.1 s.2 q i j r t u id=some (jO c s.1 i (dv c (fp j [32])) id (dv c (fp j [32])).length):=by
 have C:=g.m
 have V:=g.top
 obtain⟨I,J⟩:=Bx j hw H
 have p:=He c (fp j [32]) (by omega)
 have L:=om c (fp j [32])
 unfold Ho
 rw[Pj N C (by omega) j [32] (by omega) (by decide) (fun x F=>by have:=((h7 x).1 (hw x F)).2.2;omega),af,xp N c _ (by omega) C (iy g.ok).1,af]
 generalize dv c (fp j [32])=e at*
 have W:=p.at 0
 refine(dB _ e.length (fun n=>(id,jO c s.1 i e id n,e,(n:Int),s.1,s.2,q,i,j,r,t,u)) (fun n=>some (jO c s.1 i e id e.length)) (fun go=>?_) (fun go n G o=>?_) N 0 (bg _) (by omega)).trans rfl
 .dsimp only
  rw[ak (bp _),aj]
 .dsimp only
  have M:=p.at n
  have O:idx e (0:Int)=some (du e 0):=by rw[<-l5 (show 0<e.length by omega)];exact aO (n:=0) (by omega)
  obtain⟨P,y⟩:=Hi c g.dY (i,(du e n).1) id
  simp only[aR]at o
  rw[aq (by omega:(n:Int)<e.length),ao,aO G,af,O,af,l5 G,ai (by unfold fits;omega),ai (by unfold fits;omega),af,Hx N g i (du e n).1 id,af]
  have Q:(du e n).2-(du e 0).2-(n:Int)=h4 e n:=rfl
  rw[Q]
  have S: -2000000<=h4 e n/\h4 e n<=2000000:=by unfold h4;omega
  have T:xh c s.1 i e id n=lj (h4 e n) (eG c s.1 (i,(du e n).1) id):=rfl
  have U:=xi c s.1 i e id n
  rw[Px,T]at o
  generalize h4 e n=K at*
  generalize eG c s.1 (i,(du e n).1) id=h at*
  generalize jO c s.1 i e id n=out at*
  refine(dB _ h.length (fun k=>(id,out,e,(n:Int),K,h,lj K (h.take k),(k:Int),s.1,s.2,q,i,j,r,t,u)) (fun k=>go (id,out++ [lj K h],e,(n:Int)+1,s.1,s.2,q,i,j,r,t,u)) (fun go2=>?_) (fun go2 k z l=>?_) N 0 (bg _) (by omega)).trans o
  .dsimp only
   rw[ak (bp _),aj,cl,ai (b5 (by rw[bS];omega) (by rw[bS];omega)),ai (aN (n:=n) (by omega))]
  .dsimp only
   have F:=y _ (bA z)
   have A:=Hl K (h.take k)
   rw[bX]at A
   simp only[aR,Pl K h z]at l
   rw[aq (by omega:(k:Int)<h.length),ao,aO z,af,af,ai (by unfold fits;omega),ai (b5 (by rw[bS];omega) (by rw[bS];omega)),<-l]
   simp only[ai (aN (n:=k) (by omega))]
   cases decide (K<=h[k])<;>rfl
theorem aa0 {e ρ:Type} {J:e->Option ρ} {X:(e->Option ρ)->Option ρ} {w:Option ρ} (g0:e) (v:Option ρ) (h:J g0=v) (i:∀g:e->Option ρ,g g0=v->X g=w):meet J X=w:=i J h
def mM (c:aL) (ad:List aC) (field:List UInt8) (e:List dp) (id:Int):Nat:=dI (e.map fun t=>iU c ad field t.1 id)
theorem Pp (c:aL) (ad:List aC) (field:List UInt8) (e:List dp) (id:Int) {n:Nat} (h:n<e.length):mM c ad field (e.take (n+1)) id=mM c ad field (e.take n) id+iU c ad field (du e n).1 id:=by
 unfold mM
 rw[List.map_take,am3 _ n (by rw[dX];exact h),List.map_take,List.getElem_map,l5 h]
theorem Hc (c:aL) {ad:List aC} (g:eZ ad) (field:List UInt8) (e:List dp) (id:Int):mM c ad field e id<=e.length*8800000:=by
 have:=sB 8800000 (e.map fun t=>iU c ad field t.1 id) (fun x h=>by
  obtain⟨t,_,rfl⟩:=cd.1 h
  exact xF c g field t.1 id)
 rwa[dX]at this
def xl (c:aL) (ad:List aC) (field:List UInt8) (g:List dp) (e:Int) (id:Int):Nat:=mM c ad field g id*min (qD (jO c ad field g id g.length) e).length 3
def uS (c:aL) (ad:List aC) (field:List UInt8) (ws:List (List UInt8)) (e:Int) (id:Int):Nat:=xl c ad field (dv c (fp ws [32])) e id
theorem Ha (c:aL) {ad:List aC} (h:eZ ad) (field:List UInt8) (g:List dp) (j:g.length<=160) (e id:Int):xl c ad field g e id<=4224000000:=by
 unfold xl
 have k:=Hc c h field g id
 have i:min (qD (jO c ad field g id g.length) e).length 3<=3:=Nat.min_le_right _ _
 calc _<=1408000000*3:=sR (by omega) i
  _=4224000000:=rfl
theorem alb (c:aL) {ad:List aC} (g:eZ ad) (field:List UInt8) (ws:List (List UInt8)) (hw:∀w,w∈ws->okW w=true) (h:ws.length<=4) (e id:Int):uS c ad field ws e id<=4224000000:=by
 have i:=(Bx ws hw h).2
 have j:=om c (fp ws [32])
 exact Ha c g field _ (by omega) e id
theorem ajT (N:Nat) {c:aL} {s:cB} (g:ff N c s) (q:Int) (i:List UInt8) (j:List (List UInt8)) (k o:Int) (p:List bf) (id:Int) (hw:∀w,w∈j->okW w=true) (u:j.length<=4):
  G5 N c.1 c.2 s.1 s.2 q i j k o p id=some (uS c s.1 i j k id:Int):=by
 have r:=g.m
 have P:=g.top
 obtain⟨C,F⟩:=Bx j hw u
 have G:=om c (fp j [32])
 have H:=Pj N r (by omega) j [32] (by omega) (by decide) (fun x I=>by have:=((h7 x).1 (hw x I)).2.2;omega)
 have K:=xp N c (fp j [32]) (by omega) r (iy g.ok).1
 unfold G5 uS
 rw[aaX N g q i j k o p id hw u,af,xi]
 generalize dv c (fp j [32])=h at*
 have y:=Ha c g.dY i h (by omega) k id
 by_cases L:h.length=0
 .have e:h=[]:=vj.1 L
  subst e
  rw[aq (by omega),ao]
  show some (0:Int)=some ((0*_:Nat):Int)
  rw[Nat.zero_mul]
  rfl
 .rw [ak (by omega),aj,aa9 N r (by omega) _ k (by rw[xi];omega) (PE c g.dY i h id h.length),af]
  unfold xl at*
  generalize Q:qD (jO c s.1 i h id h.length) k=ps at*
  refine aa0 (id,((min ps.length 3:Nat):Int),c.1,c.2,s.1,s.2,q,i,j,k,o,p) (some ((mM c s.1 i h id*min ps.length 3:Nat):Int)) ?_ (fun J z=>?_)
  .dsimp only
   rw[H,af,K,af]
   refine(dB _ h.length (fun n=>(id,((min ps.length 3:Nat):Int),(mM c s.1 i (h.take n) id:Int),h,(n:Int),s.1,s.2,q,i,j,k,o,p)) (fun n=>some ((mM c s.1 i h id*min ps.length 3:Nat):Int)) (fun go=>?_) (fun go n t l=>?_) N 0 (bg _) (by omega)).trans rfl
   .dsimp only
    rw[ak (bp _),aj,cl,<-nr,ai (ep (by omega) (by omega))]
   .dsimp only
    have M:=Hc c g.dY i (h.take n) id
    have O:=xF c g.dY i (du h n).1 id
    rw[bX]at M
    simp only[aR,Pp c s.1 i h id t]at l
    rw[aq (by omega:(n:Int)<h.length),ao,aO t,af,l5 t,Hz N g i (du h n).1 id,af,ai (ep (by omega) (by omega)),ai (aN (n:=n) (by omega)),<-l,Int.natCast_add]
  .by_cases A:(3:Int)<ps.length
   .rw [aq A,ao,<-z,Nat.min_eq_right (by omega)]
    rfl
   .rw [ak A,aj,<-z,ow (by omega)]
theorem ab2 {n:Nat}:(if(n:Int)<3 then(n:Int)else 3)=((min n 3:Nat):Int):=by
 split<;>omega
theorem Yp (N:Nat) {c:aL} {s:cB} (g:ff N c s) (q:Int) (i:List UInt8) (l:List (List UInt8)) (o u:Int) (y:List bf) (id:Int) (d2:List ei) (d3:List gl) (hw:∀w,w∈l->okW w=true) (M:l.length<=4):
  Br N (c,s) q i l o u y id d2 d3=some (uS c s.1 i l o id:Int):=by
 have I:=g.m
 have qa:=g.top
 obtain⟨z,O⟩:=Bx l hw M
 have P:=om c (fp l [32])
 have t:=He c (fp l [32]) (by omega)
 have J:=Dh N c (fp l [32]) (by omega) I (by omega) g.cV
 rw[(iy g.ok).1,z,fX,ao]at J
 unfold Br uS
 dsimp only
 rw[abU N l [32] (by omega) (by decide) (fun x K=>by have:=((h7 x).1 (hw x K)).2.2;omega),af,J,af]
 generalize dv c (fp l [32])=h at*
 have L:=Ha c g.dY i h (by omega) o id
 by_cases Q:h.length=0
 .have e:h=[]:=vj.1 Q
  subst e
  rw[aq (by rfl),ao]
  show some (0:Int)=some ((0*_:Nat):Int)
  rw[Nat.zero_mul]
  rfl
 .rw [ak (by omega),aj]
  unfold xl at*
  have bI:=t.at 0
  refine(dB _ h.length (fun n=>((c,s),h,jO c s.1 i h id n,(mM c s.1 i (h.take n) id:Int),h,(h.length:Int),(n:Int),q,i,l,o,u,y,id,d2,d3)) (fun n=>some ((mM c s.1 i h id*min (qD (jO c s.1 i h id h.length) o).length 3:Nat):Int)) (fun go=>?_) (fun go n A r=>?_) N 0 (bg _) (by omega)).trans rfl
  .dsimp only
   rw[ak (bp _),aj,cl,aa5 N I (by omega) _ o (by rw[xi];omega) (PE c g.dY i h id h.length),af,ab2,<-nr,k0 (min _ _),ai (ep (by omega) (by omega))]
  .dsimp only
   have S:=t.at n
   have T:idx h (0:Int)=some (du h 0):=by rw[<-l5 (show 0<h.length by omega)];exact aO (n:=0) (by omega)
   obtain⟨U,C⟩:=Hi c g.dY (i,(du h n).1) id
   have V:=Hc c g.dY i (h.take n) id
   have W:=xF c g.dY i (du h n).1 id
   rw[bX]at V
   simp only[aR,Pp c s.1 i h id A]at r
   rw[aq (by omega:(n:Int)<h.length),ao,aO A,af,l5 A,Iu N g c i (du h n).1 id,af]
   have X:(du h n).2-(du h 0).2-(n:Int)=h4 h n:=rfl
   have Y: -2000000<=h4 h n/\h4 h n<=2000000:=by unfold h4;omega
   have Z:xh c s.1 i h id n=lj (h4 h n) (eG c s.1 (i,(du h n).1) id):=rfl
   have aoz:=xi c s.1 i h id n
   have F:=Iw N g i (du h n).1 id
   rw[Px,Z]at r
   generalize eG c s.1 (i,(du h n).1) id=j at*
   generalize jO c s.1 i h id n=out at*
   generalize mM c s.1 i (h.take n) id=all at*
   generalize iU c s.1 i (du h n).1 id=alj at*
   refine(dB _ j.length (fun k=>((c,s),h,out,(all:Int),(n:Int),lj (h4 h n) (j.take k),h,(h.length:Int),(n:Int),j,(j.length:Int),(k:Int),q,i,l,o,u,y,id,d2,d3,(du h n).1,(du h n).2)) (fun k=>go ((c,s),h,out++ [lj (h4 h n) j],((all+alj:Nat):Int),h,(h.length:Int),(n:Int)+1,q,i,l,o,u,y,id,d2,d3)) (fun go2=>?_) (fun go2 k G p=>?_) N 0 (bg _) (by omega)).trans r
   .dsimp only
    rw[ak (bp _),aj,cl,ai (b5 (by rw[bS];omega) (by rw[bS];omega)),F,af,ai (ep (by omega) (by omega)),ai (aN (n:=n) (by omega)),Int.natCast_add]
   .dsimp only
    have K:=C _ (bA G)
    have H:=Hl (h4 h n) (j.take k)
    rw[bX]at H
    simp only[aR,Pl (h4 h n) j G]at p
    rw[aq (by omega:(k:Int)<j.length),ao,aO G,af,T,af,X,ai (by unfold fits;omega),ai (by unfold fits;omega),ai (by unfold fits;omega),ai (b5 (by rw[bS];omega) (by rw[bS];omega)),<-p,show decide ((0:Int)<=j[k]-h4 h n)=decide (h4 h n<=j[k])from by rw[decide_eq_decide];omega]
    simp only[ai (aN (n:=k) (by omega))]
    cases decide (h4 h n<=j[k])<;>rfl
def vY (n:Int):Bool:=gv n||(decide (n=42)||decide (n=63))
def n5 (s:List UInt8):Bool:=dL s.length (fun n=>vY (gb s n))&&(decide ((1:Int)<=s.length)&&decide ((s.length:Int)<=12))
theorem Pt (N:Nat) (s:List UInt8) (h:s.length<N) (i:N<=1099511627776):xj N s=some (n5 s):=by
 unfold xj
 refine j9 _ s.length (fun n=>(s,(s.length:Int),(n:Int))) (fun n=>vY (gb s n)) _ (fun go=>?_) (fun go n e=>?_) N h
 .dsimp only
  rw[ak (bp _),aj,hl,af]
 .dsimp only
  rw[aq (by omega:(n:Int)<s.length),ao,aO e]
  simp only[af,Bg,pS e]
  have g:fits ((n:Int)+1):=aN (by omega)
  simp only[ai g,aR]
  unfold vY
  cases gv (gb s n)<;>cases decide (gb s n=42)<;>cases decide (gb s n=63)<;>rfl
def gF {α:Type} (l:List α):Bool:=decide ((l.length:Int)=0)
def kk (k:Int) (f:List UInt8) (ws:List (List UInt8)) (a b:Int) (kids:List bf):Bool:=
 bif decide (k=1)then decide (f=[])&&(gF ws&&((decide (a=0)&&decide (b=0))&&gF kids))
 else bif decide (k=2)then(decide (a=0)&&decide (b=0)&&gF kids)&&(okW f&&(ws.all okW&&decide ((ws.length:Int)=1)))
 else bif decide (k=3)then gF kids&&(okW f&&(ws.all okW&&(decide ((2:Int)<=ws.length)&&decide ((ws.length:Int)<=4))&&(decide (b=0)&&(decide (0<=a)&&decide (a<=5)))))
 else bif decide (k=4)then gF kids&&(okW f&&(ws.all okW&&decide ((ws.length:Int)=1)&&(decide (b=0)&&(decide (1<=a)&&decide (a<=2)))))
 else bif decide (k=5)then(decide (a=0)&&decide (b=0)&&gF kids)&&(okW f&&(ws.all (fun w=>n5 w&& !okW w)&&decide ((ws.length:Int)=1)))
 else bif decide (k=6)then gF ws&&gF kids&&(okW f&&((decide (0<=a)&&decide (a<=999999999))&&(decide (a<=b)&&decide (b<=999999999))))
 else bif decide (k=7)||decide (k=8)then decide (f=[])&&(gF ws&&((decide (a=0)&&decide (b=0))&&(decide ((2:Int)<=kids.length)&&decide ((kids.length:Int)<=4))))
 else bif decide (k=9)then decide (f=[])&&(gF ws&&((decide (a=0)&&decide (b=0))&&decide ((kids.length:Int)=2)))
 else bif decide (k=10)then decide (f=[])&&(gF ws&&(decide ((kids.length:Int)=1)&&(decide (b=0)&&(decide (2<=a)&&decide (a<=9)))))
 else false
def gH :Nat->bf->Bool
 |0,_=>false
 |n+1,.mk k f ws a b kids=>kk k f ws a b kids&&kids.all (gH n)
def mq :Nat->bf->Prop
 |0,_=>True
 |n+1,q=>q.field.length<=1048576/\q.words.length<=1048576/\(∀w,w∈q.words->w.length<=1048576)/\q.kids.length<=1048576/\∀c,c∈q.kids->mq n c
theorem Hb {e ρ:Type} {J:e->Option ρ} {X:(e->Option ρ)->Option ρ} {w:Option ρ} (g0:e) (v:Option ρ) (h:J g0=v) (i:∀g:e->Option ρ,g g0=v->X g=w):meet J X=w:=i J h
abbrev DF :Type:=Bool×Int×Int×Int×Int×Bool×Int×Int
def x2 (k:Int):Option DF:=eJ (.int .i64) (.pair .bool (.pair (.int .i64) (.pair (.int .i64) (.pair (.int .i64) (.pair (.int .i64) (.pair .bool (.pair (.int .i64) (.int .i64)))))))) fP k
theorem abT {k:Int} (g:¬k=1) (h:¬k=2) (i:¬k=3) (j:¬k=4) (l:¬k=5) (o:¬k=6) (p:¬k=7) (r:¬k=8) (t:¬k=9) (e:¬k=10):x2 k=none:=by
 unfold x2 eJ fP
 simp only[List.find?,aH.hO,ak g,ak h,ak i,ak j,ak l,ak o,ak p,ak r,ak t,ak e,Option.map_none]
def hz (n lo hi:Int):Bool:=decide (lo<=n)&&decide (n<=hi)
def hG (k:Int) (w:List UInt8):Bool:=bif decide (k=5)then n5 w&& !okW w else okW w
def hf (s:DF) (k:Int) (f:List UInt8) (ws:List (List UInt8)) (a b:Int) (kids:List bf) (P:bf->Bool):Bool:=
 (s.1== !decide (f=[]))&&((!s.1||okW f)&&(hz ws.length s.2.1 s.2.2.1&&(hz kids.length s.2.2.2.2.2.2.1 s.2.2.2.2.2.2.2&&(hz a s.2.2.2.1 s.2.2.2.2.1&&((!s.2.2.2.2.2.1||hz b a 999999999)&&((s.2.2.2.2.2.1||decide (b=0))&&(ws.all (hG k)&&kids.all P)))))))
def Pg (s:Option DF) (k:Int) (f:List UInt8) (ws:List (List UInt8)) (a b:Int) (kids:List bf) (P:bf->Bool):Bool:=
 match s with
 |none=>false
 |some s=>hf s k f ws a b kids P
theorem abL (N:Nat) (F:bF<N) (u:N<=1099511627776) (n D:Nat) (O:n<=1000) (G:∀q,mq n q->nY N D q.kind q.field q.words q.lo q.hi q.kids (n:Int)=some (gH n q)) (k:Int) (f:List UInt8) (ws:List (List UInt8)) (a b:Int) (kids:List bf) (P:f.length<=1048576) (Q:ws.length<=1048576) (H:∀w,w∈ws->w.length<=1048576) (S:kids.length<=1048576) (I:∀c,c∈kids->mq n c):nY N (D+1) k f ws a b kids ((n+1:Nat):Int)=some (Pg (x2 k) k f ws a b kids (gH n)):=by
 have K:1048576<N:=F
 have e:((n+1:Nat):Int)-1=(n:Int):=by omega
 rw[nY]
 unfold x2
 generalize eJ (.int .i64) (.pair .bool (.pair (.int .i64) (.pair (.int .i64) (.pair (.int .i64) (.pair (.int .i64) (.pair .bool (.pair (.int .i64) (.int .i64)))))))) fP k=o
 cases o with
 |none=>rfl
 |some sh=>
  obtain⟨x,h,j,l,p,g,r,t⟩:=sh
  show _=some (hf _ k f ws a b kids (gH n))
  unfold hf
  dsimp only
  generalize y:(ws.all (hG k)&&kids.all (gH n))=v3
  generalize z:((!g||hz b a 999999999)&&((g||decide (b=0))&&v3))=v2
  refine Hb (((n+1:Nat):Int),k,f,ws,a,b,kids,x,h,j,l,p,g,r,t) (some (hz ws.length h j&&(hz kids.length r t&&(hz a l p&&v2)))) ?_ (fun J L=>?_)
  .dsimp only
   refine Hb (((n+1:Nat):Int),k,f,ws,a,b,kids,x,h,j,l,p,g,r,t) (some v2) ?_ (fun T A=>?_)
   .dsimp only
    refine Hb (((n+1:Nat):Int),k,f,ws,a,b,kids) (some v3) ?_ (fun U C=>?_)
    .dsimp only
     refine Eq.trans (nA _ ws (fun i=>(((n+1:Nat):Int),ws,(ws.length:Int),(i:Int),k,f,ws,a,b,kids)) (hG k) (some false) (some (kids.all (gH n))) (fun go=>?_) (fun go i hi=>?_) N (by omega)) ?_
     .dsimp only
      rw[ak (bp _),aj]
      refine Eq.trans (nA _ kids (fun i=>(((n+1:Nat):Int),kids,(kids.length:Int),(i:Int))) (gH n) (some false) (some true) (fun go=>?_) (fun go i hi=>?_) N (by omega)) ?_
      .dsimp only
       rw[ak (bp _),aj]
      .dsimp only
       have hm:=bA hi
       rw[aq (by omega:(i:Int)<kids.length),ao,aO hi,af,e,ai (by unfold fits;omega),G _ (I _ hm),af,ai (aN (n:=i) (by omega)),aR]
       cases gH n kids[i]<;>rfl
      .cases kids.all (gH n)<;>rfl
     .dsimp only
      have hm:=H _ (bA hi)
      have M:fits ((i:Int)+1):=aN (by omega)
      rw[aq (by omega:(i:Int)<ws.length),ao,aO hi,af]
      simp only[Pt N _ (by omega:ws[i].length<N) u,lA N _ (by omega:ws[i].length<N) u,af,ai M,aR]
      unfold hG
      cases decide (k=5)<;>cases n5 ws[i]<;>cases okW ws[i]<;>rfl
     .rw [<-y]
      cases ws.all (hG k)<;>rfl
    .simp only [hl,af,C]
     rw[<-z]
     unfold hz
     cases g<;>cases decide (a<=b)<;>cases decide (b<=999999999)<;>cases decide (b=0)<;>rfl
   .simp only [hl,af,A]
    unfold hz
    cases(decide (h<=(ws.length:Int))&&decide ((ws.length:Int)<=j))<;>cases(decide (r<=(kids.length:Int))&&decide ((kids.length:Int)<=t))<;>cases(decide (l<=a)&&decide (a<=p))<;>rfl
  .dsimp only [Option.isSome,Option.getD]
   rw[ak (by omega:¬((n+1:Nat):Int)<1)]
   simp only[lA N f (by omega) u,af,L]
   cases x<;>cases decide (f=[])<;>cases okW f<;>rfl
theorem nW {m v:Int}:hz m v v=decide (m=v):=by unfold hz;rw[np];simp only[bk,bz];omega
theorem aaN (k:Int) (f:List UInt8) (ws:List (List UInt8)) (a b:Int) (kids:List bf) (P:bf->Bool):Pg (x2 k) k f ws a b kids P=(kk k f ws a b kids&&kids.all P):=by
 have e:decide ((ws.length:Int)=0)=true->ws.all (hG k)=true:=fun h=>by
  have:=of_decide_eq_true h
  rw[vj.1 (by omega:ws.length=0)]
  rfl
 have r:decide ((kids.length:Int)=0)=true->kids.all P=true:=fun h=>by
  have:=of_decide_eq_true h
  rw[vj.1 (by omega:kids.length=0)]
  rfl
 have M:decide (f=[])=true->okW f=false:=fun h=>by rw[of_decide_eq_true h];rfl
 by_cases t:k=1
 .subst t
  show hf (false,0,0,0,0,false,0,0) 1 f ws a b kids P=_
  rw[show hG 1=okW from rfl]at e
  unfold hf kk gF
  rw[show hG 1=okW from rfl]
  dsimp only
  simp only[nW]
  unfold hz
  generalize ws.all okW=q at*
  generalize kids.all P=p at*
  generalize decide ((ws.length:Int)=0)=l at*
  generalize decide ((kids.length:Int)=0)=m at*
  generalize decide (a=0)=u at*
  generalize decide (b=0)=v at*
  generalize decide (f=[])=z at*
  generalize okW f=o at*
  cases q<;>cases p<;>cases l<;>cases m<;>cases u<;>cases v<;>cases z<;>cases o<;>first|rfl|simp_all
 by_cases y:k=2
 .subst y
  show hf (true,1,1,0,0,false,0,0) 2 f ws a b kids P=_
  clear e
  unfold hf kk gF
  rw[show hG 2=okW from rfl]
  dsimp only
  simp only[nW]
  unfold hz
  generalize ws.all okW=q at*
  generalize kids.all P=p at*
  generalize decide ((ws.length:Int)=1)=l at*
  generalize decide ((kids.length:Int)=0)=m at*
  generalize decide (a=0)=u at*
  generalize decide (b=0)=v at*
  generalize decide (f=[])=z at*
  generalize okW f=o at*
  cases q<;>cases p<;>cases l<;>cases m<;>cases u<;>cases v<;>cases z<;>cases o<;>first|rfl|simp_all
 by_cases A:k=3
 .subst A
  show hf (true,2,4,0,5,false,0,0) 3 f ws a b kids P=_
  clear e
  unfold hf kk gF
  rw[show hG 3=okW from rfl]
  dsimp only
  simp only[nW]
  unfold hz
  generalize ws.all okW=q at*
  generalize kids.all P=p at*
  generalize decide ((2:Int)<=ws.length)=K at*
  generalize decide ((ws.length:Int)<=4)=L at*
  generalize decide ((kids.length:Int)=0)=m at*
  generalize decide ((0:Int)<=a)=g at*
  generalize decide (a<=5)=i at*
  generalize decide (b=0)=v at*
  generalize decide (f=[])=z at*
  generalize okW f=o at*
  cases q<;>cases p<;>cases K<;>cases L<;>cases m<;>cases g<;>cases i<;>cases v<;>cases z<;>cases o<;>first|rfl|simp_all
 by_cases C:k=4
 .subst C
  show hf (true,1,1,1,2,false,0,0) 4 f ws a b kids P=_
  clear e
  unfold hf kk gF
  rw[show hG 4=okW from rfl]
  dsimp only
  simp only[nW]
  unfold hz
  generalize ws.all okW=q at*
  generalize kids.all P=p at*
  generalize decide ((ws.length:Int)=1)=l at*
  generalize decide ((kids.length:Int)=0)=m at*
  generalize decide ((1:Int)<=a)=g at*
  generalize decide (a<=2)=i at*
  generalize decide (b=0)=v at*
  generalize decide (f=[])=z at*
  generalize okW f=o at*
  cases q<;>cases p<;>cases l<;>cases m<;>cases g<;>cases i<;>cases v<;>cases z<;>cases o<;>first|rfl|simp_all
 by_cases F:k=5
 .subst F
  show hf (true,1,1,0,0,false,0,0) 5 f ws a b kids P=_
  clear e
  unfold hf kk gF
  rw[show hG 5=(fun w=>n5 w&& !okW w)from rfl]
  dsimp only
  simp only[nW]
  unfold hz
  generalize ws.all (fun w=>n5 w&& !okW w)=q at*
  generalize kids.all P=p at*
  generalize decide ((ws.length:Int)=1)=l at*
  generalize decide ((kids.length:Int)=0)=m at*
  generalize decide (a=0)=u at*
  generalize decide (b=0)=v at*
  generalize decide (f=[])=z at*
  generalize okW f=o at*
  cases q<;>cases p<;>cases l<;>cases m<;>cases u<;>cases v<;>cases z<;>cases o<;>first|rfl|simp_all
 by_cases G:k=6
 .subst G
  show hf (true,0,0,0,999999999,true,0,0) 6 f ws a b kids P=_
  rw[show hG 6=okW from rfl]at e
  unfold hf kk gF
  rw[show hG 6=okW from rfl]
  dsimp only
  simp only[nW]
  unfold hz
  generalize ws.all okW=q at*
  generalize kids.all P=p at*
  generalize decide ((ws.length:Int)=0)=l at*
  generalize decide ((kids.length:Int)=0)=m at*
  generalize decide ((0:Int)<=a)=g at*
  generalize decide (a<=999999999)=i at*
  generalize decide (a<=b)=v1 at*
  generalize decide (b<=999999999)=v2 at*
  generalize decide (f=[])=z at*
  generalize okW f=o at*
  cases q<;>cases p<;>cases l<;>cases m<;>cases g<;>cases i<;>cases v1<;>cases v2<;>cases z<;>cases o<;>first|rfl|simp_all
 by_cases H:k=7
 .subst H
  show hf (false,0,0,0,0,false,2,4) 7 f ws a b kids P=_
  rw[show hG 7=okW from rfl]at e
  clear r
  unfold hf kk gF
  rw[show hG 7=okW from rfl]
  dsimp only
  simp only[nW]
  unfold hz
  generalize ws.all okW=q at*
  generalize kids.all P=p at*
  generalize decide ((ws.length:Int)=0)=l at*
  generalize decide ((2:Int)<=kids.length)=m1 at*
  generalize decide ((kids.length:Int)<=4)=m2 at*
  generalize decide (a=0)=u at*
  generalize decide (b=0)=v at*
  generalize decide (f=[])=z at*
  generalize okW f=o at*
  cases q<;>cases p<;>cases l<;>cases m1<;>cases m2<;>cases u<;>cases v<;>cases z<;>cases o<;>first|rfl|simp_all
 by_cases I:k=8
 .subst I
  show hf (false,0,0,0,0,false,2,4) 8 f ws a b kids P=_
  rw[show hG 8=okW from rfl]at e
  clear r
  unfold hf kk gF
  rw[show hG 8=okW from rfl]
  dsimp only
  simp only[nW]
  unfold hz
  generalize ws.all okW=q at*
  generalize kids.all P=p at*
  generalize decide ((ws.length:Int)=0)=l at*
  generalize decide ((2:Int)<=kids.length)=m1 at*
  generalize decide ((kids.length:Int)<=4)=m2 at*
  generalize decide (a=0)=u at*
  generalize decide (b=0)=v at*
  generalize decide (f=[])=z at*
  generalize okW f=o at*
  cases q<;>cases p<;>cases l<;>cases m1<;>cases m2<;>cases u<;>cases v<;>cases z<;>cases o<;>first|rfl|simp_all
 by_cases J:k=9
 .subst J
  show hf (false,0,0,0,0,false,2,2) 9 f ws a b kids P=_
  rw[show hG 9=okW from rfl]at e
  clear r
  unfold hf kk gF
  rw[show hG 9=okW from rfl]
  dsimp only
  simp only[nW]
  unfold hz
  generalize ws.all okW=q at*
  generalize kids.all P=p at*
  generalize decide ((ws.length:Int)=0)=l at*
  generalize decide ((kids.length:Int)=2)=m at*
  generalize decide (a=0)=u at*
  generalize decide (b=0)=v at*
  generalize decide (f=[])=z at*
  generalize okW f=o at*
  cases q<;>cases p<;>cases l<;>cases m<;>cases u<;>cases v<;>cases z<;>cases o<;>first|rfl|simp_all
 by_cases j:k=10
 .subst j
  show hf (false,0,0,2,9,false,1,1) 10 f ws a b kids P=_
  rw[show hG 10=okW from rfl]at e
  clear r
  unfold hf kk gF
  rw[show hG 10=okW from rfl]
  dsimp only
  simp only[nW]
  unfold hz
  generalize ws.all okW=q at*
  generalize kids.all P=p at*
  generalize decide ((ws.length:Int)=0)=l at*
  generalize decide ((kids.length:Int)=1)=m at*
  generalize decide ((2:Int)<=a)=g at*
  generalize decide (a<=9)=i at*
  generalize decide (b=0)=v at*
  generalize decide (f=[])=z at*
  generalize okW f=o at*
  cases q<;>cases p<;>cases l<;>cases m<;>cases g<;>cases i<;>cases v<;>cases z<;>cases o<;>first|rfl|simp_all
 rw[abT t y A C F G H I J j]
 unfold kk
 simp only[ak t,ak y,ak A,ak C,ak F,ak G,ak H,ak I,ak J,ak j,Bool.or_false,aj,ov]
 rfl
theorem Qp (N:Nat) (e:bF<N) (g:N<=1099511627776):∀(n D:Nat),n<D->n<=1000->∀q,mq n q->nY N D q.kind q.field q.words q.lo q.hi q.kids (n:Int)=some (gH n q)
 |0,D+1,_,_,q,_=>by
  rw[nY]
  generalize eJ (.int .i64) (.pair .bool (.pair (.int .i64) (.pair (.int .i64) (.pair (.int .i64) (.pair (.int .i64) (.pair .bool (.pair (.int .i64) (.int .i64)))))))) fP q.kind=o
  cases o<;>rfl
 |n+1,D+1,u,y,q,h=>by
  have i:=Qp N e g n D (by omega) (by omega)
  obtain⟨k,f,ws,a,b,kids⟩:=q
  obtain⟨j,l,p,r,t⟩:=h
  rw[show nY N (D+1) (bf.mk k f ws a b kids).kind (bf.mk k f ws a b kids).field (bf.mk k f ws a b kids).words (bf.mk k f ws a b kids).lo (bf.mk k f ws a b kids).hi (bf.mk k f ws a b kids).kids ((n+1:Nat):Int)=nY N (D+1) k f ws a b kids ((n+1:Nat):Int)from rfl,abL N e g n D (by omega) i k f ws a b kids j l p r t,aaN,gH]
theorem Hf {α:Type} (c:α) (p:List α):cut (c::p) 1 (((c::p).length:Nat):Int)=some p:=by
 unfold cut
 rw[ai ⟨by omega,by rw[aZ];omega,iF _⟩,er,cl]
 rfl
theorem BA (N:Nat):∀(D:Nat) (p s:List UInt8),p.length+s.length<D->∃b,o3 N D p s=some b/\o2 N D p s=some b
 |D+1,[],s,_=>⟨decide (s=[]),rfl,rfl⟩
 |D+1,c::p,s,h=>by
  have j:idx (c::p) 0=some c:=rfl
  rw[o3,o2]
  simp only[ak (List.cons_ne_nil c p),aj,j,af,Hf]
  have k:p.length+s.length<D:=by rw[aZ]at h;omega
  by_cases i:(c.toNat:Int)=42
  .simp only [aq i,ao]
   obtain⟨b,e,g⟩:=BA N D p s k
   rw[e,g]
   cases b with
   |true=>exact⟨true,rfl,rfl⟩
   |false=>
    match s,h with
    | [],_=>exact⟨false,rfl,rfl⟩
    |d::s,h=>
     obtain⟨ba,l,o⟩:=BA N D (c::p) s (by simp only[aZ]at h⊢;omega)
     simp only[af,aj,ak (List.cons_ne_nil d s),dt,ao,Hf,l,o]
     exact⟨ba,rfl,rfl⟩
  .simp only [ak i,aj]
   match s,h with
   | [],_=>exact⟨false,rfl,rfl⟩
   |d::s,h=>
    obtain⟨b,e,g⟩:=BA N D p s (by simp only[aZ]at h⊢;omega)
    have r:idx (d::s) 0=some d:=rfl
    simp only[ak (List.cons_ne_nil d s),aj,dt,ao,af,Hf,r,e,g]
    cases decide ((c.toNat:Int)=63)with
    |true=>exact⟨b,rfl,rfl⟩
    |false=>
     cases decide ((c.toNat:Int)=(d.toNat:Int))with
     |true=>exact⟨b,rfl,rfl⟩
     |false=>exact⟨false,rfl,rfl⟩
theorem RL (N:Nat) (s:cB) (field:List UInt8) (t:s.2.length<N) (p:s.2.length<=1000000):rG N s field=some ((iw field s.2).map fun e=>e.2.1):=by
 refine Def.get ?_
 unfold rG
 refine Def.upto s.2.length (fun n g=>g=(field,(iw field (s.2.take n)).map (fun e=>e.2.1),s.2,(s.2.length:Int),(n:Int))) (fun go g j=>?_) (fun go n g k j i=>?_) N 0 _ (bg _) rfl (by omega)
 .subst j
  dsimp only
  rw[ak (bp _),aj,cl]
  exact Def.ret rfl
 .subst j
  dsimp only
  have r:(iw field (s.2.take n)).length<=n:=dK (hK _ _) (by rw[bX];omega)
  have l:=aN (n:=n) (by omega)
  rw[aq (by omega:(n:Int)<s.2.length),ao,aO k,af]
  have o:iw field (s.2.take (n+1))=iw field (s.2.take n)++(if s.2[n].1=field then [s.2[n]]else []):=by
   unfold iw
   rw[ec k,kV]
   by_cases h:s.2[n].1=field
   .simp [h]
   .simp [h]
  by_cases h:s.2[n].1=field
  .rw [aq h,ao,ai (b5 (by rw[dX];simp only[aZ,bE];omega) (by rw[dX];simp only[aZ,bE];omega)),ai l]
   refine i _ ?_
   rw[o,ai h,iD,aR]
   rfl
  .rw [ak h,aj,ai l]
   refine i _ ?_
   rw[o,aA h,e5,aR]
def mf (s:cB) (field:List UInt8):List (List UInt8):=(iw field s.2).map fun e=>e.2.1
theorem Sv (N:Nat) {c:aL} {s:cB} (g:ff N c s) (field:List UInt8):(mf s field).length<=7680/\∀t,t∈mf s field->okW t=true:=by
 refine⟨?_,fun t h=>?_⟩
 .unfold mf
  rw[dX]
  exact dK (hK _ _) g.small.1
 .obtain ⟨e,he,rfl⟩:=cd.1 h
  have:=(hp.1 he).1
  rw[g.nE]at this
  exact Ex c (iy g.ok).1 g.dY e this
theorem EF (a b:List UInt8):0<=jH a b:=((vS a b a.length).at b.length).1
def o8 (c:aL) (ad:List aC) (field w:List UInt8) (id:Int) (t:List UInt8):Int:=((iU c ad field t id:Int)*(3-jH t w)).tdiv 3
def h5 (c:aL) (ad:List aC) (field w:List UInt8) (g id:Int) (e:Int) (t:List UInt8):Int:=bif decide (jH t w<=g)then(if e<o8 c ad field w id t then o8 c ad field w id t else e)else e
def uE (c:aL) (s:cB) (field w:List UInt8) (e id:Int):Int:=(mf s field).foldl (h5 c s.1 field w e id) 0
theorem H2 (c:aL) {ad:List aC} (i:eZ ad) (field w:List UInt8) (e id:Int) (j:e<=2) (t:List UInt8) (h:jH t w<=e):0<=(iU c ad field t id:Int)*(3-jH t w)/\(iU c ad field t id:Int)*(3-jH t w)<=26400000/\0<=o8 c ad field w id t/\o8 c ad field w id t<=8800000:=by
 have k:=xF c i field t id
 have l:=EF t w
 have g:0<=(iU c ad field t id:Int)*(3-jH t w):=Int.mul_nonneg (by omega) (by omega)
 have o:(iU c ad field t id:Int)*(3-jH t w)<=8800000*3:=Int.mul_le_mul (by omega) (by omega) (by omega) (by omega)
 refine⟨g,by omega,?_,?_⟩
 .unfold o8
  rw[Dx g]
  omega
 .unfold o8
  rw[Dx g]
  omega
theorem abG (c:aL) {ad:List aC} (i:eZ ad) (field w:List UInt8) (e id:Int) (j:e<=2) (g:Int) (k:0<=g/\g<=8800000) (t:List UInt8):0<=h5 c ad field w e id g t/\h5 c ad field w e id g t<=8800000:=by
 unfold h5
 by_cases h:jH t w<=e
 .have:=H2 c i field w e id j t h
  rw[aq h,ao]
  split<;>omega
 .rw [ak h,aj]
  exact k
theorem B4 (c:aL) {ad:List aC} (i:eZ ad) (field w:List UInt8) (g id:Int) (j:g<=2):∀(l:List (List UInt8)) (e:Int),0<=e/\e<=8800000->0<=l.foldl (h5 c ad field w g id) e/\l.foldl (h5 c ad field w g id) e<=8800000
 | [],_,h=>h
 |t::l,e,h=>B4 c i field w g id j l _ (abG c i field w g id j e h t)
theorem Hk {β:Type} (field:List UInt8) (f:β->List UInt8->β):∀(es:List cK) (b:β),(es.foldl (fun a e=>bif decide (e.1=field)then f a e.2.1 else a) b)=((iw field es).map fun e=>e.2.1).foldl f b
 | [],_=>rfl
 |e::l,b=>by
  have g:=Hk field f l
  unfold iw at g⊢
  rw[eR,g]
  cases h:decide (e.1=field)
  .rw [List.filter_cons_of_neg (p:=fun e:cK=>decide (e.1=field)) (by rw[h];decide),aj]
  .rw [List.filter_cons_of_pos (p:=fun e:cK=>decide (e.1=field)) h,ao]
   rfl
theorem ajS (N:Nat) {c:aL} {s:cB} (g:ff N c s) (q:Int) (h w:List UInt8) (j t:Int) (u:List bf) (id:Int) (hw:okW w=true) (y:j<=2):G6 N s.1 s.2 q h [w] j t u id=some (uE c s h w j id):=by
 have H:=g.m
 have I:=g.top
 have z:=g.small.1
 have A:=((h7 w).1 hw).2.2
 have key:uE c s h w j id=s.2.foldl (fun a e=>bif decide (e.1=h)then h5 c s.1 h w j id a e.2.1 else a) 0:=(Hk h (h5 c s.1 h w j id) s.2 0).symm
 have p:∀n,0<=(s.2.take n).foldl (fun a e=>bif decide (e.1=h)then h5 c s.1 h w j id a e.2.1 else a) 0/\(s.2.take n).foldl (fun a e=>bif decide (e.1=h)then h5 c s.1 h w j id a e.2.1 else a) 0<=8800000:=fun n=>by
  rw[Hk]
  exact B4 c g.dY h w j id y _ 0 (by omega)
 unfold G6
 rw[key]
 refine(dB _ s.2.length (fun n=>(id,(s.2.take n).foldl (fun a e=>bif decide (e.1=h)then h5 c s.1 h w j id a e.2.1 else a) 0,(n:Int),s.1,s.2,q,h,[w],j,t,u)) (fun n=>some (s.2.foldl (fun a e=>bif decide (e.1=h)then h5 c s.1 h w j id a e.2.1 else a) 0)) (fun go=>?_) (fun go n r i=>?_) N 0 (bg _) (by omega)).trans rfl
 .dsimp only
  rw[ak (bp _),aj,cl]
 .dsimp only
  have J:=p n
  have C:fits ((n:Int)+1):=aN (by omega)
  have hm:s.2[n]∈eo c s.1:=by rw[<-g.nE];exact bA r
  have F:=((h7 _).1 (Ex c (iy g.ok).1 g.dY _ hm)).2.2
  have G:idx [w] (0:Int)=some w:=rfl
  simp only[aR,nJ _ _ _ _ r]at i
  generalize(s.2.take n).foldl (fun a e=>bif decide (e.1=h)then h5 c s.1 h w j id a e.2.1 else a) 0=o at*
  rw[aq (by omega:(n:Int)<s.2.length),ao,aO r,af,G,af,ajY N s.2[n].2.1 w (by omega) (by omega) (by omega),af]
  simp only[ai C]
  by_cases he:s.2[n].1=h
  .rw [aq he,ao]at i
   rw[aq he,bn,aj]
   unfold h5 at i
   by_cases k:jH s.2[n].2.1 w<=j
   .have K:=H2 c g.dY h w j id y _ k
    have L:=EF s.2[n].2.1 w
    rw[aq k,ao]at i
    rw[ak (by omega),aj,Hz N g h s.2[n].2.1 id,af,ai (by unfold fits;omega),ai (ep (by omega) (by omega)),ai (by decide)]
    have e:((iU c s.1 h s.2[n].2.1 id:Int)*(3-jH s.2[n].2.1 w)).tdiv 3=o8 c s.1 h w id s.2[n].2.1:=rfl
    rw[e,ai (ep (by omega) (by omega))]
    by_cases l:o<o8 c s.1 h w id s.2[n].2.1
    .rw [ai l]at i
     rw[aq l,ao]
     exact i
    .rw [aA l]at i
     rw[ak l,aj]
     exact i
   .rw [ak k,aj]at i
    rw[aq (by omega),ao]
    exact i
  .rw [ak he,aj]at i
   rw[ak he,dt,ao]
   exact i
def rp (N:Nat) (p t:List UInt8):Bool:=(o2 N N p t).getD false
theorem Pu (N:Nat) (p t:List UInt8) (h:p.length+t.length<N):o2 N N p t=some (rp N p t)/\o3 N N p t=some (rp N p t):=by
 obtain⟨b,e,g⟩:=BA N N p t h
 unfold rp
 rw[g]
 exact⟨rfl,e⟩
theorem V7 (N:Nat) (e:N<=1099511627776) (p t:List UInt8) (h:p.length+t.length<N) (g:n5 p=true) (i:okW t=true):Bn N p t=some (rp N p t):=by
 unfold Bn
 rw[Pt N p (by omega) e,af,g,ao,lA N t (by omega) e,af,i,ao,(Pu N p t h).2,af]
def rv (N:Nat) (c:aL) (ad:List aC) (field p:List UInt8) (id:Int) (t:List UInt8):Bool:=rp N p t&&decide ((0:Int)<(eG c ad (field,t) id).length)
def ru (N:Nat) (c:aL) (s:cB) (field p:List UInt8) (id:Int):Bool:=(mf s field).any (rv N c s.1 field p id)
theorem Nk (field:List UInt8) (f:List UInt8->Bool):∀es:List cK,es.any (fun e=>decide (e.1=field)&&f e.2.1)=((iw field es).map fun e=>e.2.1).any f
 | []=>rfl
 |e::l=>by
  have g:=Nk field f l
  unfold iw at g⊢
  rw[List.any_cons,g]
  cases h:decide (e.1=field)
  .rw [List.filter_cons_of_neg (p:=fun e:cK=>decide (e.1=field)) (by rw[h];decide),ov,ig]
  .rw [List.filter_cons_of_pos (p:=fun e:cK=>decide (e.1=field)) h,ck]
   rfl
theorem DR {α i ρ:Type} (F:(i->Option ρ)->i->Option ρ) (xs:List α) (st:Nat->i) (p:α->Bool) (yes no:Option ρ) (g:∀go,F go (st xs.length)=no)
  (e:∀go n (j:n<xs.length),F go (st n)=bif p xs[n]then yes else go (st (n+1))) (N:Nat) (h:xs.length<N):iter F N (st 0)=bif xs.any p then yes else no:=by
 refine(dB F xs.length st (fun n=>bif(xs.drop n).any p then yes else no) (fun go=>by rw[g,lE];rfl) (fun go n j k=>?_) N 0 (bg _) (by omega)).trans (by rw[qT])
 rw[e go n j,k,fC j,List.any_cons]
 cases p xs[n]<;>rfl
theorem ajR (N:Nat) {c:aL} {s:cB} (g:ff N c s) (q:Int) (h w:List UInt8) (i j:Int) (k:List bf) (id:Int) (hw:w.length<=12):Hn N s.1 s.2 q h [w] i j k id=some (ru N c s h w id):=by
 have u:=g.m
 have y:=g.top
 have o:=g.small.1
 unfold Hn ru mf
 rw[<-Nk]
 refine(DR _ s.2 (fun n=>(id,(n:Int),s.1,s.2,q,h,[w],i,j,k)) (fun e=>decide (e.1=h)&&rv N c s.1 h w id e.2.1) (some true) (some false) (fun go=>?_) (fun go n l=>?_) N (by omega)).trans (by cases s.2.any (fun e=>decide (e.1=h)&&rv N c s.1 h w id e.2.1)<;>rfl)
 .dsimp only
  rw[ak (bp _),aj]
 .dsimp only
  have p:fits ((n:Int)+1):=aN (by omega)
  have hm:s.2[n]∈eo c s.1:=by rw[<-g.nE];exact bA l
  have r:=((h7 _).1 (Ex c (iy g.ok).1 g.dY _ hm)).2.2
  have t:idx [w] (0:Int)=some w:=rfl
  unfold rv
  rw[aq (by omega:(n:Int)<s.2.length),ao,aO l,af,t,af,(Pu N w s.2[n].2.1 (by omega)).1,af,Hx N g h s.2[n].2.1 id,af,aR]
  simp only[ai p]
  cases decide (s.2[n].1=h)<;>cases rp N w s.2[n].2.1<;>cases decide ((0:Int)<(eG c s.1 (h,s.2[n].2.1) id).length)<;>rfl
theorem Hy (N:Nat) {c:aL} {s:cB} (g:ff N c s) (id:Int):uq N s.1 s.2 id=some ((e2 s.1 id).getD (0,[],[])):=by
 have i:=g.m
 have j:=g.top
 have e:=g.dY.cS
 unfold uq e2
 refine sv _ s.1 (fun n=>(id,(n:Int),s.1,s.2,(0:Int))) (fun d=>decide (d.1=id)) (fun d=>d) (0,[],[]) _ _ rfl (by cases s.1.find? fun d=>decide (d.1=id)<;>rfl) (fun go=>?_) (fun go n h=>?_) N (by omega)
 .dsimp only
  rw[ak (bp _),aj]
 .dsimp only
  rw[aq (by omega:(n:Int)<s.1.length),ao,aO h,af,af,ai (aN (n:=n) (by omega)),aR]
def ko (N D:Nat) (c:aL) (s:cB) (d:aC) (q:bf):Int:=(kQ N D c.1 c.2 s.1 s.2 q.kind q.field q.words q.lo q.hi q.kids d.1).getD 0
def oI :Nat->Int
 |0=>4224000000
 |k+1=>9*oI k
theorem DY :∀k:Nat,k<=4->4224000000<=oI k/\oI k<=30000000000000
 |0,_=>by decide
 |1,_=>by decide
 |2,_=>by decide
 |3,_=>by decide
 |4,_=>by decide
 |k+5,h=>by omega
structure ku (N D:Nat) (c:aL) (s:cB) (d:aC) (B:Int) (kind:Int) (f:List UInt8) (ws:List (List UInt8)) (a b:Int) (kids:List bf) (v:Int):Prop where
 ref:kQ N D c.1 c.2 s.1 s.2 kind f ws a b kids d.1=some v
 ts:kg N D (c,s) kind f ws a b kids d.1 d.2.1 d.2.2=some v
 low:0<=v
 top:v<=B
theorem Ub (N D:Nat) {c:aL} {s:cB} (d:aC) (f:List UInt8) (ws:List (List UInt8)) (a b:Int) (kids:List bf):ku N (D+1) c s d 4224000000 1 f ws a b kids 100:=⟨rfl,rfl,by decide,by decide⟩
theorem Ui (N D:Nat) {c:aL} {s:cB} (g:ff N c s) (d:aC) (f w:List UInt8) (a b:Int) (kids:List bf) (hw:okW w=true):ku N (D+1) c s d 4224000000 2 f [w] a b kids (iU c s.1 f (Df c w) d.1):=by
 have e:=g.m
 have i:=g.top
 have j:=xF c g.dY f (Df c w) d.1
 have h:idx [w] (0:Int)=some w:=rfl
 refine⟨?_,?_,by omega,by omega⟩
 .rw [kQ,ak (by decide),aj,aq rfl,ao,h,af,ama N c w e (by omega) g.cV (iy g.ok).1 hw,af,Hz N g,af]
 .rw [kg,ak (by decide),aj,aq rfl,ao,h,af]
  dsimp only
  rw[Yq N c w e (by omega) g.cV (iy g.ok).1 hw,af,Iw N g,af]
theorem Ug (N D:Nat) {c:aL} {s:cB} (g:ff N c s) (d:aC) (f:List UInt8) (ws:List (List UInt8)) (a b:Int) (kids:List bf) (hw:∀w,w∈ws->okW w=true) (e:ws.length<=4):ku N (D+1) c s d 4224000000 3 f ws a b kids (uS c s.1 f ws a d.1):=by
 have h:=alb c g.dY f ws hw e a d.1
 refine⟨?_,?_,by omega,by omega⟩
 .rw [kQ,ak (by decide),aj,ak (by decide),aj,aq rfl,ao,ajT N g 3 f ws a b kids d.1 hw e,af]
 .rw [kg,ak (by decide),aj,ak (by decide),aj,aq rfl,ao,Yp N g 3 f ws a b kids d.1 d.2.1 d.2.2 hw e,af]
theorem Uf (N D:Nat) {c:aL} {s:cB} (g:ff N c s) (d:aC) (f w:List UInt8) (a b:Int) (kids:List bf) (hw:okW w=true) (k:a<=2):ku N (D+1) c s d 4224000000 4 f [w] a b kids (uE c s f w a d.1):=by
 have H:=g.m
 have I:=g.top
 have z:0<=uE c s f w a d.1/\uE c s f w a d.1<=8800000:=B4 c g.dY f w a d.1 k _ 0 (by omega)
 obtain⟨J,l⟩:=Sv N g f
 have A:=((h7 w).1 hw).2.2
 have C:idx [w] (0:Int)=some w:=rfl
 have o:rG N s f=some (mf s f):=RL N s f (by have:=g.small.1;omega) (by have:=g.small.1;omega)
 refine⟨?_,?_,z.1,by omega⟩
 .rw [kQ,ak (by decide),aj,ak (by decide),aj,ak (by decide),aj,aq rfl,ao,ajS N g 4 f w a b kids d.1 hw k,af]
 .rw [kg,ak (by decide),aj,ak (by decide),aj,ak (by decide),aj,aq rfl,ao]
  dsimp only
  rw[o,af]
  have p:∀n,0<=((mf s f).take n).foldl (h5 c s.1 f w a d.1) 0/\((mf s f).take n).foldl (h5 c s.1 f w a d.1) 0<=8800000:=fun n=>B4 c g.dY f w a d.1 k _ 0 (by omega)
  unfold uE
  generalize mf s f=i at*
  refine(dB _ i.length (fun n=>((c,s),(i.take n).foldl (h5 c s.1 f w a d.1) 0,i,(i.length:Int),(n:Int),4,f,[w],a,b,kids,d.1,d.2.1,d.2.2)) (fun n=>some (i.foldl (h5 c s.1 f w a d.1) 0)) (fun go=>?_) (fun go n r j=>?_) N 0 (bg _) (by omega)).trans rfl
  .dsimp only
   rw[ak (bp _),aj,cl]
  .dsimp only
   have K:=p n
   have F:fits ((n:Int)+1):=aN (by omega)
   have u:=l _ (bA r)
   have G:=((h7 _).1 u).2.2
   have t:=EF i[n] w
   simp only[aR,nJ _ _ _ _ r]at j
   generalize(i.take n).foldl (h5 c s.1 f w a d.1) 0=y at*
   rw[aq (by omega:(n:Int)<i.length),ao,aO r,af,C,af,akJ N i[n] w (by omega) (by omega) (by omega) (by omega),u,hw,fX,ao,af,hl,af,aq t,ck]
   simp only[ai F]
   unfold h5 at j
   by_cases h:jH i[n] w<=a
   .have L:=H2 c g.dY f w a d.1 k _ h
    rw[aq h,ao]at j
    rw[aq h,ao,Iw N g f i[n] d.1,af,ai (by unfold fits;omega),ai (ep (by omega) (by omega)),ai (by decide)]
    have e:((iU c s.1 f i[n] d.1:Int)*(3-jH i[n] w)).tdiv 3=o8 c s.1 f w d.1 i[n]:=rfl
    rw[e,ai (ep (by omega) (by omega))]
    exact j
   .rw [ak h,aj]at j
    rw[ak h,aj]
    exact j
theorem Uc (N D:Nat) {c:aL} {s:cB} (g:ff N c s) (d:aC) (f w:List UInt8) (a b:Int) (kids:List bf) (hw:n5 w=true) (h:w.length<=12):ku N (D+1) c s d 4224000000 5 f [w] a b kids (bif ru N c s f w d.1 then 100 else 0):=by
 have t:=g.m
 have u:=g.top
 obtain⟨y,i⟩:=Sv N g f
 have o:idx [w] (0:Int)=some w:=rfl
 have j:rG N s f=some (mf s f):=RL N s f (by have:=g.small.1;omega) (by have:=g.small.1;omega)
 refine⟨?_,?_,by cases ru N c s f w d.1<;>decide,by cases ru N c s f w d.1<;>decide⟩
 .rw [kQ,ak (by decide),aj,ak (by decide),aj,ak (by decide),aj,ak (by decide),aj,aq rfl,ao,ajR N g 5 f w a b kids d.1 h,af]
  cases ru N c s f w d.1<;>rfl
 .rw [kg,ak (by decide),aj,ak (by decide),aj,ak (by decide),aj,ak (by decide),aj,aq rfl,ao]
  dsimp only
  rw[j,af]
  unfold ru
  generalize mf s f=e at*
  refine(DR _ e (fun n=>((c,s),e,(e.length:Int),(n:Int),5,f,[w],a,b,kids,d.1,d.2.1,d.2.2)) (rv N c s.1 f w d.1) (some 100) (some 0) (fun go=>?_) (fun go n k=>?_) N (by omega)).trans (by cases e.any (rv N c s.1 f w d.1)<;>rfl)
  .dsimp only
   rw[ak (bp _),aj]
  .dsimp only
   have p:fits ((n:Int)+1):=aN (by omega)
   have l:=i _ (bA k)
   have r:=((h7 _).1 l).2.2
   unfold rv
   rw[aq (by omega:(n:Int)<e.length),ao,aO k,af,o,af,V7 N (by omega) w e[n] (by omega) hw l,af,Iu N g c f e[n] d.1,af,aR]
   simp only[ai p]
   cases rp N w e[n]<;>cases decide ((0:Int)<(eG c s.1 (f,e[n]) d.1).length)<;>rfl
def Rd (d:aC) (f:List UInt8) (a b:Int):Int:=bif decide (a<=jj d.2.2 f)&&decide (jj d.2.2 f<=b)then 100 else 0
theorem Uh (N D:Nat) {c:aL} {s:cB} (g:ff N c s) (d:aC) (e:e2 s.1 d.1=some d) (f:List UInt8) (ws:List (List UInt8)) (a b:Int) (kids:List bf):ku N (D+1) c s d 4224000000 6 f ws a b kids (Rd d f a b):=by
 have h:=g.m
 have j:=g.top
 have hm:=oq e
 have i:=n4 (uL g.ok) d hm
 have k:=(Ib i).2.1
 unfold Rd
 refine⟨?_,?_,by cases decide (a<=jj d.2.2 f)&&decide (jj d.2.2 f<=b)<;>decide,by cases decide (a<=jj d.2.2 f)&&decide (jj d.2.2 f<=b)<;>decide⟩
 .rw [kQ,ak (by decide),aj,ak (by decide),aj,ak (by decide),aj,ak (by decide),aj,ak (by decide),aj,aq rfl,ao,Hy N g d.1,e,mi,af,ajZ N h (by omega) d.1 d.2.1 d.2.2 f (by omega),af,nZ,af]
  cases decide (a<=jj d.2.2 f)&&decide (jj d.2.2 f<=b)<;>rfl
 .rw [kg,ak (by decide),aj,ak (by decide),aj,ak (by decide),aj,ak (by decide),aj,ak (by decide),aj,aq rfl,ao,U9 N h (by omega) d.1 d.2.1 d.2.2 f (g.gu d hm) i (by omega),af,hl,af]
  cases decide (a<=jj d.2.2 f)&&decide (jj d.2.2 f<=b)<;>rfl
abbrev qX (N D:Nat) (c:aL) (s:cB) (d:aC) (B:Int) (q:bf) (v:Int):Prop:=ku N D c s d B q.kind q.field q.words q.lo q.hi q.kids v
theorem ku.mono {N D:Nat} {c:aL} {s:cB} {d:aC} {B e:Int} {kind:Int} {f:List UInt8} {ws:List (List UInt8)} {a b:Int} {kids:List bf} {v:Int} (h:ku N D c s d B kind f ws a b kids v) (g:B<=e):ku N D c s d e kind f ws a b kids v:=⟨h.ref,h.ts,h.low,Int.le_trans h.top g⟩
theorem Uj (N D:Nat) {c:aL} {s:cB} (d:aC) (f:List UInt8) (ws:List (List UInt8)) (a b:Int) (x:bf) (B v:Int) (o:B<=30000000000000) (h:qX N D c s d B x v) (p:2<=a/\a<=9):ku N (D+1) c s d (9*B) 10 f ws a b [x] (a*v):=by
 have e:=h.low
 have j:=h.top
 have k:0<=a*v:=Int.mul_nonneg (by omega) e
 have l:a*v<=9*B:=Int.mul_le_mul (by omega) j e (by omega)
 have g:fits (a*v):=ep (by omega) (by omega)
 have i:idx [x] (0:Int)=some x:=rfl
 refine⟨?_,?_,k,l⟩
 .rw [kQ,ak (by decide),aj,ak (by decide),aj,ak (by decide),aj,ak (by decide),aj,ak (by decide),aj,ak (by decide),aj,aq rfl,ao,i,af,h.ref,af,ai g]
 .rw [kg,ak (by decide),aj,ak (by decide),aj,ak (by decide),aj,ak (by decide),aj,ak (by decide),aj,ak (by decide),aj,aq rfl,ao,i,af,h.ts,af,ai g]
theorem Ud (N D:Nat) {c:aL} {s:cB} (d:aC) (f:List UInt8) (ws:List (List UInt8)) (a b:Int) (x y:bf) (B v w:Int) (h:qX N D c s d B x v) (hy:qX N D c s d B y w):ku N (D+1) c s d B 9 f ws a b [x,y] (bif decide (0<w)then 0 else v):=by
 have e:idx [x,y] (0:Int)=some x:=rfl
 have g:idx [x,y] (1:Int)=some y:=rfl
 have i:=h.low
 have j:=h.top
 refine⟨?_,?_,?_,?_⟩
 .rw [kQ,ak (by decide),aj,ak (by decide),aj,ak (by decide),aj,ak (by decide),aj,ak (by decide),aj,ak (by decide),aj,ak (by decide),aj,aq rfl,ao,g,af,hy.ref,af,e,af,h.ref,af]
  cases decide (0<w)<;>rfl
 .rw [kg,ak (by decide),aj,ak (by decide),aj,ak (by decide),aj,ak (by decide),aj,ak (by decide),aj,ak (by decide),aj,ak (by decide),aj,aq rfl,ao,g,af,hy.ts,af,e,af,h.ts,af]
  cases decide (0<w)<;>rfl
 .cases decide (0<w)
  .exact i
  .exact iF _
 .cases decide (0<w)
  .exact j
  .exact Int.le_trans i j
def jW (V:bf->Int) (l:List bf):Int:=l.foldl (fun a x=>a+V x) 0
theorem R9 (V:bf->Int) (B:Int) (l:List bf) (h:∀x,x∈l->0<=V x/\V x<=B):∀n,n<=l.length->0<=jW V (l.take n)/\jW V (l.take n)<=n*B
 |0,_=>⟨iF _,by show(0:Int)<=((0:Nat):Int)*B;rw[show((0:Nat):Int)=0 from rfl,Int.zero_mul];exact iF _⟩
 |n+1,e=>by
  have g:=R9 V B l h n (by omega)
  have i:=h _ (bA (show n<l.length from e))
  unfold jW at g⊢
  rw[nJ _ _ _ _ (show n<l.length from e),aR,Int.add_mul,Int.one_mul]
  exact⟨by omega,by omega⟩
def uA (V:bf->Int) (kind:Int) (kids:List bf):Int:=bif kids.any (fun x=>decide (V x=0)&&decide (kind=7))then 0 else jW V kids
theorem Ue (N D:Nat) (J:1048576<N) {c:aL} {s:cB} (d:aC) (kind:Int) (K:kind=7\/kind=8) (f:List UInt8) (ws:List (List UInt8)) (a b:Int) (kids:List bf) (z:kids.length<=4) (V:bf->Int) (B:Int) (A:0<=B) (C:B<=30000000000000) (h:∀x,x∈kids->qX N D c s d B x (V x)):ku N (D+1) c s d (9*B) kind f ws a b kids (uA V kind kids):=by
 have G:∀x,x∈kids->0<=V x/\V x<=B:=fun x g=>⟨(h x g).low,(h x g).top⟩
 have k:=R9 V B kids G
 have j:=k kids.length (bC _)
 rw[cl]at j
 have hmul:∀n:Nat,n<=4->(n:Int)*B<=4*B:=fun n i=>Int.mul_le_mul_of_nonneg_right (by omega) A
 have L:=hmul kids.length z
 have y:0<=uA V kind kids/\uA V kind kids<=9*B:=by
  unfold uA
  cases kids.any (fun x=>decide (V x=0)&&decide (kind=7))
  .exact ⟨j.1,by rw[aj];omega⟩
  .exact ⟨iF _,by rw[ao];omega⟩
 have key:∀ {l:Type} (F:(l->Option Int)->l->Option Int) (st:Nat->l),(∀go,F go (st kids.length)=some (jW V kids))->(∀go n (i:n<kids.length),F go (st n)=bif decide (V kids[n]=0)&&decide (kind=7)then some 0 else go (st (n+1)))->iter F N (st 0)=some (uA V kind kids):=fun F st H I=>by
  refine(DR F kids st (fun x=>decide (V x=0)&&decide (kind=7)) (some 0) (some (jW V kids)) H I N (by omega)).trans ?_
  unfold uA
  cases kids.any (fun x=>decide (V x=0)&&decide (kind=7))<;>rfl
 refine⟨?_,?_,y.1,y.2⟩
 .rw [kQ,ak (by omega),aj,ak (by omega),aj,ak (by omega),aj,ak (by omega),aj,ak (by omega),aj,ak (by omega),aj,ak (by omega),aj,ak (by omega),aj]
  refine key _ (fun n=>(d.1,jW V (kids.take n),(n:Int),c.1,c.2,s.1,s.2,kind,f,ws,a,b,kids)) (fun go=>?_) (fun go n i=>?_)
  .dsimp only
   rw[ak (bp _),aj,cl]
  .dsimp only
   have g:=h _ (bA i)
   have o:=g.low
   have p:=g.top
   have r:=k n (by omega)
   have u:=hmul n (by omega)
   have e:jW V (kids.take (n+1))=jW V (kids.take n)+V kids[n]:=by unfold jW;rw[nJ _ _ _ _ i]
   rw[aq (by omega:(n:Int)<kids.length),ao,aO i,af,g.ref,af,e,aR]
   generalize jW V (kids.take n)=t at*
   generalize V kids[n]=v at*
   simp only[ai (show fits (t+v)from ep (by omega) (by omega)),ai (aN (n:=n) (by omega))]
   cases decide (v=0)<;>cases decide (kind=7)<;>rfl
 .rw [kg,ak (by omega),aj,ak (by omega),aj,ak (by omega),aj,ak (by omega),aj,ak (by omega),aj,ak (by omega),aj,ak (by omega),aj,ak (by omega),aj]
  refine key _ (fun n=>((c,s),jW V (kids.take n),kids,(kids.length:Int),(n:Int),kind,f,ws,a,b,kids,d.1,d.2.1,d.2.2)) (fun go=>?_) (fun go n i=>?_)
  .dsimp only
   rw[ak (bp _),aj,cl]
  .dsimp only
   have g:=h _ (bA i)
   have o:=g.low
   have p:=g.top
   have r:=k n (by omega)
   have u:=hmul n (by omega)
   have e:jW V (kids.take (n+1))=jW V (kids.take n)+V kids[n]:=by unfold jW;rw[nJ _ _ _ _ i]
   rw[aq (by omega:(n:Int)<kids.length),ao,aO i,af,g.ts,af,e,aR]
   generalize jW V (kids.take n)=t at*
   generalize V kids[n]=v at*
   simp only[ai (show fits (t+v)from ep (by omega) (by omega)),ai (aN (n:=n) (by omega))]
   cases decide (v=0)<;>cases decide (kind=7)<;>rfl
theorem ans {α:Type} {xs:List α} (h:(xs.length:Int)=2):∃x y,xs=[x,y]:=by
 match xs,h with
 | [x,y],_=>exact⟨x,y,rfl⟩
theorem Ca {α:Type} {xs:List α} (h:(xs.length:Int)=1):∃x,xs=[x]:=by
 match xs,h with
 | [x],_=>exact⟨x,rfl⟩
theorem RD (N:Nat) {c:aL} {s:cB} (g:ff N c s) (d:aC) (J:e2 s.1 d.1=some d):∀k:Nat,k<=4->∀q:bf,gH k q=true->∀D,k<D->∃v,qX N D c s d (oI k) q v
 |0,_,q,o,_,_=>by rw[gH]at o;cases o
 |k+1,K,.mk kind f ws a b kids,o,0,O=>by omega
 |k+1,K,.mk kind f ws a b kids,o,D+1,O=>by
  rw[gH,bk,cA]at o
  obtain⟨e,i⟩:=o
  have L:=DY k (by omega)
  have j:=DY (k+1) K
  have u:=RD N g d J k (by omega)
  have P:oI (k+1)=9*oI k:=rfl
  show ∃v,ku N (D+1) c s d (oI (k+1)) kind f ws a b kids v
  by_cases z:kind=1
  .subst z
   exact⟨_,(Ub N D d f ws a b kids).mono j.1⟩
  by_cases A:kind=2
  .subst A
   have h:((decide (a=0)&&decide (b=0)&&gF kids)&&(okW f&&(ws.all okW&&decide ((ws.length:Int)=1))))=true:=e
   simp only[bk,bz]at h
   obtain⟨w,rfl⟩:=Ca h.2.2.2
   have hw:okW w=true:=cA.1 h.2.2.1 w b6
   exact⟨_,(Ui N D g d f w a b kids hw).mono j.1⟩
  by_cases C:kind=3
  .subst C
   have h:(gF kids&&(okW f&&(ws.all okW&&(decide ((2:Int)<=ws.length)&&decide ((ws.length:Int)<=4))&&(decide (b=0)&&(decide (0<=a)&&decide (a<=5))))))=true:=e
   simp only[bk,bz]at h
   exact⟨_,(Ug N D g d f ws a b kids (cA.1 h.2.2.1.1) (by omega)).mono j.1⟩
  by_cases F:kind=4
  .subst F
   have h:(gF kids&&(okW f&&(ws.all okW&&decide ((ws.length:Int)=1)&&(decide (b=0)&&(decide (1<=a)&&decide (a<=2))))))=true:=e
   simp only[bk,bz]at h
   obtain⟨w,rfl⟩:=Ca h.2.2.1.2
   have hw:okW w=true:=cA.1 h.2.2.1.1 w b6
   exact⟨_,(Uf N D g d f w a b kids hw h.2.2.2.2.2).mono j.1⟩
  by_cases G:kind=5
  .subst G
   have h:((decide (a=0)&&decide (b=0)&&gF kids)&&(okW f&&(ws.all (fun w=>n5 w&& !okW w)&&decide ((ws.length:Int)=1))))=true:=e
   simp only[bk,bz]at h
   obtain⟨w,rfl⟩:=Ca h.2.2.2
   have hw:=cA.1 h.2.2.1 w b6
   rw[bk]at hw
   have H:w.length<=12:=by
    have:=hw.1
    unfold n5 at this
    simp only[bk,bz]at this
    omega
   exact⟨_,(Uc N D g d f w a b kids hw.1 H).mono j.1⟩
  by_cases I:kind=6
  .subst I
   exact⟨_,(Uh N D g d J f ws a b kids).mono j.1⟩
  by_cases l:kind=7\/kind=8
  .have H:kids.length<=4:=by
    unfold kk at e
    rw[ak z,aj,ak A,aj,ak C,aj,ak F,aj,ak G,aj,ak I,aj,show(decide (kind=7)||decide (kind=8))=true from by rcases l with h|h<;>subst h<;>rfl,ao]at e
    simp only[bk,bz]at e
    omega
   have hex:∀x,x∈kids->qX N D c s d (oI k) x (ko N D c s d x):=fun x Q=>by
    obtain⟨v,p⟩:=u x (i x Q) D (by omega)
    have:ko N D c s d x=v:=by unfold ko;rw[p.ref];rfl
    rw[this]
    exact p
   exact⟨_,Ue N D g.m d kind l f ws a b kids H (ko N D c s d) (oI k) (by omega) L.2 hex⟩
  have r:(decide (kind=7)||decide (kind=8))=false:=by
   rw[ak (fun h=>l (.inl h)),ak (fun h=>l (.inr h))]
   rfl
  unfold kk at e
  rw[ak z,aj,ak A,aj,ak C,aj,ak F,aj,ak G,aj,ak I,aj,r,aj]at e
  by_cases M:kind=9
  .subst M
   rw[aq rfl,ao]at e
   simp only[bk,bz]at e
   obtain⟨x,y,rfl⟩:=ans e.2.2.2
   obtain⟨v,p⟩:=u x (i x b6) D (by omega)
   obtain⟨w,hw⟩:=u y (i y (b7 _ b6)) D (by omega)
   exact⟨_,(Ud N D d f ws a b x y _ v w p hw).mono (by omega)⟩
  rw[ak M,aj]at e
  by_cases t:kind=10
  .subst t
   rw[aq rfl,ao]at e
   simp only[bk,bz]at e
   obtain⟨x,rfl⟩:=Ca e.2.2.1
   obtain⟨v,p⟩:=u x (i x b6) D (by omega)
   exact⟨_,Uj N D d f ws a b x _ v L.2 p e.2.2.2.2⟩
  rw[ak t,aj]at e
  cases e
theorem RC (N:Nat) {c:aL} {s:cB} (g:ff N c s) (d:aC) (h:e2 s.1 d.1=some d) (q:bf) (i:gH 4 q=true):qX N N c s d 30000000000000 q (ko N N c s d q):=by
 have j:=g.m
 obtain⟨v,e⟩:=RD N g d h 4 (bC _) q i N (by omega)
 have:ko N N c s d q=v:=by unfold ko;rw[e.ref];rfl
 rw[this]
 exact e.mono (DY 4 (bC _)).2
theorem D7 (N:Nat) (x y:Int):ur N x y=some (if x<y then-1 else if y<x then 1 else 0):=by
 simp only[ur,qp,af,decide_true,bn,aj]
 by_cases h:x<y
 .simp [h]
 .by_cases e:y<x<;>simp[h,e]
theorem UU {α:Type} (xs:List α) (n:Nat) (h:n<=xs.length):cut xs 0 (n:Int)=some (xs.take n):=by
 unfold cut
 rw[ai ⟨by omega,by omega,by omega⟩]
 simp
def gD (a b:dy):Bool:=decide (b.2<a.2)||(decide (a.2=b.2)&&decide (a.1<b.1))
theorem xv (a b:dy):gD a b=true↔b.2<a.2\/(a.2=b.2/\a.1<b.1):=by
 unfold gD
 simp only[lB,bk,bz]
theorem ako (a:dy):gD a a=false:=by
 cases h:gD a a
 .rfl
 .rw [xv]at h;omega
theorem HO {a b c:dy} (h:gD a b=true) (k:gD b c=true):gD a c=true:=by
 rw[xv]at*;omega
theorem akn {a b:dy} (h:gD a b=true):gD b a=false:=by
 cases e:gD b a
 .rfl
 .rw [xv]at*;omega
theorem Qa {a b:dy} (h:a.1≠b.1):gD a b=true\/gD b a=true:=by
 rw[xv,xv];omega
theorem akp :q0 gD:=⟨fun x y h=>akn h,fun x y z h k=>HO h k⟩
def jN (l:List dy) (h:dy):List dy:=match l with
 | []=>[h]
 |x::r=>if gD x h=true then x::jN r h else h::x::r
theorem Ab (h x:dy):∀l,x∈jN l h↔x=h\/x∈l
 | []=>by simp[jN]
 |y::r=>by
  unfold jN
  have e:=Ab h x r
  split
  .rw [bm,e,bm];constructor<;>rintro(h|h|h)<;>simp_all
  .simp
theorem Mm (h:dy):∀l,(jN l h).length=l.length+1
 | []=>rfl
 |y::r=>by
  unfold jN
  split
  .rw [aZ,Mm h r];rfl
  .rfl
theorem Mn (h:dy):∀l,(l.Pairwise fun a b=>gD a b=true)->(∀x,x∈l->x.1≠h.1)->(jN l h).Pairwise fun a b=>gD a b=true
 | [],_,_=>by simp[jN]
 |y::r,g,k=>by
  rw[ez]at g
  unfold jN
  split
  .rename_i hy
   rw[ez]
   refine⟨fun z e=>?_,Mn h r g.2 fun x o=>k x (by simp[o])⟩
   rcases(Ab h z r).1 e with rfl|e
   .exact hy
   .exact g.1 z e
  .rename_i hy
   have i:gD h y=true:=by
    rcases Qa (k y (by simp))with j|j
    .exact absurd j hy
    .exact j
   rw[ez,ez]
   refine⟨fun z e=>?_,g⟩
   rcases bm.1 e with rfl|e
   .exact i
   .exact HO i (g.1 z e)
def nc (l:List dy):List dy:=l.foldl jN []
abbrev pJ (l:List dy):Prop:=l.Pairwise fun a b=>a.1≠b.1
theorem RX :∀(l acc:List dy),pJ l->(∀x,x∈acc->∀y,y∈l->x.1≠y.1)->(acc.Pairwise fun a b=>gD a b=true)->((l.foldl jN acc).Pairwise fun a b=>gD a b=true)/\(∀x,x∈l.foldl jN acc↔x∈acc\/x∈l)
 | [],acc,_,_,h=>⟨h,fun x=>by simp⟩
 |h::l,acc,g,i,j=>by
  rw[pJ,ez]at g
  rw[eR]
  obtain⟨k,o⟩:=RX l (jN acc h) g.2 (fun x e y hy=>by
   rcases(Ab h x acc).1 e with rfl|e
   .exact g.1 y hy
   .exact i x e y (by simp[hy])) (Mn h acc j fun x e=>i x e h (by simp))
  refine⟨k,fun x=>?_⟩
  rw[o,Ab,bm]
  constructor<;>rintro(h|h)<;>simp_all
  .rcases h with h|h<;>simp_all
  .rcases h with h|h<;>simp_all
theorem RY :∀(l acc:List dy),(l.foldl jN acc).length=acc.length+l.length
 | [],acc=>by simp
 |h::l,acc=>by rw[eR,RY l,Mm,aZ];omega
theorem RZ {l:List dy} (e:pJ l):((nc l).Pairwise fun a b=>gD a b=true)/\∀x,x∈nc l↔x∈l:=by
 obtain⟨g,h⟩:=RX l [] e (fun x i=>by cases i) lC
 exact⟨g,fun x=>by rw[show nc l=l.foldl jN []from rfl,h];simp⟩
theorem amX {l R:List dy} (e:pJ l) (g:R.Perm l) (i:R.Pairwise fun a b=>gD a b=true):R=nc l:=by
 obtain⟨j,o⟩:=RZ e
 exact C4 gD ako (fun a b c h k=>HO h k) R _ i j fun x=>by rw[g.mem_iff,o]
theorem Xe (N:Nat) (i:4<=N) (a b:dy):Def (jD N () a b) fun r=>decide (r<0)=gD a b:=by
 show Def (z6 N a.1 a.2 b.1 b.2) _
 unfold z6
 rw[D7,af,D7,af,QH N i,af]
 refine Def.ret ?_
 unfold gD
 by_cases e:b.2<a.2
 .rw [ai e,aq e]
  simp
 .rw [aA e,ak e]
  by_cases g:a.2<b.2
  .rw [ai g,ak (by omega:¬a.2=b.2)]
   simp
  .rw [aA g,aq (by omega:a.2=b.2)]
   by_cases h:a.1<b.1
   .simp [h]
   .by_cases j:b.1<a.1<;>simp[h,j]
theorem VI (N:Nat) (o:1048576<N) (k:N<=16777216) (l:List dy) (p:l.length<=100000) (j:pJ l) (most:Nat) (hm:most<=100000):wO N l most=some ((nc l).take most):=by
 refine Def.get ?_
 unfold wO
 rw[ai (b5 (by simp;omega) (by simp;omega)),fj]
 refine Def.bind (amS gD akp N k (by omega) l () ⟨fun x r y hy=>Xe N (by omega) x y,j.imp fun h=>Qa h⟩ (by omega)) fun R g=>?_
 have i:=g.1.length_eq
 rw[amX j g.1 g.2]at i⊢
 generalize nc l=L at*
 have e:(if(most:Int)<L.length then(most:Int)else(L.length:Int))=((min most L.length:Nat):Int):=by split<;>omega
 rw[e,UU L _ (Nat.min_le_right _ _),af,ai (b5 (by simp;omega) (by simp;omega)),fj]
 refine Def.ret ?_
 rw[<-List.take_take,cl]
theorem Ek :∀ {ad:List aC},(ad.Pairwise fun a b=>a.1<b.1)->∀d,d∈ad->e2 ad d.1=some d
 | [],_,d,h=>by cases h
 |x::l,e,d,h=>by
  rw[ez]at e
  unfold e2
  rw[nm]
  rcases bm.1 h with rfl|h
  .rw [aq rfl]
  .have:=e.1 d h
   rw[ak (by omega)]
   exact Ek e.2 d h
theorem El {ad:List aC} {id:Int} {d:aC} (h:e2 ad id=some d):d∈ad/\d.1=id:=by
 refine⟨oq h,?_⟩
 have:=List.find?_some h
 exact of_decide_eq_true this
theorem Rc (N:Nat) (e:bF<N) (g:N<=1099511627776) (q:bf) (h:mq 4 q):tN N q.kind q.field q.words q.lo q.hi q.kids=some (gH 4 q):=by
 have i:1048576<N:=e
 unfold tN
 rw[show(4:Int)=((4:Nat):Int)from rfl,Qp N e g 4 N (by omega) (by omega) q h,af]
structure Fit (N:Nat) (c:aL) (s:cB) (q:bf):Prop where
 dk:bF<N
 top:N<=16777216
 cV:cz bF gm c
 gu:∀x,x∈s.1->cz bF fE x
 len:s.1.length<=1048576
 yN:mq 4 q
theorem Fit.p7 {N:Nat} {c:aL} {s:cB} {q:bf} (h:Fit N c s q) (e:hh c s=true):ff N c s:=⟨h.dk,h.top,h.cV,h.gu,e⟩
theorem Fit.jn {N:Nat} {c:aL} {s:cB} {q:bf} (h:Fit N c s q):tO N c.1 c.2 s.1 s.2=some (hh c s):=RI N h.dk h.top c h.cV s h.gu h.len
theorem Fit.alv {N:Nat} {c:aL} {s:cB} {q:bf} (h:Fit N c s q):tN N q.kind q.field q.words q.lo q.hi q.kids=some (gH 4 q):=Rc N h.dk (by have:=h.top;omega) q h.yN
def wi (V:aC->Int) (P:dy->Bool) (d:aC):Option dy:=bif decide (0<V d)&&P (d.1,V d)then some (d.1,V d)else none
def lZ (V:aC->Int) (P:dy->Bool) (ad:List aC):List dy:=ad.filterMap (wi V P)
def mw (_:dy):Bool:=true
theorem LS {V:aC->Int} {P:dy->Bool} {ad:List aC} {x:dy} (h:x∈lZ V P ad):∃d,d∈ad/\x=(d.1,V d)/\0<V d/\P x=true:=by
 obtain⟨d,i,e⟩:=qV.1 h
 unfold wi at e
 cases g:decide (0<V d)&&P (d.1,V d)with
 |false=>rw[g,aj]at e;cases e
 |true=>
  rw[g,ao]at e
  cases e
  rw[bk,bz]at g
  exact⟨d,i,rfl,g.1,g.2⟩
theorem LR (V:aC->Int) (P:dy->Bool) (ad:List aC):(lZ V P ad).length<=ad.length:=sN _ _
theorem LQ (V:aC->Int) (P:dy->Bool):∀ {ad:List aC},(ad.Pairwise fun a b=>a.1<b.1)->pJ (lZ V P ad)
 | [],_=>lC
 |d::l,g=>by
  rw[ez]at g
  have h:=LQ V P g.2
  unfold lZ at h⊢
  rw[vk]
  have i:∀x,x∈l.filterMap (wi V P)->d.1≠x.1:=fun x j=>by
   obtain⟨e,he,rfl,_⟩:=LS (V:=V) (P:=P) j
   have:=g.1 e he
   show d.1≠e.1
   omega
  unfold wi
  cases decide (0<V d)&&P (d.1,V d)
  .exact h
  .exact ez.2 ⟨i,h⟩
theorem Xf (V:aC->Int) (P:dy->Bool) (ad:List aC) {n:Nat} (h:n<ad.length):lZ V P (ad.take (n+1))=bif decide (0<V ad[n])&&P (ad[n].1,V ad[n])then lZ V P (ad.take n)++ [(ad[n].1,V ad[n])]else lZ V P (ad.take n):=by
 unfold lZ
 rw[y9 _ _ _ h]
 unfold wi
 cases decide (0<V ad[n])&&P (ad[n].1,V ad[n])
 .exact e5 _
 .rfl
def l0 (N:Nat) (c:aL) (s:cB) (q:bf) (P:dy->Bool):List dy:=bif hh c s&&gH 4 q then lZ (fun d=>ko N N c s d q) P s.1 else []
theorem amc {N:Nat} {c:aL} {s:cB} {q:bf} (h:Fit N c s q):z7 N c.1 c.2 s.1 s.2 q.kind q.field q.words q.lo q.hi q.kids=some (l0 N c s q mw):=by
 have p:1048576<N:=h.dk
 have r:=h.len
 unfold z7 l0
 rw[h.jn,af,h.alv,af]
 cases k:hh c s with
 |false=>rfl
 |true=>
  cases l:gH 4 q with
  |false=>rfl
  |true=>
   have g:=h.p7 k
   rw[bn,aj,aj,fX,ao]
   refine(dB _ s.1.length (fun n=>(lZ (fun d=>ko N N c s d q) mw (s.1.take n),s.1,(s.1.length:Int),(n:Int),q.kind,q.field,q.words,q.lo,q.hi,q.kids,c.1,c.2,s.1,s.2)) (fun n=>some (lZ (fun d=>ko N N c s d q) mw s.1)) (fun go=>?_) (fun go n i e=>?_) N 0 (bg _) (by omega)).trans rfl
   .dsimp only
    rw[ak (bp _),aj,cl]
   .dsimp only
    have hm:=bA i
    have o:=RC N g s.1[n] (Ek g.dY.gB.ids _ hm) q l
    have he:=o.ts
    have j:=LR (fun d=>ko N N c s d q) mw (s.1.take n)
    rw[bX]at j
    simp only[aR,Xf (fun d=>ko N N c s d q) mw s.1 i]at e
    generalize lZ (fun d=>ko N N c s d q) mw (s.1.take n)=out at*
    generalize ko N N c s s.1[n] q=v at*
    rw[aq (by omega:(n:Int)<s.1.length),ao,aO i,af,he,af,ai (b5 (by rw[bS];omega) (by rw[bS];omega)),<-e]
    simp only[ai (aN (n:=n) (by omega)),mw,fX]
    cases decide (0<v)<;>rfl
theorem LV (N:Nat) (c:aL) (s:cB) (q:bf) (P:dy->Bool):(l0 N c s q P).length<=16:=by
 unfold l0
 cases e:hh c s with
 |false=>exact bg _
 |true=>
  cases g:gH 4 q with
  |false=>exact bg _
  |true=>exact dK (LR _ _ _) (iy e).2.1.cS
theorem LU (N:Nat) (c:aL) (s:cB) (q:bf) (P:dy->Bool):pJ (l0 N c s q P):=by
 unfold l0
 cases e:hh c s with
 |false=>exact lC
 |true=>
  cases g:gH 4 q with
  |false=>exact lC
  |true=>exact LQ _ _ (iy e).2.1.gB.ids
def x8 (N:Nat) (c:aL) (s:cB) (q:bf) (P:dy->Bool) (most:Nat):List dy:=(nc (l0 N c s q P)).take most
def nR (most:Int):Bool:=decide (1<=most)&&decide (most<=16)
theorem Yu {m:Int} (h:nR m=true):∃k:Nat,m=(k:Int)/\1<=k/\k<=16:=by
 unfold nR at h
 simp only[bk,bz]at h
 exact⟨m.toNat,by omega,by omega,by omega⟩
def vc (N:Nat) (c:aL) (s:cB) (q:bf) (P:dy->Bool) (most:Int):List dy:=bif nR most then x8 N c s q P most.toNat else []
theorem VJ {N:Nat} (e:1048576<N) (g:N<=16777216) (c:aL) (s:cB) (q:bf) (P:dy->Bool) (most:Nat) (hm:most<=16):wO N (l0 N c s q P) most=some (x8 N c s q P most):=by
 have h:=LV N c s q P
 exact VI N e g _ (by omega) (LU N c s q P) most (by omega)
theorem anl {N:Nat} {c:aL} {s:cB} {q:bf} (h:Fit N c s q) (most:Int):zZ N c.1 c.2 s.1 s.2 q.kind q.field q.words q.lo q.hi q.kids most=some (vc N c s q mw most):=by
 unfold zZ vc
 rw[hl,af,show(decide ((1:Int)<=most)&&decide (most<=16))=nR most from rfl]
 cases hm:nR most with
 |false=>rfl
 |true=>
  obtain⟨k,rfl,g,e⟩:=Yu hm
  rw[bn,aj,amc h,af,VJ h.dk h.top c s q mw k e,af]
  rfl
def amm (many which:Int) (h:dy):Bool:=decide (h.1.tmod many=which)
end Go.Proofs.YtnkagklajgimlaaGreatDoor
