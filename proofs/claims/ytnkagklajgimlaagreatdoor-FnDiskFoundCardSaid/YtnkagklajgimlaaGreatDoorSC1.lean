
import Derived.Test.YtnkagklajgimlaaGreatDoorSB1
import Derived.Test.YtnkagklajgimlaaGreatDoorQA
set_option linter.unusedVariables false
set_option linter.unusedSimpArgs false
namespace Go.Proofs.YtnkagklajgimlaaGreatDoor
open Go.RowKit
theorem Pv (N:Nat) (x y:List UInt8):qo N x y=some (if Op.bytesLess x y then-1 else if Op.bytesLess y x then 1 else 0):=by
 unfold qo
 have h:∀z:List UInt8,rX N z=some false:=fun z=>by unfold rX;simp
 rw[h,h]
 simp only[af,aj]
 rw[O8]
 cases a:Op.bytesLess x y
 .cases b:Op.bytesLess y x<;>simp
 .simp
theorem QH (N:Nat) (d:4<=N) (x y:Int):w7 N [x,y]=some (if x≠0 then x else if y≠0 then y else 0):=by
 unfold w7
 obtain⟨N,rfl⟩:∃m,N=m+4:=⟨N-4,by omega⟩
 by_cases a:x=0
 .by_cases b:y=0
  .subst a;subst b
   simp[iter,idx,fits]
  .subst a
   simp[iter,idx,fits,b]
 .simp [iter,idx,fits,a]
theorem OE (N:Nat) (f:4<=N) (a b:cK):Def (jC N () a b) fun r=>decide (r<0)=gV (db a) (db b):=by
 show Def (Bf N a.1 a.2.1 a.2.2 b.1 b.2.1 b.2.2) _
 unfold Bf
 rw[Pv,af,Pv,af,QH N f,af]
 refine Def.ret ?_
 unfold gV db
 dsimp only
 cases g:Op.bytesLess a.1 b.1
 .cases d:Op.bytesLess b.1 a.1
  .have he:a.1=b.1:=by
    have:=my a.1 b.1
    rw[g,d]at this
    simpa using this
   cases h:Op.bytesLess a.2.1 b.2.1
   .cases i:Op.bytesLess b.2.1 a.2.1<;>simp[he]
   .simp [he]
  .have he:a.1≠b.1:=by
    rintro e
    rw[e,q6]at d
    cases d
   simp[he]
 .simp
theorem afZ {a b:gL} (h:gV a b=true):gV b a=false:=by
 cases d:gV b a
 .rfl
 .have:=HQ h d
  rw[HP]at this
  cases this
theorem OU {a b:gL} (h:a≠b):gV a b=true\/gV b a=true:=by
 unfold gV
 cases f:Op.bytesLess a.1 b.1
 .cases g:Op.bytesLess b.1 a.1
  .have he:a.1=b.1:=by
    have:=my a.1 b.1
    rw[f,g]at this
    simpa using this
   have d:a.2≠b.2:=fun e=>h (Prod.ext he e)
   cases i:Op.bytesLess a.2 b.2
   .right;simp[he,vF i d]
   .left;simp[he]
  .right;simp
 .left;simp
theorem OT :q0 fun a b:cK=>gV (db a) (db b):=⟨fun x y h=>afZ h,fun x y z h k=>HQ h k⟩
def Small (m:Nat) (es:List cK):Prop:=es.length<=m/\∀e,e∈es->e.2.2.length<=m/\∀p,p∈e.2.2->p.2.length<=m
theorem O3 {m:Nat} {ps:List EPost} (id a:Int) (h:ps.length<=m/\∀p,p∈ps->p.2.length<=m):(hb ps id a).length<=m+1/\∀p,p∈hb ps id a->p.2.length<=m+1:=by
 rcases List.eq_nil_or_concat ps with rfl|⟨q,p,rfl⟩
 .unfold hb
  simp
 .rw [List.concat_eq_append]at*
  unfold hb
  rw[show(q++ [p]).getLast? =some p from by simp]
  dsimp only
  have f:=h.2 p (by simp)
  have b:∀y,y∈q->y.2.length<=m:=fun y hy=>h.2 y (by simp[hy])
  have d:=h.1
  simp only[a1,aZ,bE]at d
  by_cases e:p.1=id
  .rw [ai e,List.dropLast_concat]
   refine⟨by simp only[a1,aZ,bE];omega,fun y hy=>?_⟩
   rcases cp.1 hy with hy|hy
   .exact sW (b y hy)
   .rw [c1]at hy
    subst hy
    simp only[a1,aZ,bE];omega
  .rw [aA e]
   refine⟨by simp only[a1,aZ,bE];omega,fun y hy=>?_⟩
   rcases cp.1 hy with hy|hy
   .exact sW (h.2 y hy)
   .rw [c1]at hy
    subst hy
    simp
theorem OD {m:Nat} (o:fL):∀es:List cK,(∀e,e∈es->e.2.2.length<=m/\∀p,p∈e.2.2->p.2.length<=m)->(hj o es).length<=es.length+1/\∀e,e∈hj o es->e.2.2.length<=m+1/\∀p,p∈e.2.2->p.2.length<=m+1
 | [],_=>by
  unfold hj
  refine⟨by simp,fun e he=>?_⟩
  rw[c1]at he
  subst he
  exact O3 _ _ (m:=m) (ps:=[]) ⟨by simp,by simp⟩
 |d::l,h=>by
  have hm:∀e,e∈d::l->e.2.2.length<=m+1/\∀p,p∈e.2.2->p.2.length<=m+1:=fun e he=>⟨sW (h e he).1,fun p b=>sW ((h e he).2 p b)⟩
  unfold hj
  by_cases a:db d=o.1
  .rw [ai a]
   refine⟨by simp,fun e he=>?_⟩
   rcases bm.1 he with rfl|he
   .exact O3 _ _ (h d b6)
   .exact hm e (b7 _ he)
  .rw [aA a]
   have f:=OD o l fun e he=>h e (b7 _ he)
   refine⟨by simp only[aZ];omega,fun e he=>?_⟩
   rcases bm.1 he with rfl|he
   .exact hm _ b6
   .exact f.2 e he
theorem Gt (l:List fL):Small l.length (mV l):=by
 have key:∀(l:List fL) (es:List cK) (m:Nat),Small m es->Small (m+l.length) (l.foldl (fun es o=>hj o es) es):=by
  intro l
  induction l with
  |nil=>intro es m h;exact h
  |cons o l a=>
   intro es m h
   have b:=OD o es h.2
   have:=a (hj o es) (m+1) ⟨by have:=h.1;omega,b.2⟩
   rw[aZ,show m+(l.length+1)=m+1+l.length from by omega]
   exact this
 have:=key l [] 0 ⟨by simp,fun e he=>by cases he⟩
 rwa[gK]at this
theorem agH (N:Nat) (d:aC) (a:d.2.1.length<=3) (b:d.2.2.length<=3):AU N d.1 d.2.1 d.2.2=some d:=by
 unfold AU
 rw[ai (b5 (by simp;omega) (by simp;omega)),ai (b5 (by simp;omega) (by simp;omega))]
 rfl
theorem ahP (N:Nat) {ad:List aC} (d:eZ ad) (e:16<N):AX N ad=some ad:=by
 unfold AX
 have f:=d.cS
 refine(dB _ ad.length (fun k=>(ad.take k,ad,(ad.length:Int),(k:Int))) (fun _=>some ad) (fun go=>?_) (fun go k a b=>?_) N 0 (bg _) (by omega)).trans rfl
 .dsimp only
  rw[ak (bp _),aj,cl]
 .dsimp only
  have he:=d.each _ (bA a)
  rw[aq (by omega:(k:Int)<ad.length),ao,aO a,af,agH N ad[k] he.1 he.2.1,af,ai (b5 (by simp;omega) (by simp;omega)),ai (aN (n:=k) (by omega)),<-b,ec a,aR]
theorem Ov (c:aL) {ad:List aC} (a:eZ ad) {d:aC} (h:d∈ad) (k:Nat):(jR c d.1 (d.2.1.take k)).length<=480:=by
 unfold jR
 have he:=a.each d h
 have e:=tu (fun f:ei=>(dv c f.2).map fun t=>(((f.1,t.1),d.1,t.2):fL)) 160 (d.2.1.take k) fun f b=>by
  rw[dX]
  exact dK (om c _) (he.2.2 f (fK b)).2
 have g:(d.2.1.take k).length<=3:=by rw[bX];omega
 omega
theorem Gy (c:aL) {ad:List aC} (a:eZ ad) (n:Nat):(dV c (ad.take n)).length<=7680:=by
 unfold dV
 have e:=a.cS
 have f:=tu (fun d:aC=>jR c d.1 d.2.1) 480 (ad.take n) fun d b=>by
  have:=Ov c a (fK b) d.2.1.length
  rw[cl]at this
  exact this
 have g:(ad.take n).length<=16:=by rw[bX];omega
 omega
theorem I4 (N:Nat) (u:bF<N) (K:N<=16777216) (c:aL) (H:cz bF gm c) (ad:List aC) (v:∀x,x∈ad->cz bF fE x) (L:ad.length<=1048576):rF N c.1 c.2 ad=some (bif dQ c&&eM ad then(ad,eo c ad)else([],[])):=by
 have M:1048576<N:=u
 refine Def.get ?_
 unfold rF
 rw[re N u (by omega) c H,af]
 cases O:dQ c with
 |false=>exact Def.ret rfl
 |true=>
 rw[bn,aj,Em N u (by omega) ad v L,af]
 cases z:eM ad with
 |false=>exact Def.ret rfl
 |true=>
 have l:=l9 z
 have U:=l.cS
 rw[bn,aj,ahP N l (by omega),af,pB,ao]
 refine Def.upto ad.length (fun n g=>g=(ad,(ad.length:Int),(n:Int),c.1,c.2,ad,mV (dV c (ad.take n)))) (fun go g f=>?_) (fun go n g A f B=>?_) N 0 _ (bg _) rfl (by omega)
 .subst f
  dsimp only
  rw[ak (bp _),aj,cl]
  have d:=Gt (dV c ad)
  have fQ:=Gy c l ad.length
  rw[cl]at fQ
  refine Def.bind (RV (fun a b=>gV (db a) (db b)) OT N K (by omega) (mV (dV c ad)) () ⟨fun x V y hy=>OE N (by omega) x y,?_⟩ (by have:=d.1;omega)) fun R I=>Def.ret ?_
  .exact (qU.1 (Iz (dV c ad)).nodup).imp fun h=>OU h
  .rw [R0 c l.gB I.1 I.2]
 .subst f
  dsimp only
  have i:=bA A
  have he:=l.each _ i
  rw[aq (by omega:(n:Int)<ad.length),ao,aO A,af]
  have P:=Gy c l n
  refine Def.upto ad[n].2.1.length (fun k g=>g=(ad,(ad.length:Int),(n:Int),ad[n].2.1,(ad[n].2.1.length:Int),(k:Int),c.1,c.2,ad,mV (dV c (ad.take n)++jR c ad[n].1 (ad[n].2.1.take k)),ad[n].1,ad[n].2.1,ad[n].2.2)) (fun go2 g f=>?_) (fun go2 k g C f o=>?_) N 0 _ (bg _) (by rw[List.take_zero,show jR c ad[n].1 []=[]from rfl,e5];rfl) (by omega)
  .subst f
   dsimp only
   rw[ak (bp _),aj,cl,ai (aN (n:=n) (by omega))]
   refine B _ ?_
   rw[aR]
   unfold dV
   rw[vU _ _ _ A]
  .subst f
   dsimp only
   have F:=he.2.2 _ (bA C)
   rw[aq (by omega:(k:Int)<ad[n].2.1.length),ao,aO C,af,Dh N c _ (by omega) u (by omega) H,af,O,F.1,pB,ao]
   have Q:=om c ad[n].2.1[k].2
   have S:=Ov c l i k
   refine Def.upto (dv c ad[n].2.1[k].2).length (fun j g=>g=(ad,(ad.length:Int),(n:Int),ad[n].2.1,(ad[n].2.1.length:Int),(k:Int),dv c ad[n].2.1[k].2,((dv c ad[n].2.1[k].2).length:Int),(j:Int),c.1,c.2,ad,mV (dV c (ad.take n)++jR c ad[n].1 (ad[n].2.1.take k)++((dv c ad[n].2.1[k].2).take j).map fun t=>((ad[n].2.1[k].1,t.1),ad[n].1,t.2)),ad[n].1,ad[n].2.1,ad[n].2.2,ad[n].2.1[k].1,ad[n].2.1[k].2)) (fun G g f=>?_) (fun G j g J f r=>?_) N 0 _ (bg _) (by rw[List.take_zero,pF,e5];rfl) (by omega)
   .subst f
    dsimp only
    rw[ak (bp _),aj,cl,ai (aN (n:=k) (by omega))]
    refine o _ ?_
    rw[aR]
    unfold jR
    rw[vU _ _ _ C,dJ]
   .subst f
    dsimp only
    rw[aq (by omega:(j:Int)<((dv c ad[n].2.1[k].2).length:Int)),ao,aO J,af]
    have d:=Gt (dV c (ad.take n)++jR c ad[n].1 (ad[n].2.1.take k)++((dv c ad[n].2.1[k].2).take j).map fun t=>(((ad[n].2.1[k].1,t.1),ad[n].1,t.2):fL))
    have hlen:(dV c (ad.take n)++jR c ad[n].1 (ad[n].2.1.take k)++((dv c ad[n].2.1[k].2).take j).map fun t=>(((ad[n].2.1[k].1,t.1),ad[n].1,t.2):fL)).length<=8320:=by
     rw[a1,a1,dX,bX]
     omega
    rw[alr N _ _ _ _ _ (by have:=d.1;omega) (by have:=d.1;omega) (fun e h=>⟨by have:=(d.2 e h).1;omega,fun p T=>by have:=(d.2 e h).2 p T;omega⟩),af,ai (aN (n:=j) (by omega))]
    refine r _ ?_
    rw[aR,Qd _ _ _ J,<-dJ,agR]
theorem vQ (c:aL) {ad:List aC} (g:eZ ad):Small 7680 (eo c ad):=by
 have d:=Gt (dV c ad)
 have fQ:=Gy c g ad.length
 rw[cl]at fQ
 obtain⟨R,_,f,i⟩:=RV (fun a b=>gV (db a) (db b)) OT 16777216 (bC _) (by omega) (mV (dV c ad)) () ⟨fun x j y hy=>OE _ (by omega) x y,(qU.1 (Iz (dV c ad)).nodup).imp fun h=>OU h⟩ (by have:=d.1;omega)
 rw[<-R0 c g.gB f i]
 refine⟨by rw[f.length_eq];exact dK d.1 fQ,fun e he=>?_⟩
 have:=d.2 e (f.mem_iff.1 he)
 exact⟨dK this.1 fQ,fun p f=>dK (this.2 p f) fQ⟩
theorem uc {α f:Type} [DecidableEq α] (F:(f->Option Bool)->f->Option Bool) (a b:List α) (h:a.length=b.length) (st:Nat->f) (e:∀go,F go (st a.length)=some true) (d:∀go (n:Nat) (g:n<a.length) (j:n<b.length),F go (st n)=bif decide (a[n]=b[n])then go (st (n+1))else some false) (N:Nat) (k:a.length<N):iter F N (st 0)=some (decide (a=b)):=by
 refine(dB F a.length st (fun n=>some (decide (a.drop n=b.drop n))) (fun go=>?_) (fun go n g i=>?_) N 0 (bg _) (by omega)).trans (by rw[qT,qT])
 .rw [e,lE,h,lE];simp
 .rw [d go n g (by omega),afa g (by omega),i]
  cases decide (a[n]=b[n])<;>rfl
theorem ug {α:Type} {a b:List α} (h:¬(a.length:Int)=(b.length:Int)):¬a=b:=fun e=>h (by rw[e])
theorem aha (N:Nat) (a b:List Int) (d:a.length<N) (g:a.length<=1000000):AY N a b=some (decide (a=b)):=by
 unfold AY
 by_cases h:(a.length:Int)=(b.length:Int)
 .rw [aq h,bn,aj]
  refine uc _ a b (by omega) (fun n=>(a,b,(a.length:Int),(n:Int))) (fun go=>?_) (fun go n e f=>?_) N d
  .dsimp only
   rw[ak (bp _),aj]
  .dsimp only
   rw[aq (by omega:(n:Int)<a.length),ao,aO e,af,aO f,af,ai (aN (n:=n) (by omega)),aR]
   cases decide (a[n]=b[n])<;>rfl
 .rw [ak h,dt,ao,ak (ug h)]
theorem ain (N:Nat) (a b:List Int) (d:a.length<N) (g:a.length<=1000000):AL N a b=some (decide (a=b)):=by
 unfold AL
 by_cases h:(a.length:Int)=(b.length:Int)
 .rw [aq h,bn,aj]
  refine uc _ a b (by omega) (fun n=>(a,b,(n:Int))) (fun go=>?_) (fun go n e f=>?_) N d
  .dsimp only
   rw[ak (bp _),aj]
  .dsimp only
   rw[aq (by omega:(n:Int)<a.length),ao,aO e,af,aO f,af,ai (aN (n:=n) (by omega)),aR]
   cases decide (a[n]=b[n])<;>rfl
 .rw [ak h,dt,ao,ak (ug h)]
theorem Oi (a b:EPost):decide (a=b)=(decide (a.1=b.1)&&decide (a.2=b.2)):=by
 rw[np,bk,bz,bz,bz,Prod.ext_iff]
theorem O1 (a b:cK):decide (a=b)=(decide (a.1=b.1)&&(decide (a.2.1=b.2.1)&&decide (a.2.2=b.2.2))):=by
 rw[np,bk,bk,bz,bz,bz,bz,Prod.ext_iff,Prod.ext_iff]
theorem afY (N:Nat) (a b:EPost) (d:a.2.length<N) (e:a.2.length<=1000000):Ba N a.1 a.2 b.1 b.2=some (decide (a=b)):=by
 unfold Ba
 rw[aha N _ _ d e,af,Oi]
 cases decide (a.1=b.1)<;>rfl
theorem ahm (N:Nat) (a b:List EPost) (f:a.length<N) (j:a.length<=1000000) (g:∀p,p∈a->p.2.length<N/\p.2.length<=1000000):AO N a b ()=some (decide (a=b)):=by
 unfold AO
 by_cases h:(a.length:Int)=(b.length:Int)
 .rw [aq h,bn,aj]
  refine uc _ a b (by omega) (fun n=>(b,(),a,(a.length:Int),(n:Int))) (fun go=>?_) (fun go n e i=>?_) N f
  .dsimp only
   rw[ak (bp _),aj]
  .dsimp only
   have d:=g _ (bA e)
   rw[aq (by omega:(n:Int)<a.length),ao,aO e,af,aO i,af,afY N _ _ d.1 d.2,af,ai (aN (n:=n) (by omega)),aR]
   cases decide (a[n]=b[n])<;>rfl
 .rw [ak h,dt,ao,ak (ug h)]
theorem afu (N:Nat) (a b:cK) (d:a.2.2.length<N) (e:a.2.2.length<=1000000) (f:∀p,p∈a.2.2->p.2.length<N/\p.2.length<=1000000):Be N a.1 a.2.1 a.2.2 b.1 b.2.1 b.2.2=some (decide (a=b)):=by
 unfold Be
 rw[ahm N _ _ d e f,af,O1]
 cases decide (a.1=b.1)<;>cases decide (a.2.1=b.2.1)<;>rfl
theorem ahD (N:Nat) (a b:List cK) (m:Nat) (hm:m<N) (g:m<=1000000) (e:Small m a):A9 N a b ()=some (decide (a=b)):=by
 unfold A9
 have i:=e.1
 by_cases h:(a.length:Int)=(b.length:Int)
 .rw [aq h,bn,aj]
  refine uc _ a b (by omega) (fun n=>(b,(),a,(a.length:Int),(n:Int))) (fun go=>?_) (fun go n f j=>?_) N (by omega)
  .dsimp only
   rw[ak (bp _),aj]
  .dsimp only
   have d:=e.2 _ (bA f)
   rw[aq (by omega:(n:Int)<a.length),ao,aO f,af,aO j,af,afu N _ _ (by omega) (by omega) (fun p k=>by have:=d.2 p k;omega),af,ai (aN (n:=n) (by omega)),aR]
   cases decide (a[n]=b[n])<;>rfl
 .rw [ak h,dt,ao,ak (ug h)]
theorem ahG (N:Nat) (a b:cK) (i:a.2.2.length<N) (l:a.2.2.length<=1000000) (j:∀p,p∈a.2.2->p.2.length<N/\p.2.length<=1000000):AV N a.1 a.2.1 a.2.2 b.1 b.2.1 b.2.2=some (decide (a=b)):=by
 unfold AV
 rw[O1]
 by_cases e:a.1=b.1
 .rw [aq e,bn,aj,ck]
  by_cases f:a.2.1=b.2.1
  .rw [aq f,bn,aj,ck]
   by_cases h:(a.2.2.length:Int)=(b.2.2.length:Int)
   .rw [aq h,bn,aj]
    refine uc _ a.2.2 b.2.2 (by omega) (fun n=>((n:Int),a.1,a.2.1,a.2.2,b.1,b.2.1,b.2.2)) (fun go=>?_) (fun go n g k=>?_) N i
    .dsimp only
     rw[ak (bp _),aj]
    .dsimp only
     have d:=j _ (bA g)
     rw[aq (by omega:(n:Int)<a.2.2.length),ao,aO g,af,aO k,af,af,af,ain N _ _ d.1 d.2,af,ai (aN (n:=n) (by omega)),aR,Oi]
     cases decide (a.2.2[n].1=b.2.2[n].1)<;>cases decide (a.2.2[n].2=b.2.2[n].2)<;>rfl
   .rw [ak h,dt,ao,ak (ug h)]
  .rw [ak f];rfl
 .rw [ak e];rfl
def hh (c:aL) (s:cB):Bool:=dQ c&&(eM s.1&&decide (eo c s.1=s.2))
theorem RI (N:Nat) (d:bF<N) (g:N<=16777216) (c:aL) (e:cz bF gm c) (s:cB) (a:∀x,x∈s.1->cz bF fE x) (f:s.1.length<=1048576):tO N c.1 c.2 s.1 s.2=some (hh c s):=by
 have h:1048576<N:=d
 unfold tO hh
 rw[re N d (by omega) c e,af]
 cases i:dQ c with
 |false=>rfl
 |true=>
 rw[bn,aj,Em N d (by omega) s.1 a f,af]
 cases b:eM s.1 with
 |false=>rfl
 |true=>
 rw[bn,aj,I4 N d g c e s.1 a f,af,i,b,pB,ao]
 rw[ahD N _ _ 7680 (by omega) (by omega) (vQ c (l9 b))]
 rfl
theorem aj3 (N:Nat) (f:bF<N) (z:N<=16777216) (c:aL) (o:cz bF gm c) (s:cB) (g:∀x,x∈s.1->cz bF fE x) (r:s.1.length<=1048576):A4 N c.1 c.2 s.1 s.2=some (hh c s):=by
 have i:1048576<N:=f
 unfold A4 hh
 rw[BQ N f (by omega) c o,af]
 cases t:dQ c with
 |false=>rfl
 |true=>
 rw[bn,aj,HA N f (by omega) s.1 g r,af]
 cases e:eM s.1 with
 |false=>rfl
 |true=>
 have k:=vQ c (l9 e)
 have u:=k.1
 rw[bn,aj,HC N c t (l9 e) i,af,ck,ck]
 generalize eo c s.1=a at*
 obtain⟨d,b⟩:=s
 by_cases h:(a.length:Int)=(b.length:Int)
 .rw [aq h,bn,aj]
  refine uc _ a b (by omega) (fun n=>((n:Int),d,b,d,a)) (fun go=>?_) (fun go n l v=>?_) N (by omega)
  .dsimp only
   rw[ak (bp _),aj]
  .dsimp only
   have j:=k.2 _ (bA l)
   rw[aq (by omega:(n:Int)<a.length),ao,aO l,af,aO v,af,ahG N _ _ (by omega) (by omega) (fun p y=>by have:=j.2 p y;omega),af,ai (aN (n:=n) (by omega)),aR]
   cases decide (a[n]=b[n])<;>rfl
 .rw [ak h,dt,ao,ak (ug h)]
theorem ep {n:Int} (a: -9223372036854775800<=n) (b:n<=9223372036854775800):fits n:=by unfold fits;omega
theorem Oq (a b:Nat) (h:b≠0):Nat.gcd b (a%b)=Nat.gcd a b:=by rw[Nat.gcd_comm a b,Nat.gcd_rec b a,Nat.gcd_comm]
theorem OP (N:Nat) (a b:Nat) (h:b<N) (l:(a:Int)<=1000000000000) (o:(b:Int)<=1000000000000):w4 N a b=some (Nat.gcd a b:Int):=by
 refine Def.get ?_
 unfold w4
 refine Def.iter (fun g=>∃x y:Nat,g=((x:Int),(y:Int))/\Nat.gcd x y=Nat.gcd a b/\x<=1000000000000/\y<=1000000000000) (fun g=>g.2.toNat) (fun go g i d=>?_) N _ ⟨a,b,rfl,rfl,by omega,by omega⟩ (by simpa using h)
 obtain⟨x,y,rfl,he,p,hy⟩:=i
 dsimp only
 by_cases e:(y:Int)=0
 .have f:y=0:=by omega
  rw[aq e,bn,aj,ai (ep (by omega) (by omega)),aA (by omega)]
  refine Def.ret ?_
  rw[<-he,f,Nat.gcd_zero_right]
 .rw [ak e,dt,ao,ai e]
  have f:y≠0:=by omega
  have j:(x:Int).tmod (y:Int)=((x%y:Nat):Int):=by rw[Int.tmod_eq_emod_of_nonneg (by omega)];rfl
  rw[j]
  have k:=mn x (by omega:0<y)
  refine d _ ⟨y,x%y,rfl,by rw[Oq x y f,he],hy,by omega⟩ ?_
  show(((x%y:Nat):Int)).toNat<((y:Nat):Int).toNat
  rw[er,er]
  exact k
theorem Ot (N:Nat):∀(D a b:Nat),b<D->(a:Int)<=1000000000000->(b:Int)<=1000000000000->AK N D a b=some (Nat.gcd a b:Int)
 |0,a,b,h,_,_=>by omega
 |D+1,a,b,h,l,f=>by
  refine Def.get ?_
  unfold AK
  refine Def.meet (fun g=>g=((a:Int),(b:Int))) (fun g i=>?_) (fun J j=>?_)
  .subst i
   dsimp only
   by_cases e:(b:Int)=0
   .have d:b=0:=by omega
    rw[aq e,ao]
    exact Def.ret (by rw[d,Nat.gcd_zero_right])
   .have d:b≠0:=by omega
    have k:(a:Int).tmod (b:Int)=((a%b:Nat):Int):=by rw[Int.tmod_eq_emod_of_nonneg (by omega)];rfl
    have o:=mn a (by omega:0<b)
    rw[ak e,aj,ai e,k,Ot N D b (a%b) (by omega) f (by omega),af]
    exact Def.ret (by rw[Oq a b d])
  .rw [ak (by omega),aj]
   exact j _ rfl
theorem tt {a b:Nat} (d:(a:Int)<=1000000000000):fits ((a:Int).tdiv (b:Int)):=by
 rw[pw]
 have:=nj a b
 generalize a/b=z at*
 exact ep (by omega) (by omega)
theorem zh {a b:Nat} (d:0<b):0<Nat.gcd a b:=Nat.gcd_pos_of_pos_right a d
theorem akt (N a b:Nat) (h:b<N) (d:0<b) (f:(a:Int)<=1000000000000) (i:(b:Int)<=1000000000000):Gw N a b=some (((a/Nat.gcd a b:Nat):Int),((b/Nat.gcd a b:Nat):Int)):=by
 refine Def.get ?_
 unfold Gw
 have k:=zh (a:=a) d
 refine Def.meet (fun g=>g=((a:Int),(b:Int),0,0)) (fun g e=>?_) (fun J j=>?_)
 .subst e
  dsimp only
  rw[Ot N N a b h f i,af,ai (by omega),ai (tt f),ai (by omega),ai (tt i),pw,pw]
  exact Def.ret rfl
 .rw [ak (by omega),aj]
  exact j _ rfl
theorem Ol (N a b:Nat) (h:b<N) (d:(a:Int)<=1000000000) (e:0<b) (f:(b:Int)<=1000000000):w8 N a b=some (decide (Nat.gcd a b=1)):=by
 unfold w8
 rw[hl,af,aq (by omega),aq d,fX,ao,hl,af,aq (by omega),aq f,fX,ao,OP N a b h (by omega) (by omega),af]
 congr 1
 rw[decide_eq_decide]
 omega
theorem aly (N a b:Nat) (h:b<N) (f:(a:Int)<=1000000000) (d:0<b) (i:(b:Int)<=1000000000):AP N a b=some (((a/Nat.gcd a b:Nat):Int),((b/Nat.gcd a b:Nat):Int),true):=by
 have j:=zh (a:=a) d
 have p:=nj a (Nat.gcd a b)
 have r:=nj b (Nat.gcd a b)
 have k:0<b/Nat.gcd a b:=Nat.div_pos (Nat.le_of_dvd d (Nat.gcd_dvd_right a b)) j
 have l:A8 N a b=some (((a/Nat.gcd a b:Nat):Int),((b/Nat.gcd a b:Nat):Int),true):=by
  refine Def.get ?_
  unfold A8
  refine Def.meet (fun g=>g=((a:Int),(b:Int),0,0)) (fun g e=>?_) (fun J o=>?_)
  .subst e
   dsimp only
   rw[OP N a b h (by omega) (by omega),af,ai (by omega),ai (tt (by omega)),ai (by omega),ai (tt (by omega)),pw,pw,Ol N _ _ (by omega) (by omega) k (by omega),af,aq (Nat.gcd_div_gcd_div_gcd_of_pos_right d),bn,aj]
   exact Def.ret rfl
  .rw [ak (by omega),aj]
   exact o _ rfl
 unfold AP
 rw[hl,af,aq (by omega),aq f,fX,bn,aj,hl,af,aq (by omega),aq i,fX,bn,aj,ak (by omega),aj,l,af]
theorem alx (N a b:Nat) (h:b<N) (e:(a:Int)<=1000000000) (d:0<b) (f:(b:Int)<=1000000000) (g:Nat.gcd a b=1):wJ N a b 1000=some ((a*1000/b:Nat):Int):=by
 unfold wJ
 rw[Ol N a b h e d f,af,aq g,bn,aj,hl,af,aq (by omega),aq (by omega),fX,bn,aj,show(a:Int)*1000=((a*1000:Nat):Int)from by omega,ai (ep (by omega) (by omega)),aq (by omega),ao,ai (by omega),ai (tt (by omega)),pw]
def jS (b1 ad:Nat):Nat:=Nat.log2 (ad/b1)
def Ow (ad b1:Nat):Bool:=decide (jS b1 ad<=4)&&((List.range 5).all (fun l=> !decide (l<jS b1 ad)||decide (b1*2^(l+1)<=ad))&&decide (ad<b1*2^(jS b1 ad+1)))
theorem ahZ :((List.range 17).all fun ad=>(List.range 17).all fun b1=> !decide (1<=b1)||(!decide (b1<=ad)||Ow ad b1))=true:=by decide+kernel
theorem Cv {b1 ad:Nat} (b:1<=b1) (d:b1<=ad) (f:ad<=16):jS b1 ad<=4/\(∀l,l<jS b1 ad->b1*2^(l+1)<=ad)/\ad<b1*2^(jS b1 ad+1):=by
 have h:=cA.1 (cA.1 ahZ ad (List.mem_range.2 (by omega))) b1 (List.mem_range.2 (by omega))
 rw[aq b,aq d,bn,ig,ig]at h
 unfold Ow at h
 rw[bk,bk,bz,bz]at h
 refine⟨h.1,fun l e=>?_,h.2.2⟩
 have a:=cA.1 h.2.1 l (List.mem_range.2 (by omega))
 rw[aq e,bn,ig,bz]at a
 exact a
theorem ajU (N:Nat) (b1 ad:Nat) (p:20<N) (d:1<=b1) (h:b1<=ad) (i:ad<=16):Gp N b1 ad=some (jS b1 ad:Int):=by
 obtain⟨a,b,c⟩:=Cv d h i
 refine Def.get ?_
 unfold Gp
 refine Def.upto (jS b1 ad) (fun n g=>g=(((b1*2^n:Nat):Int),(ad:Int),(n:Int))) (fun go g e=>?_) (fun go n g j e f=>?_) N 0 _ (bg _) (by simp) (by omega)
 .subst e
  dsimp only
  rw[Nat.pow_succ,<-Nat.mul_assoc]at c
  have k:0<b1*2^jS b1 ad:=Nat.mul_pos d (Nat.two_pow_pos _)
  have r:b1*2^jS b1 ad<=16*16:=sR (by omega) (by have:=yj (n:=2) (by omega) a;omega)
  generalize b1*2^jS b1 ad=z at*
  rw[aq (by omega),ao,ai (ep (by omega) (by omega)),ak (by omega),aj]
  exact Def.ret rfl
 .subst e
  dsimp only
  have l:=b n j
  rw[Nat.pow_succ,<-Nat.mul_assoc]at l
  have k:0<b1*2^n:=Nat.mul_pos d (Nat.two_pow_pos _)
  have o:(((b1*2^n:Nat):Int))*2=((b1*2^(n+1):Nat):Int):=by rw[Nat.pow_succ,<-Nat.mul_assoc];omega
  rw[aq (by omega),ao,ai (ep (by omega) (by omega)),aq (by omega),ao,ai (ep (by omega) (by omega)),ai (aN (n:=n) (by omega)),o]
  exact f _ (by rw[aR])
def fA (cu ad b1:Nat):Nat:=22*cu*(jS b1 ad+1)
def fI (cu long total ad:Nat):Nat:=10*cu+3+9*long*ad/total
def worth (cu long total ad b1:Nat):Nat:=
 let u:=fA cu ad b1
 let d:=fI cu long total ad
 u/Nat.gcd u d*1000/(d/Nat.gcd u d)
structure Fair (cu long total ad b1:Nat):Prop where
 Si:1<=cu
 Di:cu<=long
 xt:long<=80
 y4:ad<=16
 Eg:1<=b1
 Eh:b1<=ad
 Ss:long<=total
 St:total<=1280
theorem Fair.up {cu long total ad b1:Nat} (h:Fair cu long total ad b1):fA cu ad b1<=8800:=by
 have a:=(Cv h.Eg h.Eh h.y4).1
 have:=h.Di;have:=h.xt
 unfold fA
 exact dK (sR (by omega:22*cu<=1760) (by omega:jS b1 ad+1<=5)) (by omega)
theorem Fair.mul {cu long total ad b1:Nat} (h:Fair cu long total ad b1):9*long*ad<=11520:=by
 have:=h.xt
 exact dK (sR (by omega:9*long<=720) h.y4) (by omega)
theorem Fair.down {cu long total ad b1:Nat} (h:Fair cu long total ad b1):0<fI cu long total ad/\fI cu long total ad<=12400:=by
 unfold fI
 have a:=h.mul
 have b:=nj (9*long*ad) total
 have:=h.Di;have:=h.xt
 generalize 9*long*ad/total=z at*
 exact⟨by omega,by omega⟩
theorem am9 (N:Nat) (v:1048576<N) {cu long total ad b1:Nat} (h:Fair cu long total ad b1):zY N cu long total ad b1=some (((fA cu ad b1/Nat.gcd (fA cu ad b1) (fI cu long total ad):Nat):Int),((fI cu long total ad/Nat.gcd (fA cu ad b1) (fI cu long total ad):Nat):Int),true):=by
 have t0:=h.Si;have t1:=h.Di;have t2:=h.xt;have t3:=h.y4;have t4:=h.Eg;have t5:=h.Eh;have t6:=h.Ss;have t7:=h.St
 obtain⟨a,b,c⟩:=Cv t4 t5 t3
 have l:=h.down
 have hu:=h.up
 have hm:=h.mul
 refine Def.get ?_
 unfold zY
 rw[hl,af,aq (by omega),aq (by omega),fX,bn,aj]
 rw[hl,af,aq (by omega),aq (by omega),fX,bn,aj]
 rw[hl,af,aq (by omega),aq (by omega),fX,bn,aj]
 rw[hl,af,aq (by omega),aq (by omega),fX,bn,aj]
 rw[hl,af,aq (by omega),aq (by omega),fX,bn,aj]
 have e:IntKind.bits .i64=64:=rfl
 have d:∀n:Nat,n<=4->(b1:Int)*2^(min ((n:Int)+1).toNat (IntKind.bits .i64))=((b1*2^(n+1):Nat):Int):=fun n i=>by
  rw[e,show((n:Int)+1).toNat=n+1 from by omega,ow (by omega),nr,Int.natCast_pow]
  rfl
 have f:∀n:Nat,n<=4->b1*2^(n+1)<=16*32:=fun n i=>sR (by omega) (by have:=yj (n:=2) (by omega) (show n+1<=5 by omega);omega)
 refine Def.upto (jS b1 ad) (fun n g=>g=((cu:Int),(long:Int),(total:Int),(ad:Int),(b1:Int),(n:Int),0,0)) (fun go g j=>?_) (fun go n g i j k=>?_) N 0 _ (bg _) rfl (by omega)
 .subst j
  dsimp only
  have o:=f _ a
  rw[ai (aN (by omega)),ai (by omega),d _ a]
  rw[ai (ep (by omega) (by omega)),ak (by omega),aj,ai (ep (by omega) (by omega)),ai (ep (by omega) (by omega))]
  have p:22*(cu:Int)*((jS b1 ad:Int)+1)=((fA cu ad b1:Nat):Int):=by unfold fA;rw[nr,nr];rfl
  have r:9*(long:Int)*(ad:Int)=((9*long*ad:Nat):Int):=by rw[nr,nr];rfl
  have t:10*(cu:Int)+3+((9*long*ad/total:Nat):Int)=((fI cu long total ad:Nat):Int):=by unfold fI;omega
  have u:=nj (9*long*ad) total
  rw[p,r,pw,t]
  have y:(0:Int)<=((9*long*ad/total:Nat):Int)/\((9*long*ad/total:Nat):Int)<=11520:=⟨Int.natCast_nonneg _,by omega⟩
  generalize((9*long*ad/total:Nat):Int)=z at*
  rw[ai (ep (by omega) (by omega)),ai (ep (by omega) (by omega)),ai (ep (by omega) (by omega)),ai (ep (by omega) (by omega)),ai (ep (by omega) (by omega)),ai (by omega),ai (ep (by omega) (by omega)),ai (ep (by omega) (by omega)),aly N _ _ (by omega) (by omega) l.1 (by omega),af]
  exact Def.ret rfl
 .subst j
  dsimp only
  have o:=f n (by omega)
  have A:=b n i
  rw[ai (aN (by omega)),ai (by omega),d _ (by omega),ai (ep (by omega) (by omega)),aq (by omega),ao,ai (aN (by omega))]
  exact k _ (by rw[aR])
theorem ajV (N:Nat) (p:1048576<N) {cu long total ad b1:Nat} (h:Fair cu long total ad b1):I0 N cu long total ad b1=some (((fA cu ad b1/Nat.gcd (fA cu ad b1) (fI cu long total ad):Nat):Int),((fI cu long total ad/Nat.gcd (fA cu ad b1) (fI cu long total ad):Nat):Int)):=by
 have t0:=h.Si;have t1:=h.Di;have t2:=h.xt;have t3:=h.y4;have t4:=h.Eg;have t5:=h.Eh;have t6:=h.Ss;have t7:=h.St
 obtain⟨a,b,c⟩:=Cv t4 t5 t3
 have d:=h.down
 have hu:=h.up
 have hm:=h.mul
 have e:=nj (9*long*ad) total
 refine Def.get ?_
 unfold I0
 refine Def.meet (fun g=>g=((cu:Int),(ad:Int),(b1:Int),((9*long*ad/total:Nat):Int),0,0)) (fun g f=>?_) (fun J i=>?_)
 .subst f
  dsimp only
  rw[ajU N b1 ad (by omega) t4 t5 t3,af]
  have j:(1+(jS b1 ad:Int))*22*(cu:Int)=((fA cu ad b1:Nat):Int):=by unfold fA;rw[nr,nr,Int.mul_assoc,Int.mul_comm];congr 1;omega
  have k:10*(cu:Int)+3+((9*long*ad/total:Nat):Int)=((fI cu long total ad:Nat):Int):=by unfold fI;omega
  rw[j,k]
  rw[ai (ep (by omega) (by omega)),ai (ep (by omega) (by omega)),ai (ep (by omega) (by omega)),ai (ep (by omega) (by omega)),ai (ep (by omega) (by omega)),ai (ep (by omega) (by omega)),akt N _ _ (by omega) d.1 (by omega) (by omega),af]
  exact Def.ret rfl
 .have l:(long:Int)*(ad:Int)*9=((9*long*ad:Nat):Int):=by rw[nr,nr,Int.mul_comm,Int.mul_assoc];rfl
  have o:(long:Int)*(ad:Int)=((long*ad:Nat):Int):=rfl
  have r:long*ad<=1280:=dK (sR t2 t3) (by omega)
  have t:(0:Int)<=((9*long*ad/total:Nat):Int)/\((9*long*ad/total:Nat):Int)<=11520:=⟨Int.natCast_nonneg _,by omega⟩
  rw[aq (by omega),ao,l,pw,o]
  generalize((9*long*ad/total:Nat):Int)=z at*
  rw[ai (ep (by omega) (by omega)),ai (ep (by omega) (by omega)),ai (by omega),ai (ep (by omega) (by omega))]
  exact i _ rfl
theorem anD (N:Nat) (f:1048576<N) {cu long total ad b1:Nat} (h:Fair cu long total ad b1):wJ N ((fA cu ad b1/Nat.gcd (fA cu ad b1) (fI cu long total ad):Nat):Int) ((fI cu long total ad/Nat.gcd (fA cu ad b1) (fI cu long total ad):Nat):Int) 1000=some (worth cu long total ad b1:Int):=by
 have b:=h.down
 have hu:=h.up
 have d:=zh (a:=fA cu ad b1) b.1
 have g:=nj (fA cu ad b1) (Nat.gcd (fA cu ad b1) (fI cu long total ad))
 have i:=nj (fI cu long total ad) (Nat.gcd (fA cu ad b1) (fI cu long total ad))
 have e:0<fI cu long total ad/Nat.gcd (fA cu ad b1) (fI cu long total ad):=Nat.div_pos (Nat.le_of_dvd b.1 (Nat.gcd_dvd_right _ _)) d
 rw[alx N _ _ (by omega) (by omega) e (by omega) (Nat.gcd_div_gcd_div_gcd_of_pos_right b.1)]
 rfl
theorem anE {cu long total ad b1:Nat} (h:Fair cu long total ad b1):worth cu long total ad b1<=8800000:=by
 have a:=h.down
 have hu:=h.up
 unfold worth
 dsimp only
 refine dK (nj _ _) ?_
 have:=nj (fA cu ad b1) (Nat.gcd (fA cu ad b1) (fI cu long total ad))
 omega
theorem aj6 (t:List UInt8):∀x r,t.drop (lead t)=x::r->e6 x=false:=by
 induction t with
 |nil=>intro x r h;simp at h
 |cons c t b=>
  intro x r h
  cases a:e6 c with
  |true=>rw[uv a,List.drop_succ_cons]at h;exact b x r h
  |false=>rw[BT a,qT,List.cons.injEq]at h;rw[<-h.1];exact a
theorem Jt (l:List UInt8) (p a:Int):2*(gY l p a).length<=l.length+1:=by
 match l with
 | []=>rw[ni];simp
 |c::t=>
  rw[gY]
  split
  .cases b:t.drop (lead t)with
   |nil=>rw[ni];simp
   |cons x r=>
    have d:=aj6 t x r b
    have e:r.length+1<=t.length:=by
     have:=congrArg List.length b
     simp only[eY,aZ]at this
     omega
    rw[Ju d]
    have:=Jt r (p+(lead t+1:Nat)+1) (a+1)
    simp only[aZ]at this⊢
    omega
  .have:=Jt t (p+1) a
   simp only[aZ];omega
termination_by l.length
decreasing_by all_goals (simp; try omega)
theorem anc (c:aL) (s:List UInt8) (h:s.length<=160):(dv c s).length<=80:=by
 have b:(dv c s).length<=(plain c.1 s).length:=Dg _ _
 have a:(plain c.1 s).length<=(words s).length:=sN _ _
 have d:=Jt s 0 0
 unfold words at a
 omega
def dI (l:List Nat):Nat:=l.foldr (· + ·) 0
theorem jq (a:Nat) (l:List Nat):dI (a::l)=a+dI l:=rfl
theorem u4 (a b:List Nat):dI (a++b)=dI a+dI b:=by
 induction a with
 |nil=>simp[dI]
 |cons x a d=>rw[jZ,jq,d,jq];omega
theorem am3 (l:List Nat) (n:Nat) (h:n<l.length):dI (l.take (n+1))=dI (l.take n)+l[n]:=by
 rw[ec h,u4]
 rfl
theorem sB (B:Nat):∀l:List Nat,(∀x,x∈l->x<=B)->dI l<=l.length*B
 | [],_=>by simp[dI]
 |x::l,h=>by
  have a:=h x (by simp)
  have b:=sB B l fun y hy=>h y (by simp[hy])
  rw[jq,aZ,Nat.succ_mul]
  omega
theorem Da {α:Type} (f:α->Nat):∀l:List α,(∀x,x∈l->f x=0)->dI (l.map f)=0
 | [],_=>rfl
 |x::l,h=>by rw[cv,jq,h x (by simp),Da f l fun y hy=>h y (by simp[hy])]
theorem R6 {α:Type} (f g:α->Nat):∀l:List α,dI (l.map fun x=>f x+g x)=dI (l.map f)+dI (l.map g)
 | []=>rfl
 |x::l=>by rw[cv,cv,cv,jq,jq,jq,R6 f g l];omega
theorem R8 {α β:Type} (f:α->β->Nat) (a:List α):∀b:List β,dI (a.map fun x=>dI (b.map fun y=>f x y))=dI (b.map fun y=>dI (a.map fun x=>f x y))
 | []=>by rw[pF];exact Da _ _ fun x _=>rfl
 |y::b=>by
  rw[cv,jq,<-R8 f a b,<-R6]
  rfl
theorem R7 {α:Type} (f:α->Nat):∀(l:List α) (x:α),x∈l->f x<=dI (l.map f)
 |y::l,x,h=>by
  rw[cv,jq]
  rcases bm.1 h with rfl|h
  .omega
  .have:=R7 f l x h;omega
def iw (field:List UInt8) (es:List cK):List cK:=es.filter fun e=>decide (e.1=field)
def hB (ps:List EPost):Nat:=dI (ps.map fun p=>p.2.length)
def B0 (es:List cK) (field:List UInt8) (id:Int):Nat:=dI ((iw field es).map fun e=>hB (e.2.2.filter fun p=>decide (p.1=id)))
def x9 (es:List cK) (field:List UInt8):Nat:=dI ((iw field es).map fun e=>hB e.2.2)
theorem K0 {α:Type} (p:α->Bool):∀l:List α,(l.filter p).length+(l.filter fun x=> !p x).length=l.length
 | []=>rfl
 |x::l=>by
  have a:=K0 p l
  rw[iX,iX]
  cases h:p x
  .simp only [nk,if_false,dt,if_true,aZ];omega
  .simp only [bn,nk,if_false,if_true,aZ];omega
theorem Sa :∀(T:List (List UInt8)) (a:List dp),T.Nodup->(∀t,t∈a->t.1∈T)->dI (T.map fun k=>(a.filter fun t=>decide (t.1=k)).length)=a.length
 | [],a,_,h=>by
  cases a with
  |nil=>rfl
  |cons t a=>exact absurd (h t (by simp)) (by simp)
 |k::T,a,d,h=>by
  rw[ot]at d
  rw[cv,jq]
  have j:=Sa T (a.filter fun t=> !decide (t.1=k)) d.2 fun t o=>by
   obtain⟨f,l⟩:=hp.1 o
   rcases bm.1 (h t f)with e|e
   .rw [aq e]at l;cases l
   .exact e
  have f:(T.map fun b=>((a.filter fun t=> !decide (t.1=k)).filter fun t=>decide (t.1=b)).length)=T.map fun b=>(a.filter fun t=>decide (t.1=b)).length:=by
   apply mg
   intro b g
   have i:b≠k:=fun e=>d.1 (e▸g)
   rw[List.filter_filter]
   congr 1
   apply List.filter_congr
   intro t _
   by_cases e:t.1=b
   .rw [aq e,ak (fun p=>i (e.symm.trans p))];rfl
   .rw [ak e];rfl
  rw[f]at j
  rw[j,K0]
def iC (c:aL) (field:List UInt8) (d:aC):Nat:=(dv c (eu d.2.1 field)).length
theorem DW (c:aL) (d:aC) (k:gL):(b2 c d k).length=((dv c (eu d.2.1 k.1)).filter fun t=>decide (t.1=k.2)).length:=by unfold b2;rw[dX]
theorem QX (c:aL) (P:Int->Bool) (k:gL):∀ad:List aC,hB ((ef c ad k).filter fun p=>P p.1)=dI (ad.map fun d=>if P d.1=true then(b2 c d k).length else 0)
 | []=>rfl
 |d::l=>by
  have a:=QX c P k l
  rw[cv,jq,<-a]
  unfold ef
  rw[vk]
  by_cases e:b2 c d k=[]
  .rw [ai e,e]
   simp
  .rw [aA e]
   dsimp only
   rw[iX]
   split
   .rename_i b
    unfold hB
    rw[cv,jq]
   .rename_i b
    rw[gK]
theorem KP {c:aL} {ad:List aC} {e:cK} (he:e∈eo c ad):e.2.2=ef c ad (e.1,e.2.1):=by
 unfold eo at he
 obtain⟨f,_,he⟩:=iY.1 he
 obtain⟨t,_,rfl⟩:=cd.1 he
 rfl
theorem Vr (c:aL) (ad:List aC):((eo c ad).map db).Nodup:=(KO c ad).imp fun {a b} h e=>by rw[e,HP]at h;cases h
def u7 (c:aL) (ad:List aC) (field:List UInt8):List (List UInt8):=(iw field (eo c ad)).map fun e=>e.2.1
theorem anb (c:aL) (ad:List aC) (field:List UInt8):(u7 c ad field).Nodup:=by
 unfold u7 iw
 have h:=qU.1 (Vr c ad)
 refine qU.2 ?_
 refine List.Pairwise.imp_of_mem (fun {a b} f g d e=>d ?_) (h.sublist (List.filter_sublist (p:=fun e:cK=>decide (e.1=field))))
 have i:=of_decide_eq_true (hp.1 f).2
 have j:=of_decide_eq_true (hp.1 g).2
 exact Prod.ext (i.trans j.symm) e
theorem Sg (c:aL) {ad:List aC} (b:eZ ad) (field:List UInt8) {d:aC} (h:d∈ad) {t:dp} (a:t∈dv c (eu d.2.1 field)):(field,t.1)∈(eo c ad).map db:=by
 rw[Ew c b.gB]
 by_cases e:field∈d.2.1.map (·.1)
 .obtain ⟨g,f,rfl⟩:=cd.1 e
  rw[y8 _ (b.gB.names d h) g f]at a
  exact⟨((g.1,t.1),d.1,t.2),iY.2 ⟨d,h,iY.2 ⟨g,f,cd.2 ⟨t,a,rfl⟩⟩⟩,rfl⟩
 .rw [EH _ _ e,Jk]at a;cases a
theorem ana (c:aL) {ad:List aC} (b:eZ ad) (field:List UInt8) {d:aC} (h:d∈ad):∀t,t∈dv c (eu d.2.1 field)->t.1∈u7 c ad field:=fun t f=>by
 obtain⟨e,he,a⟩:=cd.1 (Sg c b field h f)
 have g:e.1=field:=congrArg Prod.fst a
 have i:e.2.1=t.1:=congrArg Prod.snd a
 exact cd.2 ⟨e,hp.2 ⟨he,aq g⟩,i⟩
theorem Sb (c:aL) {ad:List aC} (f:eZ ad) (P:Int->Bool) (field:List UInt8):dI ((iw field (eo c ad)).map fun e=>hB (e.2.2.filter fun p=>P p.1))=dI (ad.map fun d=>if P d.1=true then iC c field d else 0):=by
 have a:((iw field (eo c ad)).map fun e=>hB (e.2.2.filter fun p=>P p.1))=(u7 c ad field).map fun t=>dI (ad.map fun d=>if P d.1=true then(b2 c d (field,t)).length else 0):=by
  unfold u7
  rw[ml]
  apply mg
  intro e he
  obtain⟨a,g⟩:=hp.1 he
  show hB (e.2.2.filter fun p=>P p.1)=dI (ad.map fun d=>if P d.1=true then(b2 c d (field,e.2.1)).length else 0)
  rw[KP a,of_decide_eq_true g]
  exact QX c P (field,e.2.1) ad
 rw[a,R8]
 congr 1
 apply mg
 intro d b
 split
 .have:=Sa (u7 c ad field) (dv c (eu d.2.1 field)) (anb c ad field) (ana c f field b)
  rw[<-show _=iC c field d from this]
  congr 1
  apply mg
  intro t _
  exact DW c d (field,t)
 .exact Da _ _ fun _ _=>rfl
def total (c:aL) (ad:List aC) (field:List UInt8):Nat:=dI (ad.map (iC c field))
def e2 (ad:List aC) (id:Int):Option aC:=ad.find? fun d=>decide (d.1=id)
def long (c:aL) (ad:List aC) (field:List UInt8) (id:Int):Nat:=match e2 ad id with
 |some d=>iC c field d
 |none=>0
theorem ano (c:aL) {ad:List aC} (a:eZ ad) (field:List UInt8):x9 (eo c ad) field=total c ad field:=by
 have h:=Sb c a (fun _=>true) field
 unfold x9 total
 rw[show(ad.map fun d=>if(fun _:Int=>true) d.1=true then iC c field d else 0)=ad.map (iC c field)from mg fun d _=>ai rfl]at h
 rw[<-h]
 congr 1
 apply mg
 intro e _
 rw[List.filter_eq_self.2 fun _ _=>rfl]
theorem K2 {id:Int}:∀ {ad:List aC},(ad.Pairwise fun a b=>a.1<b.1)->∀(f:aC->Nat),dI (ad.map fun d=>if decide (d.1=id)=true then f d else 0)=match e2 ad id with
  |some d=>f d
  |none=>0
 | [],_,f=>rfl
 |d::l,h,f=>by
  rw[ez]at h
  rw[cv,jq]
  unfold e2
  rw[nm]
  by_cases e:d.1=id
  .rw [aq e,ai rfl,Da _ l fun x g=>aA (by have:=h.1 x g;simp;omega)]
   rfl
  .rw [ak e,aA (by simp),K2 h.2 f]
   simp only[gK]
   rfl
theorem akk (c:aL) {ad:List aC} (a:eZ ad) (field:List UInt8) (id:Int):B0 (eo c ad) field id=long c ad field id:=by
 have h:=Sb c a (fun n=>decide (n=id)) field
 rw[K2 a.gB.ids]at h
 exact h
def oa (es:List cK) (field term:List UInt8):List EPost:=match es.find? fun e=>decide (e.1=field)&&decide (e.2.1=term)with
 |some e=>e.2.2
 |none=>[]
def tc (ps:List EPost) (id:Int):List Int:=match ps.find? fun p=>decide (p.1=id)with
 |some p=>p.2
 |none=>[]
theorem Co (c:aL) {ad:List aC} (g:eZ ad) (field term:List UInt8):oa (eo c ad) field term=ef c ad (field,term):=by
 unfold oa
 cases h:(eo c ad).find? fun e=>decide (e.1=field)&&decide (e.2.1=term)with
 |some e=>
  have b:=List.find?_some h
  rw[bk,bz,bz]at b
  dsimp only
  rw[KP (oq h),b.1,b.2]
 |none=>
  dsimp only
  symm
  unfold ef
  rw[List.filterMap_eq_nil_iff]
  intro d f
  have:b2 c d (field,term)=[]:=by
   unfold b2
   rw[List.map_eq_nil_iff,List.filter_eq_nil_iff]
   intro t i j
   have hm:=Sg c g field f i
   rw[of_decide_eq_true j]at hm
   obtain⟨e,he,a⟩:=cd.1 hm
   have:=vl.1 h e he
   rw[show e.1=field from congrArg Prod.fst a,show e.2.1=term from congrArg Prod.snd a]at this
   simp at this
  rw[ai this]
def eG (c:aL) (ad:List aC) (k:gL) (id:Int):List Int:=match e2 ad id with
 |some d=>b2 c d k
 |none=>[]
theorem DU (c:aL) (k:gL) (id:Int):∀ {ad:List aC},(ad.Pairwise fun a b=>a.1<b.1)->tc (ef c ad k) id=eG c ad k id
 | [],_=>rfl
 |d::l,h=>by
  rw[ez]at h
  have i:=DU c k id h.2
  unfold eG e2
  rw[nm]
  unfold ef
  rw[vk]
  by_cases e:d.1=id
  .rw [aq e]
   dsimp only
   by_cases g:b2 c d k=[]
   .rw [ai g,g]
    dsimp only
    unfold tc
    rw[vl.2]
    intro p j
    obtain⟨x,o,f⟩:=qV.1 j
    split at f
    .cases f
    .cases f
     have:=h.1 x o
     simp
     omega
   .rw [aA g]
    dsimp only
    unfold tc
    rw[nm,aq e]
  .rw [ak e]
   dsimp only
   unfold eG e2 at i
   rw[<-i]
   by_cases g:b2 c d k=[]
   .rw [ai g]
    rfl
   .rw [aA g]
    dsimp only
    unfold tc
    rw[nm,ak e]
    rfl
def iU (c:aL) (ad:List aC) (field term:List UInt8) (id:Int):Nat:=
 if(eG c ad (field,term) id).length=0 then 0 else worth (eG c ad (field,term) id).length (long c ad field id) (total c ad field) ad.length (ef c ad (field,term)).length
theorem Dl (c:aL) {ad:List aC} (a:eZ ad) (field:List UInt8) {d:aC} (h:d∈ad):iC c field d<=80:=anc c _ (a.text h field)
theorem anp (c:aL) {ad:List aC} (b:eZ ad) (field:List UInt8):total c ad field<=1280:=by
 unfold total
 refine dK (sB 80 _ fun x e=>?_) (by rw[dX];have:=b.cS;omega)
 obtain⟨d,a,rfl⟩:=cd.1 e
 exact Dl c b field a
theorem Iy (c:aL) {ad:List aC} (a:eZ ad) (field term:List UInt8) (id:Int) (h:(eG c ad (field,term) id).length≠0):Fair (eG c ad (field,term) id).length (long c ad field id) (total c ad field) ad.length (ef c ad (field,term)).length:=by
 unfold eG long at*
 cases b:e2 ad id with
 |none=>rw[b]at h;exact absurd rfl h
 |some d=>
  rw[b]at h
  dsimp only at*
  have hm:d∈ad:=oq b
  have g:=Dl c a field hm
  have hle:(b2 c d (field,term)).length<=iC c field d:=by rw[DW];exact hK _ _
  have i:(ef c ad (field,term)).length<=ad.length:=sN _ _
  have f:1<=(ef c ad (field,term)).length:=by
   have:(d.1,b2 c d (field,term))∈ef c ad (field,term):=qV.2 ⟨d,hm,by rw[aA (fun e=>h (by rw[e];rfl))]⟩
   exact List.length_pos_of_mem this
  exact⟨by omega,hle,g,a.cS,f,i,R7 (iC c field) ad d hm,anp c a field⟩
theorem xF (c:aL) {ad:List aC} (a:eZ ad) (field term:List UInt8) (id:Int):iU c ad field term id<=8800000:=by
 unfold iU
 split
 .omega
 .rename_i h
  exact anE (Iy c a field term id h)
theorem sv {α d ρ:Type} (F:(d->Option ρ)->d->Option ρ) (xs:List α) (st:Nat->d) (p:α->Bool) (r:α->ρ) (e:ρ) (z:d) (R:ρ) (i:z=st 0) (j:(xs.find? p).elim e r=R) (b:∀go,F go (st xs.length)=some e)
  (a:∀go (n:Nat) (h:n<xs.length),F go (st n)=bif p xs[n]then some (r xs[n])else go (st (n+1))) (N:Nat) (h:xs.length<N):iter F N z=some R:=by
 subst i
 have:=dB F xs.length st (fun n=>some (((xs.drop n).find? p).elim e r)) (fun go=>by rw[b,lE];rfl) (fun go n g f=>by
  rw[a go n g,f,fC g,nm]
  cases p xs[n]<;>rfl) N 0 (bg _) (by omega)
 rw[this,<-j]
 rfl
theorem n4 {ad:List aC} (h:eM ad=true):∀d,d∈ad->hg d=true:=fun d b=>by
 unfold eM at h
 rw[bk,bz]at h
 obtain⟨n,a,rfl⟩:=fe.1 b
 have:=mv h.1 a
 unfold pf at this
 rw[bk,<-nB a]at this
 exact this.1
theorem Ib {d:aC} (h:hg d=true):d.2.1.length<=3/\d.2.2.length<=3/\∀f,f∈d.2.1->fz f.2=true:=by
 unfold hg at h
 simp only[bk,bz]at h
 refine⟨by omega,by omega,fun f e=>?_⟩
 obtain⟨n,b,rfl⟩:=fe.1 e
 have a:=mv h.1.2 b
 unfold okF at a
 rw[bk,bk,<-oN b]at a
 exact a.1.2
theorem VB {a:List ei} (h:∀f,f∈a->fz f.2=true) (name:List UInt8):fz (eu a name)=true:=by
 induction a with
 |nil=>rfl
 |cons f l b=>
  unfold eu
  split
  .exact h f b6
  .exact b fun g d=>h g (b7 _ d)
structure ff (N:Nat) (c:aL) (s:cB):Prop where
 dk:bF<N
 top:N<=16777216
 cV:cz bF gm c
 gu:∀x,x∈s.1->cz bF fE x
 ok:hh c s=true
theorem iy {c:aL} {s:cB} (h:hh c s=true):dQ c=true/\eZ s.1/\s.2=eo c s.1:=by
 unfold hh at h
 simp only[bk,bz]at h
 exact⟨h.1,l9 h.2.1,h.2.2.symm⟩
theorem uL {c:aL} {s:cB} (h:hh c s=true):eM s.1=true:=by
 unfold hh at h
 simp only[bk,bz]at h
 exact h.2.1
theorem ff.dY {N:Nat} {c:aL} {s:cB} (h:ff N c s):eZ s.1:=(iy h.ok).2.1
theorem ff.nE {N:Nat} {c:aL} {s:cB} (h:ff N c s):s.2=eo c s.1:=(iy h.ok).2.2
theorem ff.m {N:Nat} {c:aL} {s:cB} (h:ff N c s):1048576<N:=h.dk
theorem ff.small {N:Nat} {c:aL} {s:cB} (h:ff N c s):Small 7680 s.2:=by rw[h.nE];exact vQ c h.dY
theorem U6 (N:Nat) (b:bF<N) (p:N<=16777216) (d:aC) (h:cz bF fE d) (g:hg d=true) (name:List UInt8):zS N d.1 d.2.1 d.2.2 name=some (eu d.2.1 name):=by
 have i:1048576<N:=b
 have r:=(Ib g).1
 unfold zS
 rw[y2 N b (by omega) d.1 d.2.1 d.2.2 h,af,g,ao]
 have j:∀a:List ei,(match a.find? (fun f=>decide (f.1=name))with
   |some f=>f.2
   |none=>[])=eu a name:=fun a=>by
  induction a with
  |nil=>rfl
  |cons f l k=>
   unfold eu
   rw[nm,<-k]
   by_cases e:f.1=name
   .rw [aq e,ai e]
   .rw [ak e,aA e]
 rw[<-j]
 refine sv _ d.2.1 (fun n=>(name,d.2.1,(d.2.1.length:Int),(n:Int))) (fun f=>decide (f.1=name)) (·.2) [] _ _ rfl (by cases d.2.1.find? fun f=>decide (f.1=name)<;>rfl) (fun go=>?_) (fun go n o=>?_) N (by omega)
 .dsimp only
  rw[ak (bp _),aj]
 .dsimp only
  rw[aq (by omega:(n:Int)<d.2.1.length),ao,aO o,af,ai (aN (n:=n) (by omega)),aR]
theorem RG (N:Nat) (s:cB) (id:Int) (h:s.1.length<N) (b:N<=16777216):wK N s id=some (match e2 s.1 id with
  |some d=>(d.1,d.2.1,d.2.2,true)
  |none=>(0,[],[],false)):=by
 unfold wK e2
 refine sv _ s.1 (fun n=>(id,s.1,(s.1.length:Int),(n:Int),(0:Int))) (fun d=>decide (d.1=id)) (fun d:aC=>(d.1,d.2.1,d.2.2,true)) (0,[],[],false) _ _ rfl (by cases s.1.find? fun d=>decide (d.1=id)<;>rfl) (fun go=>?_) (fun go n a=>?_) N h
 .dsimp only
  rw[ak (bp _),aj]
 .dsimp only
  rw[aq (by omega:(n:Int)<s.1.length),ao,aO a,af,ai (aN (n:=n) (by omega)),aR]
theorem RH (N:Nat) {c:aL} {s:cB} (g:ff N c s) (field:List UInt8) (id:Int):wL N s c.1 c.2 field id=some (long c s.1 field id:Int):=by
 have e:=g.m
 have a:=g.top
 have f:=g.dY.cS
 unfold wL long
 rw[RG N s id (by omega) a,af]
 cases h:e2 s.1 id with
 |none=>rfl
 |some d=>
  dsimp only
  have hm:d∈s.1:=oq h
  have b:=n4 (uL g.ok) d hm
  have hlen:=g.dY.text hm field
  rw[bn,aj,U6 N g.dk a d (g.gu d hm) b field,af,Dh N c _ (by omega) g.dk (by omega) g.cV,(iy g.ok).1,VB (Ib b).2.2 field,fX,ao,af]
  rfl
theorem RJ (N:Nat) (s:cB) (field term:List UInt8) (h:s.2.length<N) (d:N<=16777216):wM N s field term=some (oa s.2 field term):=by
 unfold wM oa
 refine sv _ s.2 (fun n=>(field,term,s.2,(s.2.length:Int),(n:Int))) (fun e=>decide (e.1=field)&&decide (e.2.1=term)) (·.2.2) [] _ _ rfl (by cases s.2.find? fun e=>decide (e.1=field)&&decide (e.2.1=term)<;>rfl) (fun go=>?_) (fun go n b=>?_) N h
 .dsimp only
  rw[ak (bp _),aj]
 .dsimp only
  rw[aq (by omega:(n:Int)<s.2.length),ao,aO b,af,ai (aN (n:=n) (by omega)),aR]
  by_cases a:s.2[n].1=field
  .rw [aq a,ao,ck]
  .rw [ak a,aj,ov,aj]
theorem PT (N:Nat) (s:cB) (field term:List UInt8) (h:s.2.length<N) (d:N<=16777216):CX N s.1 s.2 field term=some (oa s.2 field term):=by
 unfold CX oa
 refine sv _ s.2 (fun n=>(field,term,(n:Int),s.1,s.2)) (fun e=>decide (e.1=field)&&decide (e.2.1=term)) (·.2.2) [] _ _ rfl (by cases s.2.find? fun e=>decide (e.1=field)&&decide (e.2.1=term)<;>rfl) (fun go=>?_) (fun go n b=>?_) N h
 .dsimp only
  rw[ak (bp _),aj]
 .dsimp only
  rw[aq (by omega:(n:Int)<s.2.length),ao,aO b,af,af,af,ai (aN (n:=n) (by omega)),aR]
  by_cases a:s.2[n].1=field
  .rw [aq a,ao,ck]
  .rw [ak a,aj,ov,aj]
theorem QW {es:List cK} {m:Nat} (h:Small m es) (field term:List UInt8):(oa es field term).length<=m:=by
 unfold oa
 cases a:es.find? fun e=>decide (e.1=field)&&decide (e.2.1=term)with
 |none=>simp
 |some e=>exact(h.2 e (oq a)).1
theorem Iu (N:Nat) {c:aL} {s:cB} (g:ff N c s) (x:aL) (field term:List UInt8) (id:Int):tR N (x,s) field term id=some (eG c s.1 (field,term) id):=by
 have f:=g.m
 have a:=g.top
 have b:=g.small.1
 have d:=QW g.small field term
 unfold tR
 rw[RJ N s field term (by omega) a,af]
 have h:=DU c (field,term) id g.dY.gB.ids
 rw[<-Co c g.dY,<-g.nE]at h
 rw[<-h]
 unfold tc
 generalize oa s.2 field term=ps at*
 refine sv _ ps (fun n=>(id,ps,(ps.length:Int),(n:Int))) (fun p=>decide (p.1=id)) (·.2) [] _ _ rfl (by cases ps.find? fun p=>decide (p.1=id)<;>rfl) (fun go=>?_) (fun go n e=>?_) N (by omega)
 .dsimp only
  rw[ak (bp _),aj]
 .dsimp only
  rw[aq (by omega:(n:Int)<ps.length),ao,aO e,af,ai (aN (n:=n) (by omega)),aR]
theorem Hx (N:Nat) {c:aL} {s:cB} (g:ff N c s) (field term:List UInt8) (id:Int):xP N s.1 s.2 field term id=some (eG c s.1 (field,term) id):=by
 have f:=g.m
 have a:=g.top
 have b:=g.small.1
 have d:=QW g.small field term
 unfold xP
 rw[PT N s field term (by omega) a,af]
 have h:=DU c (field,term) id g.dY.gB.ids
 rw[<-Co c g.dY,<-g.nE]at h
 rw[<-h]
 unfold tc
 generalize oa s.2 field term=ps at*
 refine sv _ ps (fun n=>(id,ps,(n:Int))) (fun p=>decide (p.1=id)) (·.2) [] _ _ rfl (by cases ps.find? fun p=>decide (p.1=id)<;>rfl) (fun go=>?_) (fun go n e=>?_) N (by omega)
 .dsimp only
  rw[ak (bp _),aj]
 .dsimp only
  rw[aq (by omega:(n:Int)<ps.length),ao,aO e,af,af,ai (aN (n:=n) (by omega)),aR]
theorem HF {m:Nat} {ps:List EPost} (a:ps.length<=m) (b:∀p,p∈ps->p.2.length<=m):hB ps<=m*m:=by
 unfold hB
 refine dK (sB m _ fun x d=>?_) (by rw[dX];exact eh m a)
 obtain⟨p,e,rfl⟩:=cd.1 d
 exact b p e
theorem ajW (N:Nat) {c:aL} {s:cB} (g:ff N c s) (field:List UInt8):I1 N s.1 s.2 field=some (total c s.1 field:Int):=by
 have Q:=g.m
 have S:=g.top
 have a:=g.small
 rw[<-ano c g.dY,<-g.nE]
 let ins:cK->Nat:=fun e=>if e.1=field then hB e.2.2 else 0
 have i:∀es:List cK,x9 es field=dI (es.map ins):=fun es=>by
  unfold x9 iw
  induction es with
  |nil=>rfl
  |cons e es H=>
   rw[cv,jq,<-H,iX]
   by_cases h:e.1=field
   .rw [ai (aq h),cv,jq,show ins e=hB e.2.2 from ai h]
   .rw [aA (by simp[h]),show ins e=0 from aA h,gK]
 have I:∀e,e∈s.2->ins e<=7680*7680:=fun e he=>by
  show(if e.1=field then hB e.2.2 else 0)<=_
  split
  .exact HF (a.2 e he).1 (a.2 e he).2
  .omega
 have l:∀n,dI ((s.2.take n).map ins)<=7680*(7680*7680):=fun n=>by
  refine dK (sB (7680*7680) _ fun x J=>?_) (eh _ ?_)
  .obtain ⟨e,he,rfl⟩:=cd.1 J
   exact I e (fK he)
  .rw [dX,bX];have:=a.1;omega
 refine Def.get ?_
 unfold I1
 refine Def.upto s.2.length (fun n v=>v=(field,((dI ((s.2.take n).map ins):Nat):Int),(n:Int),s.1,s.2)) (fun go v d=>?_) (fun go n v o d z=>?_) N 0 _ (bg _) rfl (by have:=a.1;omega)
 .subst d
  dsimp only
  rw[ak (bp _),aj,cl]
  exact Def.ret (by rw[i])
 .subst d
  dsimp only
  have hm:s.2[n]∈s.2:=bA o
  have t:=a.2 _ hm
  have f:dI ((s.2.take (n+1)).map ins)=dI ((s.2.take n).map ins)+ins s.2[n]:=by
   rw[ec o,iD,u4]
   rfl
  have K:=l n
  rw[aq (by omega:(n:Int)<s.2.length),ao]
  have L:=a.1
  have b:∀k:Nat,k=ins s.2[n]->Def (if fits ((n:Int)+1)then go (field,((dI ((s.2.take n).map ins)+k:Nat):Int),(n:Int)+1,s.1,s.2)else none) fun r=>r=(x9 s.2 field:Int):=fun k M=>by
   rw[ai (aN (n:=n) (by omega))]
   exact z _ (by rw[f,M,aR])
  generalize dI ((s.2.take n).map ins)=acc at*
  by_cases y:s.2[n].1=field
  .have hi:ins s.2[n]=hB s.2[n].2.2:=ai y
   have A:∀j,hB (s.2[n].2.2.take j)<=7680*7680:=fun j=>HF (by rw[bX];omega) fun p O=>t.2 p (fK O)
   refine Def.upto s.2[n].2.2.length (fun j v=>v=(field,((acc+hB (s.2[n].2.2.take j):Nat):Int),(n:Int),(j:Int),s.1,s.2)) (fun go2 v d=>?_) (fun go2 j v B d u=>?_) N 0 _ (bg _) rfl (by omega)
   .subst d
    dsimp only
    rw[aO o,af,ak (bp _),aj,cl]
    exact b _ hi.symm
   .subst d
    dsimp only
    have P:=t.2 _ (bA B)
    have T:=A j
    rw[aO o,af,aq (by omega:(j:Int)<s.2[n].2.2.length),ao,af,aq y,ao,af,aO B,af,ai (ep (by omega) (by omega)),ai (aN (n:=j) (by omega))]
    refine u _ ?_
    have C:hB (s.2[n].2.2.take (j+1))=hB (s.2[n].2.2.take j)+s.2[n].2.2[j].2.length:=by
     unfold hB
     rw[ec B,iD,u4]
     rfl
    rw[C,aR,<-mm,Int.natCast_add (acc+_)]
  .have hi:ins s.2[n]=0:=aA y
   have F:=b 0 hi.symm
   rw[lH]at F
   cases N with
   |zero=>omega
   |succ N=>
    show Def (Option.bind (idx s.2 n) _) _
    rw[aO o,af]
    by_cases G:(0:Int)<s.2[n].2.2.length
    .rw [aq G,ao,af]
     dsimp only
     rw[ak y,aj]
     exact F
    .rw [ak G,aj]
     exact F
theorem aj1 (N:Nat) {c:aL} {s:cB} (g:ff N c s) (field:List UInt8) (id:Int):I3 N s.1 s.2 field id=some (long c s.1 field id:Int):=by
 have W:=g.m
 have X:=g.top
 have b:=g.small
 rw[<-akk c g.dY,<-g.nE]
 let a:List EPost->Nat:=fun ps=>hB (ps.filter fun p=>decide (p.1=id))
 have u:∀(ps:List EPost) (j:Nat) (l:j<ps.length),a (ps.take (j+1))=a (ps.take j)+(if ps[j].1=id then ps[j].2.length else 0):=fun ps j l=>by
  show hB _=hB _+_
  rw[ec l,kV]
  unfold hB
  rw[iD,u4]
  congr 1
  by_cases e:ps[j].1=id
  .rw [ai e,iX,ai (aq e)];rfl
  .rw [aA e,iX,aA (by simp[e])];rfl
 let ins:cK->Nat:=fun e=>if e.1=field then a e.2.2 else 0
 have y:∀es:List cK,B0 es field id=dI (es.map ins):=fun es=>by
  unfold B0 iw
  induction es with
  |nil=>rfl
  |cons e es L=>
   rw[cv,jq,<-L,iX]
   by_cases h:e.1=field
   .rw [ai (aq h),cv,jq,show ins e=a e.2.2 from ai h]
   .rw [aA (by simp[h]),show ins e=0 from aA h,gK]
 have z:∀(ps:List EPost),ps.length<=7680->(∀p,p∈ps->p.2.length<=7680)->a ps<=7680*7680:=fun ps M O=>
  HF (dK (hK _ _) M) fun p G=>O p (hp.1 G).1
 have P:∀e,e∈s.2->ins e<=7680*7680:=fun e he=>by
  show(if e.1=field then a e.2.2 else 0)<=_
  split
  .exact z _ (b.2 e he).1 (b.2 e he).2
  .omega
 have A:∀n,dI ((s.2.take n).map ins)<=7680*(7680*7680):=fun n=>by
  refine dK (sB (7680*7680) _ fun x Q=>?_) (eh _ ?_)
  .obtain ⟨e,he,rfl⟩:=cd.1 Q
   exact P e (fK he)
  .rw [dX,bX];have:=b.1;omega
 refine Def.get ?_
 unfold I3
 refine Def.upto s.2.length (fun n v=>v=(field,id,((dI ((s.2.take n).map ins):Nat):Int),(n:Int),s.1,s.2)) (fun go v o=>?_) (fun go n v B o H=>?_) N 0 _ (bg _) rfl (by have:=b.1;omega)
 .subst o
  dsimp only
  rw[ak (bp _),aj,cl]
  exact Def.ret (by rw[y])
 .subst o
  dsimp only
  have hm:s.2[n]∈s.2:=bA B
  have C:=b.2 _ hm
  have t:dI ((s.2.take (n+1)).map ins)=dI ((s.2.take n).map ins)+ins s.2[n]:=by
   rw[ec B,iD,u4]
   rfl
  have S:=A n
  rw[aq (by omega:(n:Int)<s.2.length),ao]
  have T:=b.1
  have d:∀k:Nat,k=ins s.2[n]->Def (if fits ((n:Int)+1)then go (field,id,((dI ((s.2.take n).map ins)+k:Nat):Int),(n:Int)+1,s.1,s.2)else none) fun r=>r=(B0 s.2 field id:Int):=fun k U=>by
   rw[ai (aN (n:=n) (by omega))]
   exact H _ (by rw[t,U,aR])
  generalize dI ((s.2.take n).map ins)=acc at*
  by_cases F:s.2[n].1=field
  .have hi:ins s.2[n]=a s.2[n].2.2:=ai F
   have I:∀j,a (s.2[n].2.2.take j)<=7680*7680:=fun j=>z _ (by rw[bX];omega) fun p G=>C.2 p (fK G)
   refine Def.upto s.2[n].2.2.length (fun j v=>v=(field,id,((acc+a (s.2[n].2.2.take j):Nat):Int),(n:Int),(j:Int),s.1,s.2)) (fun go2 v o=>?_) (fun go2 j v l o i=>?_) N 0 _ (bg _) rfl (by omega)
   .subst o
    dsimp only
    rw[aO B,af,ak (bp _),aj,cl]
    exact d _ hi.symm
   .subst o
    dsimp only
    have V:=C.2 _ (bA l)
    have Y:=I j
    have f:=u s.2[n].2.2 j l
    rw[aO B,af,aq (by omega:(j:Int)<s.2[n].2.2.length),ao,af,aq F,ao,af,aO l,af]
    by_cases e:s.2[n].2.2[j].1=id
    .rw [aq e,ao,af,aO l,af,ai (ep (by omega) (by omega)),ai (aN (n:=j) (by omega))]
     refine i _ ?_
     rw[ai e]at f
     rw[f,aR,<-mm,Int.natCast_add (acc+_)]
    .rw [ak e,aj,ai (aN (n:=j) (by omega))]
     refine i _ ?_
     rw[aA e]at f
     rw[f,aR,lH]
  .have hi:ins s.2[n]=0:=aA F
   have J:=d 0 hi.symm
   rw[lH]at J
   cases N with
   |zero=>omega
   |succ N=>
    show Def (Option.bind (idx s.2 n) _) _
    rw[aO B,af]
    by_cases K:(0:Int)<s.2[n].2.2.length
    .rw [aq K,ao,af]
     dsimp only
     rw[ak F,aj]
     exact J
    .rw [ak K,aj]
     exact J
theorem Hz (N:Nat) {c:aL} {s:cB} (g:ff N c s) (field term:List UInt8) (id:Int):xQ N s.1 s.2 field term id=some (iU c s.1 field term id:Int):=by
 have f:=g.m
 have i:=g.top
 have j:=g.small.1
 have k:=fun h=>Iy c g.dY field term id h
 unfold xQ iU
 rw[Hx N g field term id,af]
 by_cases h:(eG c s.1 (field,term) id).length=0
 .rw [aq (by omega),ao,ai h];rfl
 .have b:=k h
  have e:=b.down
  have hu:=b.up
  have d:=zh (a:=fA (eG c s.1 (field,term) id).length s.1.length (ef c s.1 (field,term)).length) e.1
  have l:=nj (fA (eG c s.1 (field,term) id).length s.1.length (ef c s.1 (field,term)).length) (Nat.gcd (fA (eG c s.1 (field,term) id).length s.1.length (ef c s.1 (field,term)).length) (fI (eG c s.1 (field,term) id).length (long c s.1 field id) (total c s.1 field) s.1.length))
  have o:0<fI (eG c s.1 (field,term) id).length (long c s.1 field id) (total c s.1 field) s.1.length/Nat.gcd (fA (eG c s.1 (field,term) id).length s.1.length (ef c s.1 (field,term)).length) (fI (eG c s.1 (field,term) id).length (long c s.1 field id) (total c s.1 field) s.1.length):=Nat.div_pos (Nat.le_of_dvd e.1 (Nat.gcd_dvd_right _ _)) d
  rw[ak (by omega),aj,aA h,aj1 N g,af,ajW N g,af,PT N s field term (by omega) i,af,g.nE,Co c g.dY,ajV N f b,af]
  dsimp only
  unfold worth
  dsimp only
  generalize fA (eG c s.1 (field,term) id).length s.1.length (ef c s.1 (field,term)).length/Nat.gcd (fA (eG c s.1 (field,term) id).length s.1.length (ef c s.1 (field,term)).length) (fI (eG c s.1 (field,term) id).length (long c s.1 field id) (total c s.1 field) s.1.length)=u at*
  generalize fI (eG c s.1 (field,term) id).length (long c s.1 field id) (total c s.1 field) s.1.length/Nat.gcd (fA (eG c s.1 (field,term) id).length s.1.length (ef c s.1 (field,term)).length) (fI (eG c s.1 (field,term) id).length (long c s.1 field id) (total c s.1 field) s.1.length)=v at*
  rw[show(u:Int)*1000=((u*1000:Nat):Int)from by omega,ai (ep (by omega) (by omega)),ai (by omega),ai (tt (by omega)),pw]
theorem Iw (N:Nat) {c:aL} {s:cB} (g:ff N c s) (field term:List UInt8) (id:Int):tS N (c,s) field term id=some (iU c s.1 field term id:Int):=by
 have o:=g.m
 have y:=g.top
 have z:=g.small.1
 have r:=g.dY.cS
 have A:=fun h=>Iy c g.dY field term id h
 refine Def.get ?_
 unfold tS iU
 rw[Iu N g c field term id,af]
 by_cases h:(eG c s.1 (field,term) id).length=0
 .rw [aq (by omega),ao,ai h]
  exact Def.ret rfl
 .have t:=A h
  have j:∀n,dI ((s.1.take n).map (iC c field))<=16*80:=fun n=>by
   refine dK (sB 80 _ fun x B=>?_) (eh 80 ?_)
   .obtain ⟨d,C,rfl⟩:=cd.1 B
    exact Dl c g.dY field (fK C)
   .rw [dX,bX];omega
  rw[ak (by omega),aj,aA h]
  generalize eG c s.1 (field,term) id=at' at*
  refine Def.upto s.1.length (fun n v=>v=((c,s),field,term,id,at',((dI ((s.1.take n).map (iC c field)):Nat):Int),s.1,(s.1.length:Int),(n:Int))) (fun go v k=>?_) (fun go n v i k l=>?_) N 0 _ (bg _) rfl (by omega)
  .subst k
   dsimp only
   rw[ak (bp _),aj,cl,RH N g,af,RJ N s field term (by omega) y,af,g.nE,Co c g.dY,show dI (s.1.map (iC c field))=total c s.1 field from rfl,am9 N o t,af]
   dsimp only
   rw[anD N o t,af]
   exact Def.ret rfl
  .subst k
   dsimp only
   have F:=j n
   have b:s.1[n]∈s.1:=bA i
   have e:long c s.1 field s.1[n].1=iC c field s.1[n]:=by
    unfold long e2
    have:(s.1.find? fun d=>decide (d.1=s.1[n].1))=some s.1[n]:=by
     cases f:s.1.find? fun d=>decide (d.1=s.1[n].1)with
     |none=>have:=vl.1 f _ b;simp at this
     |some d=>
      have H:d.1=s.1[n].1:=of_decide_eq_true (List.find?_some (p:=fun d:aC=>decide (d.1=s.1[n].1)) f)
      obtain⟨m,hm,rfl⟩:=fe.1 (oq f)
      have u:=mh.1 g.dY.gB.ids
      rcases sT m n with a|a|a
      .have:=u m n hm i a;omega
      .subst a;rfl
      .have:=u n m i hm a;omega
    rw[this]
   have G:=Dl c g.dY field b
   rw[aq (by omega:(n:Int)<s.1.length),ao,aO i,af,RH N g,af,e,ai (ep (by omega) (by omega)),ai (aN (n:=n) (by omega))]
   refine l _ ?_
   rw[ec i,iD,u4,aR,Int.natCast_add]
   rfl
def KV (x:UInt8) (b:List UInt8) (s:List Int×Int) (k:Nat):List Int×Int:=
 (s.1.set (k+1) (min (s.2+(if x=b.getD k 0 then 0 else 1)) (min (s.1.getD k 0) (s.1.getD (k+1) 0)+1)),s.1.getD (k+1) 0)
def kc (x:UInt8) (b:List UInt8) (row:List Int) (i k:Nat):List Int×Int:=(List.range k).foldl (KV x b) (row.set 0 ((i:Int)+1),row.getD 0 0)
def KW (a b:List UInt8) (row:List Int) (i:Nat):List Int:=(kc (a.getD i 0) b row i b.length).1
def qi (n k:Nat):List Int:=(List.range k).foldl (fun row j=>row.set j (j:Int)) (List.replicate n 0)
def iq (a b:List UInt8) (i:Nat):List Int:=(List.range i).foldl (KW a b) (qi (b.length+1) (b.length+1))
def jH (a b:List UInt8):Int:=(iq a b a.length).getD b.length 0
theorem y7 (x:UInt8) (b:List UInt8) (row:List Int) (i k:Nat):kc x b row i (k+1)=KV x b (kc x b row i k) k:=by unfold kc;rw[List.range_succ,hU];rfl
theorem FZ (n k:Nat):qi n (k+1)=(qi n k).set k (k:Int):=by unfold qi;rw[List.range_succ,hU];rfl
theorem EE (a b:List UInt8) (i:Nat):iq a b (i+1)=KW a b (iq a b i) i:=by unfold iq;rw[List.range_succ,hU];rfl
def k5 (L m:Nat) (row:List Int):Prop:=row.length=L+1/\∀v,v∈row->0<=v/\v<=(m:Int)
theorem k5.at {L m:Nat} {row:List Int} (h:k5 L m row) (k:Nat):0<=row.getD k 0/\row.getD k 0<=(m:Int):=by
 rw[nn]
 by_cases a:k<row.length
 .rw [bH a]
  exact h.2 _ (bA a)
 .rw [kr (by omega)]
  exact⟨iF _,Int.natCast_nonneg _⟩
theorem k5.set {L m:Nat} {row:List Int} (h:k5 L m row) (k:Nat) {v:Int} (a:0<=v) (b:v<=(m:Int)):k5 L m (row.set k v):=by
 refine⟨by rw[mj];exact h.1,fun x d=>?_⟩
 rcases List.mem_or_eq_of_mem_set d with e|rfl
 .exact h.2 x e
 .exact ⟨a,b⟩
theorem k5.mono {L m n:Nat} {row:List Int} (h:k5 L m row) (hm:m<=n):k5 L n row:=⟨h.1,fun v a=>⟨(h.2 v a).1,by have:=(h.2 v a).2;omega⟩⟩
theorem FY (L k:Nat) (d:k<=L+1):k5 L L (qi (L+1) k):=by
 induction k with
 |zero=>
  refine⟨by simp[qi],fun v a=>?_⟩
  have:v=0:=List.eq_of_mem_replicate (n:=L+1) a
  omega
 |succ k b=>
  rw[FZ]
  exact(b (by omega)).set k (by omega) (by omega)
theorem getD_set_ne {l:List Int} {i j:Nat} (v:Int) (h:i≠j):(l.set i v).getD j 0=l.getD j 0:=by
 rw[nn,nn,List.getElem?_set_ne h]
theorem ED (x:UInt8) (b:List UInt8) (row:List Int) (i k:Nat):(kc x b row i k).2=row.getD k 0/\∀j,k<j->(kc x b row i k).1.getD j 0=row.getD j 0:=by
 induction k with
 |zero=>exact⟨rfl,fun j d=>getD_set_ne _ (by omega)⟩
 |succ k a=>
  rw[y7]
  refine⟨a.2 (k+1) (by omega),fun j d=>?_⟩
  show((kc x b row i k).1.set (k+1) _).getD j 0=_
  rw[getD_set_ne _ (by omega)]
  exact a.2 j (by omega)
theorem EC (x:UInt8) (b:List UInt8) {row:List Int} (i k:Nat) {L m:Nat} (h:k5 L m row) (hi:i<=m):k5 L (m+1) (kc x b row i k).1:=by
 induction k with
 |zero=>exact(h.mono (Nat.le_succ m)).set 0 (by omega) (by omega)
 |succ k a=>
  have e:=h.at k
  have f:=a.at k
  have g:=a.at (k+1)
  have d:=(ED x b row i k).1
  rw[y7]
  show k5 L (m+1) ((kc x b row i k).1.set (k+1) _)
  refine a.set (k+1) ?_ ?_
  .rw [d];split<;>omega
  .rw [d];split<;>omega
theorem vS (a b:List UInt8) (i:Nat):k5 b.length (b.length+i) (iq a b i):=by
 induction i with
 |zero=>exact FY _ _ (bC _)
 |succ i d=>
  rw[EE]
  exact EC _ b i _ d (Nat.le_add_left _ _)
theorem get_at {l:List Int} {i:Nat} (h:i<l.length):l[i]? =some (l.getD i 0):=by
 rw[nn,bH h];rfl
theorem Qk (N:Nat) (a b:Int):CR N a b=some (min a b):=by
 unfold CR
 by_cases h:a<b
 .rw [aq h,ao,Int.min_eq_left (by omega)]
 .rw [ak h,aj,Int.min_eq_right (by omega)]
theorem Tb (c c2:UInt8):(!decide ((c.toNat:Int)=(c2.toNat:Int)))= !decide (c=c2):=by
 congr 1
 rw[decide_eq_decide]
 constructor
 .intro h
  exact UInt8.toNat_inj.1 (by omega)
 .rintro rfl;rfl
theorem ajY (N:Nat) (a b:List UInt8) (M:a.length<=1000) (O:b.length<=1000) (P:1010<N):I2 N a b=some (jH a b):=by
 refine Def.get ?_
 unfold I2
 rw[ai (aN (n:=b.length) (by omega)),ai (by omega),show((b.length:Int)+1).toNat=b.length+1 from by omega]
 refine Def.upto (b.length+1) (fun k g=>g=(a,b,qi (b.length+1) k,(k:Int))) (fun go g d=>?_) (fun go k g p d r=>?_) N 0 _ (bg _) rfl (by omega)
 .subst d
  dsimp only
  rw[ak (by omega),aj]
  refine Def.upto a.length (fun i g=>g=(a,b,iq a b i,(i:Int))) (fun go2 g d=>?_) (fun go2 i g hi d l=>?_) N 0 _ (bg _) rfl (by omega)
  .subst d
   dsimp only
   have j:=vS a b a.length
   have F:=j.1
   rw[ak (bp _),aj,ai (by omega),er,get_at (by omega),af]
   exact Def.ret rfl
  .subst d
   dsimp only
   have j:=vS a b i
   have F:=j.1
   have z:(0:Int)<=0/\(0:Int)<((iq a b i).length:Int):=⟨iF _,by omega⟩
   rw[aq (by omega:(i:Int)<a.length),ao,ai z,show(0:Int).toNat=0 from rfl,get_at (by omega),af,ai (aN (n:=i) (by omega)),ai z,af]
   refine Def.upto b.length (fun k g=>g=(a,b,(kc (a.getD i 0) b (iq a b i) i k).1,(i:Int),(kc (a.getD i 0) b (iq a b i) i k).2,(k:Int))) (fun t g d=>?_) (fun t k g p d o=>?_) N 0 _ (bg _) rfl (by omega)
   .subst d
    dsimp only
    rw[ak (bp _),aj,ai (aN (n:=i) (by omega))]
    refine l _ ?_
    rw[aR,EE]
    rfl
   .subst d
    dsimp only
    have u:=EC (a.getD i 0) b i k j (by omega)
    have v:=(ED (a.getD i 0) b (iq a b i) i k).1
    have f:=y7 (a.getD i 0) b (iq a b i) i k
    have G:=j.at k
    rw[<-v]at G
    generalize kc (a.getD i 0) b (iq a b i) i k=s at*
    obtain⟨row,H⟩:=s
    have I:=u.1
    have K:=u.at k
    have L:=u.at (k+1)
    dsimp only at*
    rw[aq (by omega:(k:Int)<b.length),ao]
    refine Def.meet (fun g=>g=(a,b,row,(i:Int),(k:Int),H+(if a.getD i 0=b.getD k 0 then 0 else 1))) (fun g d=>?_) (fun J A=>?_)
    .subst d
     dsimp only
     have y:((k:Int)+1).toNat=k+1:=by omega
     have h:(0:Int)<=(k:Int)+1/\(k:Int)+1<(row.length:Int):=by omega
     have e:=aN (n:=k) (by omega)
     rw[ai e,ai h,y,get_at (by omega),af,ai e,ai (by omega),er,get_at (by omega),af,ai e,ai h,af,Qk,af,ai (by unfold fits;omega),Qk,af,ai h,af,ai e]
     refine o _ ?_
     rw[f,aR]
     rfl
    .have B:a.getD i 0=a[i]:=by rw[nn,bH hi];rfl
     have C:b.getD k 0=b[k]:=by rw[nn,bH p];rfl
     rw[aO hi,af,aO p,af,Tb]
     by_cases he:a[i]=b[k]
     .rw [aq he,bn,aj]
      exact A _ (by rw[B,C,ai he,Int.add_zero])
     .rw [ak he,dt,ao,ai (by unfold fits;omega)]
      exact A _ (by rw[B,C,aA he])
 .subst d
  dsimp only
  have j:=(FY b.length k (by omega)).1
  rw[aq (by omega:(k:Int)<=b.length),ao,ai (by omega),er,get_at (by omega),af,ai (aN (n:=k) (by omega))]
  refine r _ ?_
  rw[aR,FZ]
theorem akz (n r q:Int):(if(r+1)<(if(q+1)<n then(q+1)else n)then(r+1)else(if(q+1)<n then(q+1)else n))=min n (min r q+1):=by
 by_cases b:q+1<n
 .rw [ai b]
  by_cases a:r+1<q+1
  .rw [ai a];omega
  .rw [aA a];omega
 .rw [aA b]
  by_cases a:r+1<n
  .rw [ai a];omega
  .rw [aA a];omega
theorem akJ (N:Nat) (a b:List UInt8) (Q:a.length<=1000) (S:b.length<=1000) (T:1010<N) (l:N<=1099511627776):zW N a b=some (bif okW a&&okW b then jH a b else-1):=by
 refine Def.get ?_
 unfold zW
 refine Def.meet (fun g=>g=(a,b)/\okW a=true/\okW b=true) (fun g d=>?_) (fun J h=>?_)
 .obtain ⟨rfl,r,t⟩:=d
  rw[r,t,pB,ao]
  dsimp only
  refine Def.meet (fun g=>g=(a,b,List.replicate (b.length+1) 0)) (fun g d=>?_) (fun J h=>?_)
  .subst d
   dsimp only
   rw[show((List.replicate (b.length+1) (0:Int)).length:Int)=((b.length+1:Nat):Int)from by rw[ym]]
   refine Def.upto (b.length+1) (fun k g=>g=(a,b,qi (b.length+1) k,((b.length+1:Nat):Int),(k:Int))) (fun go g d=>?_) (fun go k g u d v=>?_) N 0 _ (bg _) rfl (by omega)
   .subst d
    dsimp only
    rw[ak (bp _),aj]
    refine Def.upto a.length (fun i g=>g=(a,b,iq a b i,(i:Int)+1)) (fun go2 g d=>?_) (fun go2 i g hi d o=>?_) N 0 _ (bg _) rfl (by omega)
    .subst d
     dsimp only
     have j:=vS a b a.length
     have I:=j.1
     rw[ak (by omega),aj,ai (by omega),er,get_at (by omega),af]
     exact Def.ret rfl
    .subst d
     dsimp only
     have j:=vS a b i
     have I:=j.1
     have F:(0:Int)<=0/\(0:Int)<((iq a b i).length:Int):=⟨iF _,by omega⟩
     rw[aq (by omega:(i:Int)+1<=(a.length:Int)),ao,ai F,show(0:Int).toNat=0 from rfl,get_at (by omega),af,ai F,af]
     refine Def.upto b.length (fun k g=>g=(a,b,(kc (a.getD i 0) b (iq a b i) i k).1,(i:Int)+1,(kc (a.getD i 0) b (iq a b i) i k).2,(k:Int)+1)) (fun y g d=>?_) (fun y k g u d p=>?_) N 0 _ (bg _) rfl (by omega)
     .subst d
      dsimp only
      rw[ak (by omega),aj,ai (by unfold fits;omega)]
      refine o _ ?_
      rw[aR,EE]
      rfl
     .subst d
      dsimp only
      have z:=EC (a.getD i 0) b i k j (by omega)
      have A:=(ED (a.getD i 0) b (iq a b i) i k).1
      have e:=y7 (a.getD i 0) b (iq a b i) i k
      have K:=j.at k
      rw[<-A]at K
      generalize kc (a.getD i 0) b (iq a b i) i k=s at*
      obtain⟨row,L⟩:=s
      have M:=z.1
      have O:=z.at k
      have P:=z.at (k+1)
      dsimp only at*
      rw[aq (by omega:(k:Int)+1<=(b.length:Int)),ao]
      refine Def.meet (fun g=>g=(a,b,row,(i:Int)+1,(k:Int)+1,L+(if a.getD i 0=b.getD k 0 then 0 else 1))) (fun g d=>?_) (fun J h=>?_)
      .subst d
       dsimp only
       have B:((k:Int)+1).toNat=k+1:=by omega
       have C:(k:Int)+1-1=(k:Int):=by omega
       have f:(0:Int)<=(k:Int)+1/\(k:Int)+1<(row.length:Int):=by omega
       rw[ai f,B,get_at (by omega),af,ai f,af,ai (by unfold fits;omega),C,ai (by unfold fits;omega),ai (by omega),er,get_at (by omega),af,ai (by unfold fits;omega),ai f,af,ai (by unfold fits;omega),akz]
       refine p _ ?_
       rw[e,aR]
       rfl
      .have G:a.getD i 0=a[i]:=by rw[nn,bH hi];rfl
       have H:b.getD k 0=b[k]:=by rw[nn,bH u];rfl
       rw[show(i:Int)+1-1=(i:Int)from by omega,show(k:Int)+1-1=(k:Int)from by omega,ai (by unfold fits;omega),aO hi,af,ai (by unfold fits;omega),aO u,af,Tb]
       by_cases he:a[i]=b[k]
       .rw [aq he,bn,aj]
        exact h _ (by rw[G,H,ai he,Int.add_zero])
       .rw [ak he,dt,ao,ai (by unfold fits;omega)]
        exact h _ (by rw[G,H,aA he])
   .subst d
    dsimp only
    have j:=(FY b.length k (by omega)).1
    rw[aq (by omega:(k:Int)<((b.length+1:Nat):Int)),ao,ai (by omega),er,get_at (by omega),af,ai (aN (n:=k) (by omega))]
    refine v _ ?_
    rw[aR k,FZ]
  .rw [ai (aN (n:=b.length) (by omega)),ai (by omega),show((b.length:Int)+1).toNat=b.length+1 from by omega]
   exact h _ rfl
 .rw [lA N a (by omega) l,af]
  cases r:okW a with
  |false=>exact Def.ret rfl
  |true=>
  rw[bn,aj,lA N b (by omega) l,af]
  cases t:okW b with
  |false=>exact Def.ret rfl
  |true=>
  rw[bn,aj]
  have:=h (a,b) ⟨rfl,r,t⟩
  rwa[r,t]at this
theorem h7 (s:List UInt8):okW s=true↔(∀c,c∈s->gv (c.toNat:Int)=true)/\1<=s.length/\s.length<=12:=by
 unfold okW dL
 simp only[bk,bz,cA]
 constructor
 .rintro ⟨b,e,f⟩
  refine⟨fun c g=>?_,by omega,by omega⟩
  obtain⟨n,d,rfl⟩:=fe.1 g
  rw[pS d]
  exact b n (by simp;omega)
 .rintro ⟨b,e,f⟩
  refine⟨fun n d=>?_,by omega,by omega⟩
  have a:n<s.length:=by simpa using d
  rw[<-pS a]
  exact b _ (bA a)
theorem VO {c:UInt8} (h:e6 c=true):gv ((UInt8.ofNat (nI c).toNat).toNat:Int)=true:=by
 obtain⟨a,b,d⟩:=K5 h
 rw[UInt8.toNat_ofNat_of_lt' (by show(nI _).toNat<256;omega),pC b]
 exact a
theorem am7 (l:List UInt8):l.take (lead l)=l.takeWhile e6:=((List.prefix_iff_eq_take).1 (List.takeWhile_prefix e6)).symm
theorem Jw (l:List UInt8) (p a:Int):∀w,w∈gY l p a->okW w.1=true:=by
 intro w hw
 match l with
 | []=>rw[ni]at hw;cases hw
 |c::t=>
  cases b:e6 c with
  |false=>
   rw[Ju b]at hw
   exact Jw t _ _ w hw
  |true=>
   have d:0<lead (c::t):=by rw[uv b];omega
   rw[Jv d rfl]at hw
   rcases bm.1 hw with rfl|hw
   .rw [h7]
    refine⟨fun x e=>?_,?_,?_⟩
    .obtain ⟨n,f,rfl⟩:=cd.1 e
     obtain⟨y,hy,rfl⟩:=cd.1 (fK f)
     rw[am7]at hy
     exact VO (cA.1 (List.all_takeWhile (l:=c::t)) y hy)
    .have:=aj7 (c::t)
     simp only[bytesOf,dX,bX];omega
    .simp only [bytesOf,dX,bX];omega
   .have g:((c::t).drop (lead (c::t))).length<(c::t).length:=by rw[eY,aZ];omega
    exact Jw _ _ _ w hw
termination_by l.length
decreasing_by
 all_goals simp only[eY,aZ]at*
 all_goals omega
theorem UP {s e t:List UInt8} (h:je s e=some t) (a:okW s=true):okW t=true:=by
 unfold je at h
 split at h
 .rename_i d
  cases h
  rw[h7]at a⊢
  refine⟨fun c b=>a.1 c (fK b),?_,?_⟩
  .rw [bX];omega
  .rw [bX];omega
 .cases h
theorem R2 (s:List UInt8) (a:okW s=true):okW (fU s)=true:=by
 cases h:once s with
 |none=>rw[x5 h];exact a
 |some t=>
  rw[Jc h]
  have b:=Ii h
  have d:okW t=true:=by
   unfold once at h
   obtain⟨e,_,h⟩:=List.exists_of_findSome?_eq_some h
   exact UP h a
  exact R2 t d
termination_by s.length
theorem ale (st:List (List UInt8)) (s:List UInt8):∀x,x∈plain st s->okW x.1=true:=by
 intro x b
 obtain⟨w,hw,a⟩:=qV.1 b
 unfold mb at a
 split at a
 .cases a
 .cases a
  exact R2 _ (Jw _ _ _ w hw)
theorem Ji (c2:List eS) (b:∀y,y∈c2->okW y.2=true) (l:List dp) (d:∀x,x∈l->okW x.1=true):∀x,x∈h9 c2 l->okW x.1=true:=by
 intro x a
 match l with
 | []=>rw[u6]at a;cases a
 |t::r=>
  rw[h9]at a
  split at a
  .rcases bm.1 a with rfl|a
   .exact d _ b6
   .exact Ji c2 b r (fun y hy=>d y (b7 _ hy)) x a
  .rename_i y hy
   rcases bm.1 a with rfl|a
   .exact b _ (Dc c2 _ hy).1
   .exact Ji c2 b _ (fun z e=>d z (b7 _ (nq e))) x a
termination_by l.length
decreasing_by all_goals (simp; try omega)
theorem ane (c:aL) (a:dQ c=true) (s:List UInt8):∀x,x∈dv c s->okW x.1=true:=
 Ji c.2 (fun y hy=>((Ia a).2.2 y hy).2.2.1) _ (ale c.1 s)
theorem Ex (c:aL) (b:dQ c=true) {ad:List aC} (g:eZ ad):∀e,e∈eo c ad->okW e.2.1=true:=by
 intro e he
 have hm:=(Ew c g.gB (db e)).1 (List.mem_map_of_mem he)
 obtain⟨o,a,h⟩:=hm
 obtain⟨d,_,a⟩:=iY.1 a
 obtain⟨f,_,a⟩:=iY.1 a
 obtain⟨t,i,rfl⟩:=cd.1 a
 have:e.2.1=t.1:=(congrArg Prod.snd h).symm
 rw[this]
 exact ane c b _ t i
end Go.Proofs.YtnkagklajgimlaaGreatDoor
