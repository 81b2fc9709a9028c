
import Derived.Test.YtnkagklajgimlaaGreatDoorSB1
import Derived.Test.YtnkagklajgimlaaGreatDoorQA
set_option linter.unusedVariables false
set_option linter.unusedSimpArgs false
namespace Go.Proofs.YtnkagklajgimlaaGreatDoor
open Go.RowKit
theorem Rw (N:Nat) (x y:List UInt8):q9 N x y=some (if Op.bytesLess x y then-1 else if Op.bytesLess y x then 1 else 0):=by
 unfold q9
 have h:∀z:List UInt8,sT N z=some false:=fun z=>by unfold sT;simp
 rw[h,h]
 simp only[ag,aj]
 rw[Rb]
 cases a:Op.bytesLess x y
 .cases b:Op.bytesLess y x<;>simp
 .simp
theorem SO (N:Nat) (d:4<=N) (x y:Int):s0 N [x,y]=some (if x≠0 then x else if y≠0 then y else 0):=by
 unfold s0
 obtain⟨N,rfl⟩:∃m,N=m+4:=⟨N-4,by omega⟩
 by_cases a:x=0
 .by_cases b:y=0
  .subst a;subst b
   simp[iter,idx,fits]
  .subst a
   simp[iter,idx,fits,b]
 .simp [iter,idx,fits,a]
theorem QF (N:Nat) (f:4<=N) (a b:cQ):Def (j2 N () a b) fun r=>decide (r<0)=hh (di a) (di b):=by
 show Def (Co N a.1 a.2.1 a.2.2 b.1 b.2.1 b.2.2) _
 unfold Co
 rw[Rw,ag,Rw,ag,SO N f,ag]
 refine Def.ret ?_
 unfold hh di
 dsimp only
 cases g:Op.bytesLess a.1 b.1
 .cases d:Op.bytesLess b.1 a.1
  .have he:a.1=b.1:=by
    have:=oe a.1 b.1
    rw[g,d]at this
    simpa using this
   cases h:Op.bytesLess a.2.1 b.2.1
   .cases i:Op.bytesLess b.2.1 a.2.1<;>simp[he]
   .simp [he]
  .have he:a.1≠b.1:=by
    rintro e
    rw[e,ui]at d
    cases d
   simp[he]
 .simp
theorem ajp {a b:gW} (h:hh a b=true):hh b a=false:=by
 cases d:hh b a
 .rfl
 .have:=Ju h d
  rw[Jt]at this
  cases this
theorem QV {a b:gW} (h:a≠b):hh a b=true\/hh b a=true:=by
 unfold hh
 cases f:Op.bytesLess a.1 b.1
 .cases g:Op.bytesLess b.1 a.1
  .have he:a.1=b.1:=by
    have:=oe a.1 b.1
    rw[f,g]at this
    simpa using this
   have d:a.2≠b.2:=fun e=>h (Prod.ext he e)
   cases i:Op.bytesLess a.2 b.2
   .right;simp[he,wT i d]
   .left;simp[he]
  .right;simp
 .left;simp
theorem QU :rV fun a b:cQ=>hh (di a) (di b):=⟨fun x y h=>ajp h,fun x y z h k=>Ju h k⟩
def Small (m:Nat) (es:List cQ):Prop:=es.length<=m/\∀e,e∈es->e.2.2.length<=m/\∀p,p∈e.2.2->p.2.length<=m
theorem Q3 {m:Nat} {ps:List EPost} (id a:Int) (h:ps.length<=m/\∀p,p∈ps->p.2.length<=m):(hs ps id a).length<=m+1/\∀p,p∈hs ps id a->p.2.length<=m+1:=by
 rcases List.eq_nil_or_concat ps with rfl|⟨q,p,rfl⟩
 .unfold hs
  simp
 .rw [List.concat_eq_append]at*
  unfold hs
  rw[show(q++ [p]).getLast? =some p from by simp]
  dsimp only
  have f:=h.2 p (by simp)
  have b:∀y,y∈q->y.2.length<=m:=fun y hy=>h.2 y (by simp[hy])
  have d:=h.1
  simp only[bh,ba,bH]at d
  by_cases e:p.1=id
  .rw [ai e,List.dropLast_concat]
   refine⟨by simp only[bh,ba,bH];omega,fun y hy=>?_⟩
   rcases cE.1 hy with hy|hy
   .exact Nat.le_succ_of_le (b y hy)
   .rw [du]at hy
    subst hy
    simp only[bh,ba,bH];omega
  .rw [aC e]
   refine⟨by simp only[bh,ba,bH];omega,fun y hy=>?_⟩
   rcases cE.1 hy with hy|hy
   .exact Nat.le_succ_of_le (h.2 y hy)
   .rw [du]at hy
    subst hy
    simp
theorem QE {m:Nat} (o:fZ):∀es:List cQ,(∀e,e∈es->e.2.2.length<=m/\∀p,p∈e.2.2->p.2.length<=m)->(hB o es).length<=es.length+1/\∀e,e∈hB o es->e.2.2.length<=m+1/\∀p,p∈e.2.2->p.2.length<=m+1
 | [],_=>by
  unfold hB
  refine⟨by simp,fun e he=>?_⟩
  rw[du]at he
  subst he
  exact Q3 _ _ (m:=m) (ps:=[]) ⟨by simp,by simp⟩
 |d::l,h=>by
  have hm:∀e,e∈d::l->e.2.2.length<=m+1/\∀p,p∈e.2.2->p.2.length<=m+1:=fun e he=>⟨Nat.le_succ_of_le (h e he).1,fun p b=>Nat.le_succ_of_le ((h e he).2 p b)⟩
  unfold hB
  by_cases a:di d=o.1
  .rw [ai a]
   refine⟨by simp,fun e he=>?_⟩
   rcases bn.1 he with rfl|he
   .exact Q3 _ _ (h d cb)
   .exact hm e (ch _ he)
  .rw [aC a]
   have f:=QE o l fun e he=>h e (ch _ he)
   refine⟨by simp only[ba];omega,fun e he=>?_⟩
   rcases bn.1 he with rfl|he
   .exact hm _ cb
   .exact f.2 e he
theorem H8 (l:List fZ):Small l.length (nH l):=by
 have key:∀(l:List fZ) (es:List cQ) (m:Nat),Small m es->Small (m+l.length) (l.foldl (fun es o=>hB o es) es):=by
  intro l
  induction l with
  |nil=>intro es m h;exact h
  |cons o l a=>
   intro es m h
   have b:=QE o es h.2
   have:=a (hB o es) (m+1) ⟨by have:=h.1;omega,b.2⟩
   rw[ba,show m+(l.length+1)=m+1+l.length from by omega]
   exact this
 have:=key l [] 0 ⟨by simp,fun e he=>by cases he⟩
 rwa[gV]at this
theorem aka (N:Nat) (d:aF) (a:d.2.1.length<=3) (b:d.2.2.length<=3):B1 N d.1 d.2.1 d.2.2=some d:=by
 unfold B1
 rw[ai (bW (by simp;omega) (by simp;omega)),ai (bW (by simp;omega) (by simp;omega))]
 rfl
theorem LY (N:Nat) {ad:List aF} (d:e0 ad) (e:16<N):x8 N ad=some ad:=by
 unfold x8
 have f:=d.c7
 refine(dh _ ad.length (fun k=>(ad.take k,ad,(ad.length:Int),(k:Int))) (fun _=>some ad) (fun go=>?_) (fun go k a b=>?_) N 0 (bg _) (by omega)).trans rfl
 .dsimp only
  rw[an (bm _),aj,cj]
 .dsimp only
  have he:=d.each _ (br a)
  rw[aq (by omega:(k:Int)<ad.length),ao,aP a,ag,aka N ad[k] he.1 he.2.1,ag,ai (bW (by simp;omega) (by simp;omega)),ai (aO (n:=k) (by omega)),<-b,dT a,aS]
theorem Qw (c:aK) {ad:List aF} (a:e0 ad) {d:aF} (h:d∈ad) (k:Nat):(kg c d.1 (d.2.1.take k)).length<=480:=by
 unfold kg
 have he:=a.each d h
 have e:=uG (fun f:eo=>(dk c f.2).map fun t=>(((f.1,t.1),d.1,t.2):fZ)) 160 (d.2.1.take k) fun f b=>by
  rw[dE]
  exact dS (o9 c _) (he.2.2 f (fC b)).2
 have g:(d.2.1.take k).length<=3:=by rw[bN];omega
 omega
theorem Ic (c:aK) {ad:List aF} (a:e0 ad) (n:Nat):(dW c (ad.take n)).length<=7680:=by
 unfold dW
 have e:=a.c7
 have f:=uG (fun d:aF=>kg c d.1 d.2.1) 480 (ad.take n) fun d b=>by
  have:=Qw c a (fC b) d.2.1.length
  rw[cj]at this
  exact this
 have g:(ad.take n).length<=16:=by rw[bN];omega
 omega
theorem KD (N:Nat) (u:bC<N) (K:N<=16777216) (c:aK) (H:cH bC gJ c) (ad:List aF) (v:∀x,x∈ad->cH bC fN x) (L:ad.length<=1048576):q0 N c.1 c.2 ad=some (bif dQ c&&eR ad then(ad,eu c ad)else([],[])):=by
 have M:1048576<N:=u
 refine Def.get ?_
 unfold q0
 rw[r6 N u (by omega) c H,ag]
 cases O:dQ c with
 |false=>exact Def.ret rfl
 |true=>
 rw[bf,aj,FX N u (by omega) ad v L,ag]
 cases z:eR ad with
 |false=>exact Def.ret rfl
 |true=>
 have l:=lh z
 have U:=l.c7
 rw[bf,aj,LY N l (by omega),ag,rO,ao]
 refine Def.upto ad.length (fun n g=>g=(ad,(ad.length:Int),(n:Int),c.1,c.2,ad,nH (dW c (ad.take n)))) (fun go g f=>?_) (fun go n g A f B=>?_) N 0 _ (bg _) rfl (by omega)
 .subst f
  dsimp only
  rw[an (bm _),aj,cj]
  have d:=H8 (dW c ad)
  have fR:=Ic c l ad.length
  rw[cj]at fR
  refine Def.bind (Ug (fun a b=>hh (di a) (di b)) QU N K (by omega) (nH (dW c ad)) () ⟨fun x V y hy=>QF N (by omega) x y,?_⟩ (by have:=d.1;omega)) fun R I=>Def.ret ?_
  .exact (qk.1 (Kg (dW c ad)).nodup).imp fun h=>QV h
  .rw [Uj c l.gB I.1 I.2]
 .subst f
  dsimp only
  have i:=br A
  have he:=l.each _ i
  rw[aq (by omega:(n:Int)<ad.length),ao,aP A,ag]
  have P:=Ic c l n
  refine Def.upto ad[n].2.1.length (fun k g=>g=(ad,(ad.length:Int),(n:Int),ad[n].2.1,(ad[n].2.1.length:Int),(k:Int),c.1,c.2,ad,nH (dW c (ad.take n)++kg c ad[n].1 (ad[n].2.1.take k)),ad[n].1,ad[n].2.1,ad[n].2.2)) (fun go2 g f=>?_) (fun go2 k g C f o=>?_) N 0 _ (bg _) (by rw[List.take_zero,show kg c ad[n].1 []=[]from rfl,fe];rfl) (by omega)
  .subst f
   dsimp only
   rw[an (bm _),aj,cj,ai (aO (n:=n) (by omega))]
   refine B _ ?_
   rw[aS]
   unfold dW
   rw[w9 _ _ _ A]
  .subst f
   dsimp only
   have F:=he.2.2 _ (br C)
   rw[aq (by omega:(k:Int)<ad[n].2.1.length),ao,aP C,ag,EJ N c _ (by omega) u (by omega) H,ag,O,F.1,rO,ao]
   have Q:=o9 c ad[n].2.1[k].2
   have S:=Qw c l i k
   refine Def.upto (dk c ad[n].2.1[k].2).length (fun j g=>g=(ad,(ad.length:Int),(n:Int),ad[n].2.1,(ad[n].2.1.length:Int),(k:Int),dk c ad[n].2.1[k].2,((dk c ad[n].2.1[k].2).length:Int),(j:Int),c.1,c.2,ad,nH (dW c (ad.take n)++kg c ad[n].1 (ad[n].2.1.take k)++((dk c ad[n].2.1[k].2).take j).map fun t=>((ad[n].2.1[k].1,t.1),ad[n].1,t.2)),ad[n].1,ad[n].2.1,ad[n].2.2,ad[n].2.1[k].1,ad[n].2.1[k].2)) (fun G g f=>?_) (fun G j g J f r=>?_) N 0 _ (bg _) (by rw[List.take_zero,qn,fe];rfl) (by omega)
   .subst f
    dsimp only
    rw[an (bm _),aj,cj,ai (aO (n:=k) (by omega))]
    refine o _ ?_
    rw[aS]
    unfold kg
    rw[w9 _ _ _ C,e5]
   .subst f
    dsimp only
    rw[aq (by omega:(j:Int)<((dk c ad[n].2.1[k].2).length:Int)),ao,aP J,ag]
    have d:=H8 (dW c (ad.take n)++kg c ad[n].1 (ad[n].2.1.take k)++((dk c ad[n].2.1[k].2).take j).map fun t=>(((ad[n].2.1[k].1,t.1),ad[n].1,t.2):fZ))
    have hlen:(dW c (ad.take n)++kg c ad[n].1 (ad[n].2.1.take k)++((dk c ad[n].2.1[k].2).take j).map fun t=>(((ad[n].2.1[k].1,t.1),ad[n].1,t.2):fZ)).length<=8320:=by
     rw[bh,bh,dE,bN]
     omega
    rw[apC N _ _ _ _ _ (by have:=d.1;omega) (by have:=d.1;omega) (fun e h=>⟨by have:=(d.2 e h).1;omega,fun p T=>by have:=(d.2 e h).2 p T;omega⟩),ag,ai (aO (n:=j) (by omega))]
    refine r _ ?_
    rw[aS,Sj _ _ _ J,<-e5,akk]
theorem w6 (c:aK) {ad:List aF} (g:e0 ad):Small 7680 (eu c ad):=by
 have d:=H8 (dW c ad)
 have fR:=Ic c g ad.length
 rw[cj]at fR
 obtain⟨R,_,f,i⟩:=Ug (fun a b=>hh (di a) (di b)) QU 16777216 (bE _) (by omega) (nH (dW c ad)) () ⟨fun x j y hy=>QF _ (by omega) x y,(qk.1 (Kg (dW c ad)).nodup).imp fun h=>QV h⟩ (by have:=d.1;omega)
 rw[<-Uj c g.gB f i]
 refine⟨by rw[f.length_eq];exact dS d.1 fR,fun e he=>?_⟩
 have:=d.2 e (f.mem_iff.1 he)
 exact⟨dS this.1 fR,fun p f=>dS (this.2 p f) fR⟩
theorem vf {α f:Type} [DecidableEq α] (F:(f->Option Bool)->f->Option Bool) (a b:List α) (h:a.length=b.length) (st:Nat->f) (e:∀go,F go (st a.length)=some true) (d:∀go (n:Nat) (g:n<a.length) (j:n<b.length),F go (st n)=bif decide (a[n]=b[n])then go (st (n+1))else some false) (N:Nat) (k:a.length<N):iter F N (st 0)=some (decide (a=b)):=by
 refine(dh F a.length st (fun n=>some (decide (a.drop n=b.drop n))) (fun go=>?_) (fun go n g i=>?_) N 0 (bg _) (by omega)).trans (by rw[rP,rP])
 .rw [e,me,h,me];simp
 .rw [d go n g (by omega),aix g (by omega),i]
  cases decide (a[n]=b[n])<;>rfl
theorem vj {α:Type} {a b:List α} (h:¬(a.length:Int)=(b.length:Int)):¬a=b:=fun e=>h (by rw[e])
theorem akC (N:Nat) (a b:List Int) (d:a.length<N) (g:a.length<=1000000):B4 N a b=some (decide (a=b)):=by
 unfold B4
 by_cases h:(a.length:Int)=(b.length:Int)
 .rw [aq h,bf,aj]
  refine vf _ a b (by omega) (fun n=>(a,b,(a.length:Int),(n:Int))) (fun go=>?_) (fun go n e f=>?_) N d
  .dsimp only
   rw[an (bm _),aj]
  .dsimp only
   rw[aq (by omega:(n:Int)<a.length),ao,aP e,ag,aP f,ag,ai (aO (n:=n) (by omega)),aS]
   cases decide (a[n]=b[n])<;>rfl
 .rw [an h,dH,ao,an (vj h)]
theorem alT (N:Nat) (a b:List Int) (d:a.length<N) (g:a.length<=1000000):BT N a b=some (decide (a=b)):=by
 unfold BT
 by_cases h:(a.length:Int)=(b.length:Int)
 .rw [aq h,bf,aj]
  refine vf _ a b (by omega) (fun n=>(a,b,(n:Int))) (fun go=>?_) (fun go n e f=>?_) N d
  .dsimp only
   rw[an (bm _),aj]
  .dsimp only
   rw[aq (by omega:(n:Int)<a.length),ao,aP e,ag,aP f,ag,ai (aO (n:=n) (by omega)),aS]
   cases decide (a[n]=b[n])<;>rfl
 .rw [an h,dH,ao,an (vj h)]
theorem Ql (a b:EPost):decide (a=b)=(decide (a.1=b.1)&&decide (a.2=b.2)):=by
 rw[ma,a6,bo,bo,bo,Prod.ext_iff]
theorem Q1 (a b:cQ):decide (a=b)=(decide (a.1=b.1)&&(decide (a.2.1=b.2.1)&&decide (a.2.2=b.2.2))):=by
 rw[ma,a6,a6,bo,bo,bo,bo,Prod.ext_iff,Prod.ext_iff]
theorem ajo (N:Nat) (a b:EPost) (d:a.2.length<N) (e:a.2.length<=1000000):Cj N a.1 a.2 b.1 b.2=some (decide (a=b)):=by
 unfold Cj
 rw[akC N _ _ d e,ag,Ql]
 cases decide (a.1=b.1)<;>rfl
theorem akO (N:Nat) (a b:List EPost) (f:a.length<N) (j:a.length<=1000000) (g:∀p,p∈a->p.2.length<N/\p.2.length<=1000000):BW N a b ()=some (decide (a=b)):=by
 unfold BW
 by_cases h:(a.length:Int)=(b.length:Int)
 .rw [aq h,bf,aj]
  refine vf _ a b (by omega) (fun n=>(b,(),a,(a.length:Int),(n:Int))) (fun go=>?_) (fun go n e i=>?_) N f
  .dsimp only
   rw[an (bm _),aj]
  .dsimp only
   have d:=g _ (br e)
   rw[aq (by omega:(n:Int)<a.length),ao,aP e,ag,aP i,ag,ajo N _ _ d.1 d.2,ag,ai (aO (n:=n) (by omega)),aS]
   cases decide (a[n]=b[n])<;>rfl
 .rw [an h,dH,ao,an (vj h)]
theorem aiT (N:Nat) (a b:cQ) (d:a.2.2.length<N) (e:a.2.2.length<=1000000) (f:∀p,p∈a.2.2->p.2.length<N/\p.2.length<=1000000):Cn N a.1 a.2.1 a.2.2 b.1 b.2.1 b.2.2=some (decide (a=b)):=by
 unfold Cn
 rw[akO N _ _ d e f,ag,Q1]
 cases decide (a.1=b.1)<;>cases decide (a.2.1=b.2.1)<;>rfl
theorem ak7 (N:Nat) (a b:List cQ) (m:Nat) (hm:m<N) (g:m<=1000000) (e:Small m a):Ci N a b ()=some (decide (a=b)):=by
 unfold Ci
 have i:=e.1
 by_cases h:(a.length:Int)=(b.length:Int)
 .rw [aq h,bf,aj]
  refine vf _ a b (by omega) (fun n=>(b,(),a,(a.length:Int),(n:Int))) (fun go=>?_) (fun go n f j=>?_) N (by omega)
  .dsimp only
   rw[an (bm _),aj]
  .dsimp only
   have d:=e.2 _ (br f)
   rw[aq (by omega:(n:Int)<a.length),ao,aP f,ag,aP j,ag,aiT N _ _ (by omega) (by omega) (fun p k=>by have:=d.2 p k;omega),ag,ai (aO (n:=n) (by omega)),aS]
   cases decide (a[n]=b[n])<;>rfl
 .rw [an h,dH,ao,an (vj h)]
theorem ala (N:Nat) (a b:cQ) (i:a.2.2.length<N) (l:a.2.2.length<=1000000) (j:∀p,p∈a.2.2->p.2.length<N/\p.2.length<=1000000):B2 N a.1 a.2.1 a.2.2 b.1 b.2.1 b.2.2=some (decide (a=b)):=by
 unfold B2
 rw[Q1]
 by_cases e:a.1=b.1
 .rw [aq e,bf,aj,cl]
  by_cases f:a.2.1=b.2.1
  .rw [aq f,bf,aj,cl]
   by_cases h:(a.2.2.length:Int)=(b.2.2.length:Int)
   .rw [aq h,bf,aj]
    refine vf _ a.2.2 b.2.2 (by omega) (fun n=>((n:Int),a.1,a.2.1,a.2.2,b.1,b.2.1,b.2.2)) (fun go=>?_) (fun go n g k=>?_) N i
    .dsimp only
     rw[an (bm _),aj]
    .dsimp only
     have d:=j _ (br g)
     rw[aq (by omega:(n:Int)<a.2.2.length),ao,aP g,ag,aP k,ag,ag,ag,alT N _ _ d.1 d.2,ag,ai (aO (n:=n) (by omega)),aS,Ql]
     cases decide (a.2.2[n].1=b.2.2[n].1)<;>cases decide (a.2.2[n].2=b.2.2[n].2)<;>rfl
   .rw [an h,dH,ao,an (vj h)]
  .rw [an f];rfl
 .rw [an e];rfl
def fS (c:aK) (s:cq):Bool:=dQ c&&(eR s.1&&decide (eu c s.1=s.2))
theorem T3 (N:Nat) (d:bC<N) (g:N<=16777216) (c:aK) (e:cH bC gJ c) (s:cq) (a:∀x,x∈s.1->cH bC fN x) (f:s.1.length<=1048576):u1 N c.1 c.2 s.1 s.2=some (fS c s):=by
 have h:1048576<N:=d
 unfold u1 fS
 rw[r6 N d (by omega) c e,ag]
 cases i:dQ c with
 |false=>rfl
 |true=>
 rw[bf,aj,FX N d (by omega) s.1 a f,ag]
 cases b:eR s.1 with
 |false=>rfl
 |true=>
 rw[bf,aj,KD N d g c e s.1 a f,ag,i,b,rO,ao]
 rw[ak7 N _ _ 7680 (by omega) (by omega) (w6 c (lh b))]
 rfl
theorem anS (N:Nat) (f:bC<N) (z:N<=16777216) (c:aK) (o:cH bC gJ c) (s:cq) (g:∀x,x∈s.1->cH bC fN x) (r:s.1.length<=1048576):Cc N c.1 c.2 s.1 s.2=some (fS c s):=by
 have i:1048576<N:=f
 unfold Cc fS
 rw[Dd N f (by omega) c o,ag]
 cases t:dQ c with
 |false=>rfl
 |true=>
 rw[bf,aj,Jg N f (by omega) s.1 g r,ag]
 cases e:eR s.1 with
 |false=>rfl
 |true=>
 have k:=w6 c (lh e)
 have u:=k.1
 rw[bf,aj,De N c t (lh e) i,ag,cl,cl]
 generalize eu c s.1=a at*
 obtain⟨d,b⟩:=s
 by_cases h:(a.length:Int)=(b.length:Int)
 .rw [aq h,bf,aj]
  refine vf _ a b (by omega) (fun n=>((n:Int),d,b,d,a)) (fun go=>?_) (fun go n l v=>?_) N (by omega)
  .dsimp only
   rw[an (bm _),aj]
  .dsimp only
   have j:=k.2 _ (br l)
   rw[aq (by omega:(n:Int)<a.length),ao,aP l,ag,aP v,ag,ala N _ _ (by omega) (by omega) (fun p y=>by have:=j.2 p y;omega),ag,ai (aO (n:=n) (by omega)),aS]
   cases decide (a[n]=b[n])<;>rfl
 .rw [an h,dH,ao,an (vj h)]
theorem ee {n:Int} (a: -9223372036854775800<=n) (b:n<=9223372036854775800):fits n:=by unfold fits;omega
theorem Qt (a b:Nat) (h:b≠0):Nat.gcd b (a%b)=Nat.gcd a b:=by rw[Nat.gcd_comm a b,Nat.gcd_rec b a,Nat.gcd_comm]
theorem QQ (N:Nat) (a b:Nat) (h:b<N) (l:(a:Int)<=1000000000000) (o:(b:Int)<=1000000000000):x4 N a b=some (Nat.gcd a b:Int):=by
 refine Def.get ?_
 unfold x4
 refine Def.iter (fun g=>∃x y:Nat,g=((x:Int),(y:Int))/\Nat.gcd x y=Nat.gcd a b/\x<=1000000000000/\y<=1000000000000) (fun g=>g.2.toNat) (fun go g i d=>?_) N _ ⟨a,b,rfl,rfl,by omega,by omega⟩ (by simpa using h)
 obtain⟨x,y,rfl,he,p,hy⟩:=i
 dsimp only
 by_cases e:(y:Int)=0
 .have f:y=0:=by omega
  rw[aq e,bf,aj,ai (ee (by omega) (by omega)),aC (by omega)]
  refine Def.ret ?_
  rw[<-he,f,Nat.gcd_zero_right]
 .rw [an e,dH,ao,ai e]
  have f:y≠0:=by omega
  have j:(x:Int).tmod (y:Int)=((x%y:Nat):Int):=by rw[Int.tmod_eq_emod_of_nonneg (by omega)];rfl
  rw[j]
  have k:=mg x (by omega:0<y)
  refine d _ ⟨y,x%y,rfl,by rw[Qt x y f,he],hy,by omega⟩ ?_
  show(((x%y:Nat):Int)).toNat<((y:Nat):Int).toNat
  rw[eg,eg]
  exact k
theorem Qu (N:Nat):∀(D a b:Nat),b<D->(a:Int)<=1000000000000->(b:Int)<=1000000000000->x7 N D a b=some (Nat.gcd a b:Int)
 |0,a,b,h,_,_=>by omega
 |D+1,a,b,h,l,f=>by
  refine Def.get ?_
  unfold x7
  refine Def.meet (fun g=>g=((a:Int),(b:Int))) (fun g i=>?_) (fun J j=>?_)
  .subst i
   dsimp only
   by_cases e:(b:Int)=0
   .have d:b=0:=by omega
    rw[aq e,ao]
    exact Def.ret (by rw[d,Nat.gcd_zero_right])
   .have d:b≠0:=by omega
    have k:(a:Int).tmod (b:Int)=((a%b:Nat):Int):=by rw[Int.tmod_eq_emod_of_nonneg (by omega)];rfl
    have o:=mg a (by omega:0<b)
    rw[an e,aj,ai e,k,Qu N D b (a%b) (by omega) f (by omega),ag]
    exact Def.ret (by rw[Qt a b d])
  .rw [an (by omega),aj]
   exact j _ rfl
theorem uD {a b:Nat} (d:(a:Int)<=1000000000000):fits ((a:Int).tdiv (b:Int)):=by
 rw[p9]
 have:=nX a b
 generalize a/b=z at*
 exact ee (by omega) (by omega)
theorem Ay {a b:Nat} (d:0<b):0<Nat.gcd a b:=Nat.gcd_pos_of_pos_right a d
theorem aol (N a b:Nat) (h:b<N) (d:0<b) (f:(a:Int)<=1000000000000) (i:(b:Int)<=1000000000000):Cf N a b=some (((a/Nat.gcd a b:Nat):Int),((b/Nat.gcd a b:Nat):Int)):=by
 refine Def.get ?_
 unfold Cf
 have k:=Ay (a:=a) d
 refine Def.meet (fun g=>g=((a:Int),(b:Int),0,0)) (fun g e=>?_) (fun J j=>?_)
 .subst e
  dsimp only
  rw[Qu N N a b h f i,ag,ai (by omega),ai (uD f),ai (by omega),ai (uD i),p9,p9]
  exact Def.ret rfl
 .rw [an (by omega),aj]
  exact j _ rfl
theorem Qo (N a b:Nat) (h:b<N) (d:(a:Int)<=1000000000) (e:0<b) (f:(b:Int)<=1000000000):x9 N a b=some (decide (Nat.gcd a b=1)):=by
 unfold x9
 rw[fB,ag,aq (by omega),aq d,fD,ao,fB,ag,aq (by omega),aq f,fD,ao,QQ N a b h (by omega) (by omega),ag]
 congr 1
 rw[decide_eq_decide]
 omega
theorem ap1 (N a b:Nat) (h:b<N) (f:(a:Int)<=1000000000) (d:0<b) (i:(b:Int)<=1000000000):BX N a b=some (((a/Nat.gcd a b:Nat):Int),((b/Nat.gcd a b:Nat):Int),true):=by
 have j:=Ay (a:=a) d
 have p:=nX a (Nat.gcd a b)
 have r:=nX b (Nat.gcd a b)
 have k:0<b/Nat.gcd a b:=Nat.div_pos (Nat.le_of_dvd d (Nat.gcd_dvd_right a b)) j
 have l:Ch N a b=some (((a/Nat.gcd a b:Nat):Int),((b/Nat.gcd a b:Nat):Int),true):=by
  refine Def.get ?_
  unfold Ch
  refine Def.meet (fun g=>g=((a:Int),(b:Int),0,0)) (fun g e=>?_) (fun J o=>?_)
  .subst e
   dsimp only
   rw[QQ N a b h (by omega) (by omega),ag,ai (by omega),ai (uD (by omega)),ai (by omega),ai (uD (by omega)),p9,p9,Qo N _ _ (by omega) (by omega) k (by omega),ag,aq (Nat.gcd_div_gcd_div_gcd_of_pos_right d),bf,aj]
   exact Def.ret rfl
  .rw [an (by omega),aj]
   exact o _ rfl
 unfold BX
 rw[fB,ag,aq (by omega),aq f,fD,bf,aj,fB,ag,aq (by omega),aq i,fD,bf,aj,an (by omega),aj,l,ag]
theorem ap0 (N a b:Nat) (h:b<N) (e:(a:Int)<=1000000000) (d:0<b) (f:(b:Int)<=1000000000) (g:Nat.gcd a b=1):xL N a b 1000=some ((a*1000/b:Nat):Int):=by
 unfold xL
 rw[Qo N a b h e d f,ag,aq g,bf,aj,fB,ag,aq (by omega),aq (by omega),fD,bf,aj,show(a:Int)*1000=((a*1000:Nat):Int)from by omega,ai (ee (by omega) (by omega)),aq (by omega),ao,ai (by omega),ai (uD (by omega)),p9]
def kh (b4 ad:Nat):Nat:=Nat.log2 (ad/b4)
def Qx (ad b4:Nat):Bool:=decide (kh b4 ad<=4)&&((List.range 5).all (fun l=> !decide (l<kh b4 ad)||decide (b4*2^(l+1)<=ad))&&decide (ad<b4*2^(kh b4 ad+1)))
theorem alv :((List.range 17).all fun ad=>(List.range 17).all fun b4=> !decide (1<=b4)||(!decide (b4<=ad)||Qx ad b4))=true:=by decide+kernel
theorem DV {b4 ad:Nat} (b:1<=b4) (d:b4<=ad) (f:ad<=16):kh b4 ad<=4/\(∀l,l<kh b4 ad->b4*2^(l+1)<=ad)/\ad<b4*2^(kh b4 ad+1):=by
 have h:=cz.1 (cz.1 alv ad (List.mem_range.2 (by omega))) b4 (List.mem_range.2 (by omega))
 rw[aq b,aq d,bf,fL,fL]at h
 unfold Qx at h
 rw[a6,a6,bo,bo]at h
 refine⟨h.1,fun l e=>?_,h.2.2⟩
 have a:=cz.1 h.2.1 l (List.mem_range.2 (by omega))
 rw[aq e,bf,fL,bo]at a
 exact a
theorem anG (N:Nat) (b4 ad:Nat) (p:20<N) (d:1<=b4) (h:b4<=ad) (i:ad<=16):B6 N b4 ad=some (kh b4 ad:Int):=by
 obtain⟨a,b,c⟩:=DV d h i
 refine Def.get ?_
 unfold B6
 refine Def.upto (kh b4 ad) (fun n g=>g=(((b4*2^n:Nat):Int),(ad:Int),(n:Int))) (fun go g e=>?_) (fun go n g j e f=>?_) N 0 _ (bg _) (by simp) (by omega)
 .subst e
  dsimp only
  rw[Nat.pow_succ,<-Nat.mul_assoc]at c
  have k:0<b4*2^kh b4 ad:=Nat.mul_pos d (Nat.two_pow_pos _)
  have r:b4*2^kh b4 ad<=16*16:=tN (by omega) (by have:=Nat.pow_le_pow_right (n:=2) (by omega) a;omega)
  generalize b4*2^kh b4 ad=z at*
  rw[aq (by omega),ao,ai (ee (by omega) (by omega)),an (by omega),aj]
  exact Def.ret rfl
 .subst e
  dsimp only
  have l:=b n j
  rw[Nat.pow_succ,<-Nat.mul_assoc]at l
  have k:0<b4*2^n:=Nat.mul_pos d (Nat.two_pow_pos _)
  have o:(((b4*2^n:Nat):Int))*2=((b4*2^(n+1):Nat):Int):=by rw[Nat.pow_succ,<-Nat.mul_assoc];omega
  rw[aq (by omega),ao,ai (ee (by omega) (by omega)),aq (by omega),ao,ai (ee (by omega) (by omega)),ai (aO (n:=n) (by omega)),o]
  exact f _ (by rw[aS])
def fJ (cy ad b4:Nat):Nat:=22*cy*(kh b4 ad+1)
def fV (cy long total ad:Nat):Nat:=10*cy+3+9*long*ad/total
def worth (cy long total ad b4:Nat):Nat:=
 let u:=fJ cy ad b4
 let d:=fV cy long total ad
 u/Nat.gcd u d*1000/(d/Nat.gcd u d)
structure Fair (cy long total ad b4:Nat):Prop where
 UC:1<=cy
 EK:cy<=long
 yz:long<=80
 Ak:ad<=16
 FQ:1<=b4
 FR:b4<=ad
 UN:long<=total
 UO:total<=1280
theorem Fair.up {cy long total ad b4:Nat} (h:Fair cy long total ad b4):fJ cy ad b4<=8800:=by
 have a:=(DV h.FQ h.FR h.Ak).1
 have:=h.EK;have:=h.yz
 unfold fJ
 exact dS (tN (by omega:22*cy<=1760) (by omega:kh b4 ad+1<=5)) (by omega)
theorem Fair.mul {cy long total ad b4:Nat} (h:Fair cy long total ad b4):9*long*ad<=11520:=by
 have:=h.yz
 exact dS (tN (by omega:9*long<=720) h.Ak) (by omega)
theorem Fair.down {cy long total ad b4:Nat} (h:Fair cy long total ad b4):0<fV cy long total ad/\fV cy long total ad<=12400:=by
 unfold fV
 have a:=h.mul
 have b:=nX (9*long*ad) total
 have:=h.EK;have:=h.yz
 generalize 9*long*ad/total=z at*
 exact⟨by omega,by omega⟩
theorem arI (N:Nat) (v:1048576<N) {cy long total ad b4:Nat} (h:Fair cy long total ad b4):Bm N cy long total ad b4=some (((fJ cy ad b4/Nat.gcd (fJ cy ad b4) (fV cy long total ad):Nat):Int),((fV cy long total ad/Nat.gcd (fJ cy ad b4) (fV cy long total ad):Nat):Int),true):=by
 have t0:=h.UC;have t1:=h.EK;have t2:=h.yz;have t3:=h.Ak;have t4:=h.FQ;have t5:=h.FR;have t6:=h.UN;have t7:=h.UO
 obtain⟨a,b,c⟩:=DV t4 t5 t3
 have l:=h.down
 have hu:=h.up
 have hm:=h.mul
 refine Def.get ?_
 unfold Bm
 rw[fB,ag,aq (by omega),aq (by omega),fD,bf,aj]
 rw[fB,ag,aq (by omega),aq (by omega),fD,bf,aj]
 rw[fB,ag,aq (by omega),aq (by omega),fD,bf,aj]
 rw[fB,ag,aq (by omega),aq (by omega),fD,bf,aj]
 rw[fB,ag,aq (by omega),aq (by omega),fD,bf,aj]
 have e:IntKind.bits .i64=64:=rfl
 have d:∀n:Nat,n<=4->(b4:Int)*2^(min ((n:Int)+1).toNat (IntKind.bits .i64))=((b4*2^(n+1):Nat):Int):=fun n i=>by
  rw[e,show((n:Int)+1).toNat=n+1 from by omega,pg (by omega),n3,Int.natCast_pow]
  rfl
 have f:∀n:Nat,n<=4->b4*2^(n+1)<=16*32:=fun n i=>tN (by omega) (by have:=Nat.pow_le_pow_right (n:=2) (by omega) (show n+1<=5 by omega);omega)
 refine Def.upto (kh b4 ad) (fun n g=>g=((cy:Int),(long:Int),(total:Int),(ad:Int),(b4:Int),(n:Int),0,0)) (fun go g j=>?_) (fun go n g i j k=>?_) N 0 _ (bg _) rfl (by omega)
 .subst j
  dsimp only
  have o:=f _ a
  rw[ai (aO (by omega)),ai (by omega),d _ a]
  rw[ai (ee (by omega) (by omega)),an (by omega),aj,ai (ee (by omega) (by omega)),ai (ee (by omega) (by omega))]
  have p:22*(cy:Int)*((kh b4 ad:Int)+1)=((fJ cy ad b4:Nat):Int):=by unfold fJ;rw[n3,n3];rfl
  have r:9*(long:Int)*(ad:Int)=((9*long*ad:Nat):Int):=by rw[n3,n3];rfl
  have t:10*(cy:Int)+3+((9*long*ad/total:Nat):Int)=((fV cy long total ad:Nat):Int):=by unfold fV;omega
  have u:=nX (9*long*ad) total
  rw[p,r,p9,t]
  have y:(0:Int)<=((9*long*ad/total:Nat):Int)/\((9*long*ad/total:Nat):Int)<=11520:=⟨Int.natCast_nonneg _,by omega⟩
  generalize((9*long*ad/total:Nat):Int)=z at*
  rw[ai (ee (by omega) (by omega)),ai (ee (by omega) (by omega)),ai (ee (by omega) (by omega)),ai (ee (by omega) (by omega)),ai (ee (by omega) (by omega)),ai (by omega),ai (ee (by omega) (by omega)),ai (ee (by omega) (by omega)),ap1 N _ _ (by omega) (by omega) l.1 (by omega),ag]
  exact Def.ret rfl
 .subst j
  dsimp only
  have o:=f n (by omega)
  have A:=b n i
  rw[ai (aO (by omega)),ai (by omega),d _ (by omega),ai (ee (by omega) (by omega)),aq (by omega),ao,ai (aO (by omega))]
  exact k _ (by rw[aS])
theorem anH (N:Nat) (p:1048576<N) {cy long total ad b4:Nat} (h:Fair cy long total ad b4):D5 N cy long total ad b4=some (((fJ cy ad b4/Nat.gcd (fJ cy ad b4) (fV cy long total ad):Nat):Int),((fV cy long total ad/Nat.gcd (fJ cy ad b4) (fV cy long total ad):Nat):Int)):=by
 have t0:=h.UC;have t1:=h.EK;have t2:=h.yz;have t3:=h.Ak;have t4:=h.FQ;have t5:=h.FR;have t6:=h.UN;have t7:=h.UO
 obtain⟨a,b,c⟩:=DV t4 t5 t3
 have d:=h.down
 have hu:=h.up
 have hm:=h.mul
 have e:=nX (9*long*ad) total
 refine Def.get ?_
 unfold D5
 refine Def.meet (fun g=>g=((cy:Int),(ad:Int),(b4:Int),((9*long*ad/total:Nat):Int),0,0)) (fun g f=>?_) (fun J i=>?_)
 .subst f
  dsimp only
  rw[anG N b4 ad (by omega) t4 t5 t3,ag]
  have j:(1+(kh b4 ad:Int))*22*(cy:Int)=((fJ cy ad b4:Nat):Int):=by unfold fJ;rw[n3,n3,Int.mul_assoc,Int.mul_comm];congr 1;omega
  have k:10*(cy:Int)+3+((9*long*ad/total:Nat):Int)=((fV cy long total ad:Nat):Int):=by unfold fV;omega
  rw[j,k]
  rw[ai (ee (by omega) (by omega)),ai (ee (by omega) (by omega)),ai (ee (by omega) (by omega)),ai (ee (by omega) (by omega)),ai (ee (by omega) (by omega)),ai (ee (by omega) (by omega)),aol N _ _ (by omega) d.1 (by omega) (by omega),ag]
  exact Def.ret rfl
 .have l:(long:Int)*(ad:Int)*9=((9*long*ad:Nat):Int):=by rw[n3,n3,Int.mul_comm,Int.mul_assoc];rfl
  have o:(long:Int)*(ad:Int)=((long*ad:Nat):Int):=rfl
  have r:long*ad<=1280:=dS (tN t2 t3) (by omega)
  have t:(0:Int)<=((9*long*ad/total:Nat):Int)/\((9*long*ad/total:Nat):Int)<=11520:=⟨Int.natCast_nonneg _,by omega⟩
  rw[aq (by omega),ao,l,p9,o]
  generalize((9*long*ad/total:Nat):Int)=z at*
  rw[ai (ee (by omega) (by omega)),ai (ee (by omega) (by omega)),ai (by omega),ai (ee (by omega) (by omega))]
  exact i _ rfl
theorem asd (N:Nat) (f:1048576<N) {cy long total ad b4:Nat} (h:Fair cy long total ad b4):xL N ((fJ cy ad b4/Nat.gcd (fJ cy ad b4) (fV cy long total ad):Nat):Int) ((fV cy long total ad/Nat.gcd (fJ cy ad b4) (fV cy long total ad):Nat):Int) 1000=some (worth cy long total ad b4:Int):=by
 have b:=h.down
 have hu:=h.up
 have d:=Ay (a:=fJ cy ad b4) b.1
 have g:=nX (fJ cy ad b4) (Nat.gcd (fJ cy ad b4) (fV cy long total ad))
 have i:=nX (fV cy long total ad) (Nat.gcd (fJ cy ad b4) (fV cy long total ad))
 have e:0<fV cy long total ad/Nat.gcd (fJ cy ad b4) (fV cy long total ad):=Nat.div_pos (Nat.le_of_dvd b.1 (Nat.gcd_dvd_right _ _)) d
 rw[ap0 N _ _ (by omega) (by omega) e (by omega) (Nat.gcd_div_gcd_div_gcd_of_pos_right b.1)]
 rfl
theorem ase {cy long total ad b4:Nat} (h:Fair cy long total ad b4):worth cy long total ad b4<=8800000:=by
 have a:=h.down
 have hu:=h.up
 unfold worth
 dsimp only
 refine dS (nX _ _) ?_
 have:=nX (fJ cy ad b4) (Nat.gcd (fJ cy ad b4) (fV cy long total ad))
 omega
theorem anV (t:List UInt8):∀x r,t.drop (lead t)=x::r->e8 x=false:=by
 induction t with
 |nil=>intro x r h;simp at h
 |cons c t b=>
  intro x r h
  cases a:e8 c with
  |true=>rw[vw a,List.drop_succ_cons]at h;exact b x r h
  |false=>rw[Dg a,rP,List.cons.injEq]at h;rw[<-h.1];exact a
theorem K1 (l:List UInt8) (p a:Int):2*(hn l p a).length<=l.length+1:=by
 match l with
 | []=>rw[nW];simp
 |c::t=>
  rw[hn]
  split
  .cases b:t.drop (lead t)with
   |nil=>rw[nW];simp
   |cons x r=>
    have d:=anV t x r b
    have e:r.length+1<=t.length:=by
     have:=congrArg List.length b
     simp only[eF,ba]at this
     omega
    rw[K2 d]
    have:=K1 r (p+(lead t+1:Nat)+1) (a+1)
    simp only[ba]at this⊢
    omega
  .have:=K1 t (p+1) a
   simp only[ba];omega
termination_by l.length
decreasing_by all_goals (simp; try omega)
theorem arL (c:aK) (s:List UInt8) (h:s.length<=160):(dk c s).length<=80:=by
 have b:(dk c s).length<=(plain c.1 s).length:=EI _ _
 have a:(plain c.1 s).length<=(words s).length:=tJ _ _
 have d:=K1 s 0 0
 unfold words at a
 omega
def dK (l:List Nat):Nat:=l.foldr (· + ·) 0
theorem jM (a:Nat) (l:List Nat):dK (a::l)=a+dK l:=rfl
theorem v7 (a b:List Nat):dK (a++b)=dK a+dK b:=by
 induction a with
 |nil=>simp[dK]
 |cons x a d=>rw[kp,jM,d,jM];omega
theorem arC (l:List Nat) (n:Nat) (h:n<l.length):dK (l.take (n+1))=dK (l.take n)+l[n]:=by
 rw[dT h,v7]
 rfl
theorem tA (B:Nat):∀l:List Nat,(∀x,x∈l->x<=B)->dK l<=l.length*B
 | [],_=>by simp[dK]
 |x::l,h=>by
  have a:=h x (by simp)
  have b:=tA B l fun y hy=>h y (by simp[hy])
  rw[jM,ba,Nat.succ_mul]
  omega
theorem EC {α:Type} (f:α->Nat):∀l:List α,(∀x,x∈l->f x=0)->dK (l.map f)=0
 | [],_=>rfl
 |x::l,h=>by rw[cw,jM,h x (by simp),EC f l fun y hy=>h y (by simp[hy])]
theorem Up {α:Type} (f g:α->Nat):∀l:List α,dK (l.map fun x=>f x+g x)=dK (l.map f)+dK (l.map g)
 | []=>rfl
 |x::l=>by rw[cw,cw,cw,jM,jM,jM,Up f g l];omega
theorem Ur {α β:Type} (f:α->β->Nat) (a:List α):∀b:List β,dK (a.map fun x=>dK (b.map fun y=>f x y))=dK (b.map fun y=>dK (a.map fun x=>f x y))
 | []=>by rw[qn];exact EC _ _ fun x _=>rfl
 |y::b=>by
  rw[cw,jM,<-Ur f a b,<-Up]
  rfl
theorem Uq {α:Type} (f:α->Nat):∀(l:List α) (x:α),x∈l->f x<=dK (l.map f)
 |y::l,x,h=>by
  rw[cw,jM]
  rcases bn.1 h with rfl|h
  .omega
  .have:=Uq f l x h;omega
def iN (field:List UInt8) (es:List cQ):List cQ:=es.filter fun e=>decide (e.1=field)
def hM (ps:List EPost):Nat:=dK (ps.map fun p=>p.2.length)
def Dl (es:List cQ) (field:List UInt8) (id:Int):Nat:=dK ((iN field es).map fun e=>hM (e.2.2.filter fun p=>decide (p.1=id)))
def zj (es:List cQ) (field:List UInt8):Nat:=dK ((iN field es).map fun e=>hM e.2.2)
theorem MA {α:Type} (p:α->Bool):∀l:List α,(l.filter p).length+(l.filter fun x=> !p x).length=l.length
 | []=>rfl
 |x::l=>by
  have a:=MA p l
  rw[iY,iY]
  cases h:p x
  .simp only [nY,if_false,dH,if_true,ba];omega
  .simp only [bf,nY,if_false,if_true,ba];omega
theorem Ut :∀(T:List (List UInt8)) (a:List dv),T.Nodup->(∀t,t∈a->t.1∈T)->dK (T.map fun k=>(a.filter fun t=>decide (t.1=k)).length)=a.length
 | [],a,_,h=>by
  cases a with
  |nil=>rfl
  |cons t a=>exact absurd (h t (by simp)) (by simp)
 |k::T,a,d,h=>by
  rw[n2]at d
  rw[cw,jM]
  have j:=Ut T (a.filter fun t=> !decide (t.1=k)) d.2 fun t o=>by
   obtain⟨f,l⟩:=gH.1 o
   rcases bn.1 (h t f)with e|e
   .rw [aq e]at l;cases l
   .exact e
  have f:(T.map fun b=>((a.filter fun t=> !decide (t.1=k)).filter fun t=>decide (t.1=b)).length)=T.map fun b=>(a.filter fun t=>decide (t.1=b)).length:=by
   apply l8
   intro b g
   have i:b≠k:=fun e=>d.1 (e▸g)
   rw[List.filter_filter]
   congr 1
   apply List.filter_congr
   intro t _
   by_cases e:t.1=b
   .rw [aq e,an (fun p=>i (e.symm.trans p))];rfl
   .rw [an e];rfl
  rw[f]at j
  rw[j,MA]
def iW (c:aK) (field:List UInt8) (d:aF):Nat:=(dk c (ez d.2.1 field)).length
theorem Fv (c:aK) (d:aF) (k:gW):(b5 c d k).length=((dk c (ez d.2.1 k.1)).filter fun t=>decide (t.1=k.2)).length:=by unfold b5;rw[dE]
theorem S5 (c:aK) (P:Int->Bool) (k:gW):∀ad:List aF,hM ((ef c ad k).filter fun p=>P p.1)=dK (ad.map fun d=>if P d.1=true then(b5 c d k).length else 0)
 | []=>rfl
 |d::l=>by
  have a:=S5 c P k l
  rw[cw,jM,<-a]
  unfold ef
  rw[tK]
  by_cases e:b5 c d k=[]
  .rw [ai e,e]
   simp
  .rw [aC e]
   dsimp only
   rw[iY]
   split
   .rename_i b
    unfold hM
    rw[cw,jM]
   .rename_i b
    rw[gV]
theorem Mo {c:aK} {ad:List aF} {e:cQ} (he:e∈eu c ad):e.2.2=ef c ad (e.1,e.2.1):=by
 unfold eu at he
 obtain⟨f,_,he⟩:=js.1 he
 obtain⟨t,_,rfl⟩:=cg.1 he
 rfl
theorem X1 (c:aK) (ad:List aF):((eu c ad).map di).Nodup:=(Mn c ad).imp fun {a b} h e=>by rw[e,Jt]at h;cases h
def wb (c:aK) (ad:List aF) (field:List UInt8):List (List UInt8):=(iN field (eu c ad)).map fun e=>e.2.1
theorem arK (c:aK) (ad:List aF) (field:List UInt8):(wb c ad field).Nodup:=by
 unfold wb iN
 have h:=qk.1 (X1 c ad)
 refine qk.2 ?_
 refine List.Pairwise.imp_of_mem (fun {a b} f g d e=>d ?_) (h.sublist (List.filter_sublist (p:=fun e:cQ=>decide (e.1=field))))
 have i:=of_decide_eq_true (gH.1 f).2
 have j:=of_decide_eq_true (gH.1 g).2
 exact Prod.ext (i.trans j.symm) e
theorem Uz (c:aK) {ad:List aF} (b:e0 ad) (field:List UInt8) {d:aF} (h:d∈ad) {t:dv} (a:t∈dk c (ez d.2.1 field)):(field,t.1)∈(eu c ad).map di:=by
 rw[F6 c b.gB]
 by_cases e:field∈d.2.1.map (·.1)
 .obtain ⟨g,f,rfl⟩:=cg.1 e
  rw[Ao _ (b.gB.names d h) g f]at a
  exact⟨((g.1,t.1),d.1,t.2),js.2 ⟨d,h,js.2 ⟨g,f,cg.2 ⟨t,a,rfl⟩⟩⟩,rfl⟩
 .rw [Gi _ _ e,KS]at a;cases a
theorem arJ (c:aK) {ad:List aF} (b:e0 ad) (field:List UInt8) {d:aF} (h:d∈ad):∀t,t∈dk c (ez d.2.1 field)->t.1∈wb c ad field:=fun t f=>by
 obtain⟨e,he,a⟩:=cg.1 (Uz c b field h f)
 have g:e.1=field:=congrArg Prod.fst a
 have i:e.2.1=t.1:=congrArg Prod.snd a
 exact cg.2 ⟨e,gH.2 ⟨he,aq g⟩,i⟩
theorem Uu (c:aK) {ad:List aF} (f:e0 ad) (P:Int->Bool) (field:List UInt8):dK ((iN field (eu c ad)).map fun e=>hM (e.2.2.filter fun p=>P p.1))=dK (ad.map fun d=>if P d.1=true then iW c field d else 0):=by
 have a:((iN field (eu c ad)).map fun e=>hM (e.2.2.filter fun p=>P p.1))=(wb c ad field).map fun t=>dK (ad.map fun d=>if P d.1=true then(b5 c d (field,t)).length else 0):=by
  unfold wb
  rw[mb]
  apply l8
  intro e he
  obtain⟨a,g⟩:=gH.1 he
  show hM (e.2.2.filter fun p=>P p.1)=dK (ad.map fun d=>if P d.1=true then(b5 c d (field,e.2.1)).length else 0)
  rw[Mo a,of_decide_eq_true g]
  exact S5 c P (field,e.2.1) ad
 rw[a,Ur]
 congr 1
 apply l8
 intro d b
 split
 .have:=Ut (wb c ad field) (dk c (ez d.2.1 field)) (arK c ad field) (arJ c f field b)
  rw[<-show _=iW c field d from this]
  congr 1
  apply l8
  intro t _
  exact Fv c d (field,t)
 .exact EC _ _ fun _ _=>rfl
def total (c:aK) (ad:List aF) (field:List UInt8):Nat:=dK (ad.map (iW c field))
def e1 (ad:List aF) (id:Int):Option aF:=ad.find? fun d=>decide (d.1=id)
def long (c:aK) (ad:List aF) (field:List UInt8) (id:Int):Nat:=match e1 ad id with
 |some d=>iW c field d
 |none=>0
theorem arZ (c:aK) {ad:List aF} (a:e0 ad) (field:List UInt8):zj (eu c ad) field=total c ad field:=by
 have h:=Uu c a (fun _=>true) field
 unfold zj total
 rw[show(ad.map fun d=>if(fun _:Int=>true) d.1=true then iW c field d else 0)=ad.map (iW c field)from l8 fun d _=>ai rfl]at h
 rw[<-h]
 congr 1
 apply l8
 intro e _
 rw[List.filter_eq_self.2 fun _ _=>rfl]
theorem MF {id:Int}:∀ {ad:List aF},(ad.Pairwise fun a b=>a.1<b.1)->∀(f:aF->Nat),dK (ad.map fun d=>if decide (d.1=id)=true then f d else 0)=match e1 ad id with
  |some d=>f d
  |none=>0
 | [],_,f=>rfl
 |d::l,h,f=>by
  rw[en]at h
  rw[cw,jM]
  unfold e1
  rw[n0]
  by_cases e:d.1=id
  .rw [aq e,ai rfl,EC _ l fun x g=>aC (by have:=h.1 x g;simp;omega)]
   rfl
  .rw [an e,aC (by simp),MF h.2 f]
   simp only[gV]
   rfl
theorem an9 (c:aK) {ad:List aF} (a:e0 ad) (field:List UInt8) (id:Int):Dl (eu c ad) field id=long c ad field id:=by
 have h:=Uu c a (fun n=>decide (n=id)) field
 rw[MF a.gB.ids]at h
 exact h
def oY (es:List cQ) (field term:List UInt8):List EPost:=match es.find? fun e=>decide (e.1=field)&&decide (e.2.1=term)with
 |some e=>e.2.2
 |none=>[]
def ug (ps:List EPost) (id:Int):List Int:=match ps.find? fun p=>decide (p.1=id)with
 |some p=>p.2
 |none=>[]
theorem DP (c:aK) {ad:List aF} (g:e0 ad) (field term:List UInt8):oY (eu c ad) field term=ef c ad (field,term):=by
 unfold oY
 cases h:(eu c ad).find? fun e=>decide (e.1=field)&&decide (e.2.1=term)with
 |some e=>
  have b:=List.find?_some h
  rw[a6,bo,bo]at b
  dsimp only
  rw[Mo (ql h),b.1,b.2]
 |none=>
  dsimp only
  symm
  unfold ef
  rw[List.filterMap_eq_nil_iff]
  intro d f
  have:b5 c d (field,term)=[]:=by
   unfold b5
   rw[List.map_eq_nil_iff,List.filter_eq_nil_iff]
   intro t i j
   have hm:=Uz c g field f i
   rw[of_decide_eq_true j]at hm
   obtain⟨e,he,a⟩:=cg.1 hm
   have:=wv.1 h e he
   rw[show e.1=field from congrArg Prod.fst a,show e.2.1=term from congrArg Prod.snd a]at this
   simp at this
  rw[ai this]
def eN (c:aK) (ad:List aF) (k:gW) (id:Int):List Int:=match e1 ad id with
 |some d=>b5 c d k
 |none=>[]
theorem Ft (c:aK) (k:gW) (id:Int):∀ {ad:List aF},(ad.Pairwise fun a b=>a.1<b.1)->ug (ef c ad k) id=eN c ad k id
 | [],_=>rfl
 |d::l,h=>by
  rw[en]at h
  have i:=Ft c k id h.2
  unfold eN e1
  rw[n0]
  unfold ef
  rw[tK]
  by_cases e:d.1=id
  .rw [aq e]
   dsimp only
   by_cases g:b5 c d k=[]
   .rw [ai g,g]
    dsimp only
    unfold ug
    rw[wv.2]
    intro p j
    obtain⟨x,o,f⟩:=rQ.1 j
    split at f
    .cases f
    .cases f
     have:=h.1 x o
     simp
     omega
   .rw [aC g]
    dsimp only
    unfold ug
    rw[n0,aq e]
  .rw [an e]
   dsimp only
   unfold eN e1 at i
   rw[<-i]
   by_cases g:b5 c d k=[]
   .rw [ai g]
    rfl
   .rw [aC g]
    dsimp only
    unfold ug
    rw[n0,an e]
    rfl
def jn (c:aK) (ad:List aF) (field term:List UInt8) (id:Int):Nat:=
 if(eN c ad (field,term) id).length=0 then 0 else worth (eN c ad (field,term) id).length (long c ad field id) (total c ad field) ad.length (ef c ad (field,term)).length
theorem EN (c:aK) {ad:List aF} (a:e0 ad) (field:List UInt8) {d:aF} (h:d∈ad):iW c field d<=80:=arL c _ (a.text h field)
theorem ar0 (c:aK) {ad:List aF} (b:e0 ad) (field:List UInt8):total c ad field<=1280:=by
 unfold total
 refine dS (tA 80 _ fun x e=>?_) (by rw[dE];have:=b.c7;omega)
 obtain⟨d,a,rfl⟩:=cg.1 e
 exact EN c b field a
theorem Kf (c:aK) {ad:List aF} (a:e0 ad) (field term:List UInt8) (id:Int) (h:(eN c ad (field,term) id).length≠0):Fair (eN c ad (field,term) id).length (long c ad field id) (total c ad field) ad.length (ef c ad (field,term)).length:=by
 unfold eN long at*
 cases b:e1 ad id with
 |none=>rw[b]at h;exact absurd rfl h
 |some d=>
  rw[b]at h
  dsimp only at*
  have hm:d∈ad:=ql b
  have g:=EN c a field hm
  have hle:(b5 c d (field,term)).length<=iW c field d:=by rw[Fv];exact ho _ _
  have i:(ef c ad (field,term)).length<=ad.length:=tJ _ _
  have f:1<=(ef c ad (field,term)).length:=by
   have:(d.1,b5 c d (field,term))∈ef c ad (field,term):=rQ.2 ⟨d,hm,by rw[aC (fun e=>h (by rw[e];rfl))]⟩
   exact List.length_pos_of_mem this
  exact⟨by omega,hle,g,a.c7,f,i,Uq (iW c field) ad d hm,ar0 c a field⟩
theorem yN (c:aK) {ad:List aF} (a:e0 ad) (field term:List UInt8) (id:Int):jn c ad field term id<=8800000:=by
 unfold jn
 split
 .omega
 .rename_i h
  exact ase (Kf c a field term id h)
theorem tu {α d ρ:Type} (F:(d->Option ρ)->d->Option ρ) (xs:List α) (st:Nat->d) (p:α->Bool) (r:α->ρ) (e:ρ) (z:d) (R:ρ) (i:z=st 0) (j:(xs.find? p).elim e r=R) (b:∀go,F go (st xs.length)=some e)
  (a:∀go (n:Nat) (h:n<xs.length),F go (st n)=bif p xs[n]then some (r xs[n])else go (st (n+1))) (N:Nat) (h:xs.length<N):iter F N z=some R:=by
 subst i
 have:=dh F xs.length st (fun n=>some (((xs.drop n).find? p).elim e r)) (fun go=>by rw[b,me];rfl) (fun go n g f=>by
  rw[a go n g,f,eY g,n0]
  cases p xs[n]<;>rfl) N 0 (bg _) (by omega)
 rw[this,<-j]
 rfl
theorem nE {ad:List aF} (h:eR ad=true):∀d,d∈ad->gF d=true:=fun d b=>by
 unfold eR at h
 rw[a6,bo]at h
 obtain⟨n,a,rfl⟩:=eb.1 b
 have:=nb h.1 a
 unfold pZ at this
 rw[a6,<-og a]at this
 exact this.1
theorem JR {d:aF} (h:gF d=true):d.2.1.length<=3/\d.2.2.length<=3/\∀f,f∈d.2.1->fI f.2=true:=by
 unfold gF at h
 simp only[a6,bo]at h
 refine⟨by omega,by omega,fun f e=>?_⟩
 obtain⟨n,b,rfl⟩:=eb.1 e
 have a:=nb h.1.2 b
 unfold okF at a
 rw[a6,a6,<-pA b]at a
 exact a.1.2
theorem Yc {a:List eo} (h:∀f,f∈a->fI f.2=true) (name:List UInt8):fI (ez a name)=true:=by
 induction a with
 |nil=>rfl
 |cons f l b=>
  unfold ez
  split
  .exact h f cb
  .exact b fun g d=>h g (ch _ d)
structure fl (N:Nat) (c:aK) (s:cq):Prop where
 cS:bC<N
 top:N<=16777216
 c8:cH bC gJ c
 gE:∀x,x∈s.1->cH bC fN x
 ok:fS c s=true
theorem iR {c:aK} {s:cq} (h:fS c s=true):dQ c=true/\e0 s.1/\s.2=eu c s.1:=by
 unfold fS at h
 simp only[a6,bo]at h
 exact⟨h.1,lh h.2.1,h.2.2.symm⟩
theorem rq {c:aK} {s:cq} (h:fS c s=true):eR s.1=true:=by
 unfold fS at h
 simp only[a6,bo]at h
 exact h.2.1
theorem fl.dM {N:Nat} {c:aK} {s:cq} (h:fl N c s):e0 s.1:=(iR h.ok).2.1
theorem fl.om {N:Nat} {c:aK} {s:cq} (h:fl N c s):s.2=eu c s.1:=(iR h.ok).2.2
theorem fl.m {N:Nat} {c:aK} {s:cq} (h:fl N c s):1048576<N:=h.cS
theorem fl.small {N:Nat} {c:aK} {s:cq} (h:fl N c s):Small 7680 s.2:=by rw[h.om];exact w6 c h.dM
theorem XB (N:Nat) (b:bC<N) (p:N<=16777216) (d:aF) (h:cH bC fN d) (g:gF d=true) (name:List UInt8):Be N d.1 d.2.1 d.2.2 name=some (ez d.2.1 name):=by
 have i:1048576<N:=b
 have r:=(JR g).1
 unfold Be
 rw[Aj N b (by omega) d.1 d.2.1 d.2.2 h,ag,g,ao]
 have j:∀a:List eo,(match a.find? (fun f=>decide (f.1=name))with
   |some f=>f.2
   |none=>[])=ez a name:=fun a=>by
  induction a with
  |nil=>rfl
  |cons f l k=>
   unfold ez
   rw[n0,<-k]
   by_cases e:f.1=name
   .rw [aq e,ai e]
   .rw [an e,aC e]
 rw[<-j]
 refine tu _ d.2.1 (fun n=>(name,d.2.1,(d.2.1.length:Int),(n:Int))) (fun f=>decide (f.1=name)) (·.2) [] _ _ rfl (by cases d.2.1.find? fun f=>decide (f.1=name)<;>rfl) (fun go=>?_) (fun go n o=>?_) N (by omega)
 .dsimp only
  rw[an (bm _),aj]
 .dsimp only
  rw[aq (by omega:(n:Int)<d.2.1.length),ao,aP o,ag,ai (aO (n:=n) (by omega)),aS]
theorem T1 (N:Nat) (s:cq) (id:Int) (h:s.1.length<N) (b:N<=16777216):xM N s id=some (match e1 s.1 id with
  |some d=>(d.1,d.2.1,d.2.2,true)
  |none=>(0,[],[],false)):=by
 unfold xM e1
 refine tu _ s.1 (fun n=>(id,s.1,(s.1.length:Int),(n:Int),(0:Int))) (fun d=>decide (d.1=id)) (fun d:aF=>(d.1,d.2.1,d.2.2,true)) (0,[],[],false) _ _ rfl (by cases s.1.find? fun d=>decide (d.1=id)<;>rfl) (fun go=>?_) (fun go n a=>?_) N h
 .dsimp only
  rw[an (bm _),aj]
 .dsimp only
  rw[aq (by omega:(n:Int)<s.1.length),ao,aP a,ag,ai (aO (n:=n) (by omega)),aS]
theorem T2 (N:Nat) {c:aK} {s:cq} (g:fl N c s) (field:List UInt8) (id:Int):xN N s c.1 c.2 field id=some (long c s.1 field id:Int):=by
 have e:=g.m
 have a:=g.top
 have f:=g.dM.c7
 unfold xN long
 rw[T1 N s id (by omega) a,ag]
 cases h:e1 s.1 id with
 |none=>rfl
 |some d=>
  dsimp only
  have hm:d∈s.1:=ql h
  have b:=nE (rq g.ok) d hm
  have hlen:=g.dM.text hm field
  rw[bf,aj,XB N g.cS a d (g.gE d hm) b field,ag,EJ N c _ (by omega) g.cS (by omega) g.c8,(iR g.ok).1,Yc (JR b).2.2 field,fD,ao,ag]
  rfl
theorem T4 (N:Nat) (s:cq) (field term:List UInt8) (h:s.2.length<N) (d:N<=16777216):xO N s field term=some (oY s.2 field term):=by
 unfold xO oY
 refine tu _ s.2 (fun n=>(field,term,s.2,(s.2.length:Int),(n:Int))) (fun e=>decide (e.1=field)&&decide (e.2.1=term)) (·.2.2) [] _ _ rfl (by cases s.2.find? fun e=>decide (e.1=field)&&decide (e.2.1=term)<;>rfl) (fun go=>?_) (fun go n b=>?_) N h
 .dsimp only
  rw[an (bm _),aj]
 .dsimp only
  rw[aq (by omega:(n:Int)<s.2.length),ao,aP b,ag,ai (aO (n:=n) (by omega)),aS]
  by_cases a:s.2[n].1=field
  .rw [aq a,ao,cl]
  .rw [an a,aj,pf,aj]
theorem RY (N:Nat) (s:cq) (field term:List UInt8) (h:s.2.length<N) (d:N<=16777216):za N s.1 s.2 field term=some (oY s.2 field term):=by
 unfold za oY
 refine tu _ s.2 (fun n=>(field,term,(n:Int),s.1,s.2)) (fun e=>decide (e.1=field)&&decide (e.2.1=term)) (·.2.2) [] _ _ rfl (by cases s.2.find? fun e=>decide (e.1=field)&&decide (e.2.1=term)<;>rfl) (fun go=>?_) (fun go n b=>?_) N h
 .dsimp only
  rw[an (bm _),aj]
 .dsimp only
  rw[aq (by omega:(n:Int)<s.2.length),ao,aP b,ag,ag,ag,ai (aO (n:=n) (by omega)),aS]
  by_cases a:s.2[n].1=field
  .rw [aq a,ao,cl]
  .rw [an a,aj,pf,aj]
theorem S4 {es:List cQ} {m:Nat} (h:Small m es) (field term:List UInt8):(oY es field term).length<=m:=by
 unfold oY
 cases a:es.find? fun e=>decide (e.1=field)&&decide (e.2.1=term)with
 |none=>simp
 |some e=>exact(h.2 e (ql a)).1
theorem Kb (N:Nat) {c:aK} {s:cq} (g:fl N c s) (x:aK) (field term:List UInt8) (id:Int):u3 N (x,s) field term id=some (eN c s.1 (field,term) id):=by
 have f:=g.m
 have a:=g.top
 have b:=g.small.1
 have d:=S4 g.small field term
 unfold u3
 rw[T4 N s field term (by omega) a,ag]
 have h:=Ft c (field,term) id g.dM.gB.ids
 rw[<-DP c g.dM,<-g.om]at h
 rw[<-h]
 unfold ug
 generalize oY s.2 field term=ps at*
 refine tu _ ps (fun n=>(id,ps,(ps.length:Int),(n:Int))) (fun p=>decide (p.1=id)) (·.2) [] _ _ rfl (by cases ps.find? fun p=>decide (p.1=id)<;>rfl) (fun go=>?_) (fun go n e=>?_) N (by omega)
 .dsimp only
  rw[an (bm _),aj]
 .dsimp only
  rw[aq (by omega:(n:Int)<ps.length),ao,aP e,ag,ai (aO (n:=n) (by omega)),aS]
theorem Jd (N:Nat) {c:aK} {s:cq} (g:fl N c s) (field term:List UInt8) (id:Int):vS N s.1 s.2 field term id=some (eN c s.1 (field,term) id):=by
 have f:=g.m
 have a:=g.top
 have b:=g.small.1
 have d:=S4 g.small field term
 unfold vS
 rw[RY N s field term (by omega) a,ag]
 have h:=Ft c (field,term) id g.dM.gB.ids
 rw[<-DP c g.dM,<-g.om]at h
 rw[<-h]
 unfold ug
 generalize oY s.2 field term=ps at*
 refine tu _ ps (fun n=>(id,ps,(n:Int))) (fun p=>decide (p.1=id)) (·.2) [] _ _ rfl (by cases ps.find? fun p=>decide (p.1=id)<;>rfl) (fun go=>?_) (fun go n e=>?_) N (by omega)
 .dsimp only
  rw[an (bm _),aj]
 .dsimp only
  rw[aq (by omega:(n:Int)<ps.length),ao,aP e,ag,ag,ai (aO (n:=n) (by omega)),aS]
theorem Jk {m:Nat} {ps:List EPost} (a:ps.length<=m) (b:∀p,p∈ps->p.2.length<=m):hM ps<=m*m:=by
 unfold hM
 refine dS (tA m _ fun x d=>?_) (by rw[dE];exact ek m a)
 obtain⟨p,e,rfl⟩:=cg.1 d
 exact b p e
theorem anI (N:Nat) {c:aK} {s:cq} (g:fl N c s) (field:List UInt8):D6 N s.1 s.2 field=some (total c s.1 field:Int):=by
 have Q:=g.m
 have S:=g.top
 have a:=g.small
 rw[<-arZ c g.dM,<-g.om]
 let ins:cQ->Nat:=fun e=>if e.1=field then hM e.2.2 else 0
 have i:∀es:List cQ,zj es field=dK (es.map ins):=fun es=>by
  unfold zj iN
  induction es with
  |nil=>rfl
  |cons e es H=>
   rw[cw,jM,<-H,iY]
   by_cases h:e.1=field
   .rw [ai (aq h),cw,jM,show ins e=hM e.2.2 from ai h]
   .rw [aC (by simp[h]),show ins e=0 from aC h,gV]
 have I:∀e,e∈s.2->ins e<=7680*7680:=fun e he=>by
  show(if e.1=field then hM e.2.2 else 0)<=_
  split
  .exact Jk (a.2 e he).1 (a.2 e he).2
  .omega
 have l:∀n,dK ((s.2.take n).map ins)<=7680*(7680*7680):=fun n=>by
  refine dS (tA (7680*7680) _ fun x J=>?_) (ek _ ?_)
  .obtain ⟨e,he,rfl⟩:=cg.1 J
   exact I e (fC he)
  .rw [dE,bN];have:=a.1;omega
 refine Def.get ?_
 unfold D6
 refine Def.upto s.2.length (fun n v=>v=(field,((dK ((s.2.take n).map ins):Nat):Int),(n:Int),s.1,s.2)) (fun go v d=>?_) (fun go n v o d z=>?_) N 0 _ (bg _) rfl (by have:=a.1;omega)
 .subst d
  dsimp only
  rw[an (bm _),aj,cj]
  exact Def.ret (by rw[i])
 .subst d
  dsimp only
  have hm:s.2[n]∈s.2:=br o
  have t:=a.2 _ hm
  have f:dK ((s.2.take (n+1)).map ins)=dK ((s.2.take n).map ins)+ins s.2[n]:=by
   rw[dT o,ib,v7]
   rfl
  have K:=l n
  rw[aq (by omega:(n:Int)<s.2.length),ao]
  have L:=a.1
  have b:∀k:Nat,k=ins s.2[n]->Def (if fits ((n:Int)+1)then go (field,((dK ((s.2.take n).map ins)+k:Nat):Int),(n:Int)+1,s.1,s.2)else none) fun r=>r=(zj s.2 field:Int):=fun k M=>by
   rw[ai (aO (n:=n) (by omega))]
   exact z _ (by rw[f,M,aS])
  generalize dK ((s.2.take n).map ins)=acc at*
  by_cases y:s.2[n].1=field
  .have hi:ins s.2[n]=hM s.2[n].2.2:=ai y
   have A:∀j,hM (s.2[n].2.2.take j)<=7680*7680:=fun j=>Jk (by rw[bN];omega) fun p O=>t.2 p (fC O)
   refine Def.upto s.2[n].2.2.length (fun j v=>v=(field,((acc+hM (s.2[n].2.2.take j):Nat):Int),(n:Int),(j:Int),s.1,s.2)) (fun go2 v d=>?_) (fun go2 j v B d u=>?_) N 0 _ (bg _) rfl (by omega)
   .subst d
    dsimp only
    rw[aP o,ag,an (bm _),aj,cj]
    exact b _ hi.symm
   .subst d
    dsimp only
    have P:=t.2 _ (br B)
    have T:=A j
    rw[aP o,ag,aq (by omega:(j:Int)<s.2[n].2.2.length),ao,ag,aq y,ao,ag,aP B,ag,ai (ee (by omega) (by omega)),ai (aO (n:=j) (by omega))]
    refine u _ ?_
    have C:hM (s.2[n].2.2.take (j+1))=hM (s.2[n].2.2.take j)+s.2[n].2.2[j].2.length:=by
     unfold hM
     rw[dT B,ib,v7]
     rfl
    rw[C,aS,<-mY,Int.natCast_add (acc+_)]
  .have hi:ins s.2[n]=0:=aC y
   have F:=b 0 hi.symm
   rw[lC]at F
   cases N with
   |zero=>omega
   |succ N=>
    show Def (Option.bind (idx s.2 n) _) _
    rw[aP o,ag]
    by_cases G:(0:Int)<s.2[n].2.2.length
    .rw [aq G,ao,ag]
     dsimp only
     rw[an y,aj]
     exact F
    .rw [an G,aj]
     exact F
theorem anQ (N:Nat) {c:aK} {s:cq} (g:fl N c s) (field:List UInt8) (id:Int):El N s.1 s.2 field id=some (long c s.1 field id:Int):=by
 have W:=g.m
 have X:=g.top
 have b:=g.small
 rw[<-an9 c g.dM,<-g.om]
 let a:List EPost->Nat:=fun ps=>hM (ps.filter fun p=>decide (p.1=id))
 have u:∀(ps:List EPost) (j:Nat) (l:j<ps.length),a (ps.take (j+1))=a (ps.take j)+(if ps[j].1=id then ps[j].2.length else 0):=fun ps j l=>by
  show hM _=hM _+_
  rw[dT l,jP]
  unfold hM
  rw[ib,v7]
  congr 1
  by_cases e:ps[j].1=id
  .rw [ai e,iY,ai (aq e)];rfl
  .rw [aC e,iY,aC (by simp[e])];rfl
 let ins:cQ->Nat:=fun e=>if e.1=field then a e.2.2 else 0
 have y:∀es:List cQ,Dl es field id=dK (es.map ins):=fun es=>by
  unfold Dl iN
  induction es with
  |nil=>rfl
  |cons e es L=>
   rw[cw,jM,<-L,iY]
   by_cases h:e.1=field
   .rw [ai (aq h),cw,jM,show ins e=a e.2.2 from ai h]
   .rw [aC (by simp[h]),show ins e=0 from aC h,gV]
 have z:∀(ps:List EPost),ps.length<=7680->(∀p,p∈ps->p.2.length<=7680)->a ps<=7680*7680:=fun ps M O=>
  Jk (dS (ho _ _) M) fun p G=>O p (gH.1 G).1
 have P:∀e,e∈s.2->ins e<=7680*7680:=fun e he=>by
  show(if e.1=field then a e.2.2 else 0)<=_
  split
  .exact z _ (b.2 e he).1 (b.2 e he).2
  .omega
 have A:∀n,dK ((s.2.take n).map ins)<=7680*(7680*7680):=fun n=>by
  refine dS (tA (7680*7680) _ fun x Q=>?_) (ek _ ?_)
  .obtain ⟨e,he,rfl⟩:=cg.1 Q
   exact P e (fC he)
  .rw [dE,bN];have:=b.1;omega
 refine Def.get ?_
 unfold El
 refine Def.upto s.2.length (fun n v=>v=(field,id,((dK ((s.2.take n).map ins):Nat):Int),(n:Int),s.1,s.2)) (fun go v o=>?_) (fun go n v B o H=>?_) N 0 _ (bg _) rfl (by have:=b.1;omega)
 .subst o
  dsimp only
  rw[an (bm _),aj,cj]
  exact Def.ret (by rw[y])
 .subst o
  dsimp only
  have hm:s.2[n]∈s.2:=br B
  have C:=b.2 _ hm
  have t:dK ((s.2.take (n+1)).map ins)=dK ((s.2.take n).map ins)+ins s.2[n]:=by
   rw[dT B,ib,v7]
   rfl
  have S:=A n
  rw[aq (by omega:(n:Int)<s.2.length),ao]
  have T:=b.1
  have d:∀k:Nat,k=ins s.2[n]->Def (if fits ((n:Int)+1)then go (field,id,((dK ((s.2.take n).map ins)+k:Nat):Int),(n:Int)+1,s.1,s.2)else none) fun r=>r=(Dl s.2 field id:Int):=fun k U=>by
   rw[ai (aO (n:=n) (by omega))]
   exact H _ (by rw[t,U,aS])
  generalize dK ((s.2.take n).map ins)=acc at*
  by_cases F:s.2[n].1=field
  .have hi:ins s.2[n]=a s.2[n].2.2:=ai F
   have I:∀j,a (s.2[n].2.2.take j)<=7680*7680:=fun j=>z _ (by rw[bN];omega) fun p G=>C.2 p (fC G)
   refine Def.upto s.2[n].2.2.length (fun j v=>v=(field,id,((acc+a (s.2[n].2.2.take j):Nat):Int),(n:Int),(j:Int),s.1,s.2)) (fun go2 v o=>?_) (fun go2 j v l o i=>?_) N 0 _ (bg _) rfl (by omega)
   .subst o
    dsimp only
    rw[aP B,ag,an (bm _),aj,cj]
    exact d _ hi.symm
   .subst o
    dsimp only
    have V:=C.2 _ (br l)
    have Y:=I j
    have f:=u s.2[n].2.2 j l
    rw[aP B,ag,aq (by omega:(j:Int)<s.2[n].2.2.length),ao,ag,aq F,ao,ag,aP l,ag]
    by_cases e:s.2[n].2.2[j].1=id
    .rw [aq e,ao,ag,aP l,ag,ai (ee (by omega) (by omega)),ai (aO (n:=j) (by omega))]
     refine i _ ?_
     rw[ai e]at f
     rw[f,aS,<-mY,Int.natCast_add (acc+_)]
    .rw [an e,aj,ai (aO (n:=j) (by omega))]
     refine i _ ?_
     rw[aC e]at f
     rw[f,aS,lC]
  .have hi:ins s.2[n]=0:=aC F
   have J:=d 0 hi.symm
   rw[lC]at J
   cases N with
   |zero=>omega
   |succ N=>
    show Def (Option.bind (idx s.2 n) _) _
    rw[aP B,ag]
    by_cases K:(0:Int)<s.2[n].2.2.length
    .rw [aq K,ao,ag]
     dsimp only
     rw[an F,aj]
     exact J
    .rw [an K,aj]
     exact J
theorem Jf (N:Nat) {c:aK} {s:cq} (g:fl N c s) (field term:List UInt8) (id:Int):vT N s.1 s.2 field term id=some (jn c s.1 field term id:Int):=by
 have f:=g.m
 have i:=g.top
 have j:=g.small.1
 have k:=fun h=>Kf c g.dM field term id h
 unfold vT jn
 rw[Jd N g field term id,ag]
 by_cases h:(eN c s.1 (field,term) id).length=0
 .rw [aq (by omega),ao,ai h];rfl
 .have b:=k h
  have e:=b.down
  have hu:=b.up
  have d:=Ay (a:=fJ (eN c s.1 (field,term) id).length s.1.length (ef c s.1 (field,term)).length) e.1
  have l:=nX (fJ (eN c s.1 (field,term) id).length s.1.length (ef c s.1 (field,term)).length) (Nat.gcd (fJ (eN c s.1 (field,term) id).length s.1.length (ef c s.1 (field,term)).length) (fV (eN c s.1 (field,term) id).length (long c s.1 field id) (total c s.1 field) s.1.length))
  have o:0<fV (eN c s.1 (field,term) id).length (long c s.1 field id) (total c s.1 field) s.1.length/Nat.gcd (fJ (eN c s.1 (field,term) id).length s.1.length (ef c s.1 (field,term)).length) (fV (eN c s.1 (field,term) id).length (long c s.1 field id) (total c s.1 field) s.1.length):=Nat.div_pos (Nat.le_of_dvd e.1 (Nat.gcd_dvd_right _ _)) d
  rw[an (by omega),aj,aC h,anQ N g,ag,anI N g,ag,RY N s field term (by omega) i,ag,g.om,DP c g.dM,anH N f b,ag]
  dsimp only
  unfold worth
  dsimp only
  generalize fJ (eN c s.1 (field,term) id).length s.1.length (ef c s.1 (field,term)).length/Nat.gcd (fJ (eN c s.1 (field,term) id).length s.1.length (ef c s.1 (field,term)).length) (fV (eN c s.1 (field,term) id).length (long c s.1 field id) (total c s.1 field) s.1.length)=u at*
  generalize fV (eN c s.1 (field,term) id).length (long c s.1 field id) (total c s.1 field) s.1.length/Nat.gcd (fJ (eN c s.1 (field,term) id).length s.1.length (ef c s.1 (field,term)).length) (fV (eN c s.1 (field,term) id).length (long c s.1 field id) (total c s.1 field) s.1.length)=v at*
  rw[show(u:Int)*1000=((u*1000:Nat):Int)from by omega,ai (ee (by omega) (by omega)),ai (by omega),ai (uD (by omega)),p9]
theorem Kd (N:Nat) {c:aK} {s:cq} (g:fl N c s) (field term:List UInt8) (id:Int):u4 N (c,s) field term id=some (jn c s.1 field term id:Int):=by
 have o:=g.m
 have y:=g.top
 have z:=g.small.1
 have r:=g.dM.c7
 have A:=fun h=>Kf c g.dM field term id h
 refine Def.get ?_
 unfold u4 jn
 rw[Kb N g c field term id,ag]
 by_cases h:(eN c s.1 (field,term) id).length=0
 .rw [aq (by omega),ao,ai h]
  exact Def.ret rfl
 .have t:=A h
  have j:∀n,dK ((s.1.take n).map (iW c field))<=16*80:=fun n=>by
   refine dS (tA 80 _ fun x B=>?_) (ek 80 ?_)
   .obtain ⟨d,C,rfl⟩:=cg.1 B
    exact EN c g.dM field (fC C)
   .rw [dE,bN];omega
  rw[an (by omega),aj,aC h]
  generalize eN c s.1 (field,term) id=at' at*
  refine Def.upto s.1.length (fun n v=>v=((c,s),field,term,id,at',((dK ((s.1.take n).map (iW c field)):Nat):Int),s.1,(s.1.length:Int),(n:Int))) (fun go v k=>?_) (fun go n v i k l=>?_) N 0 _ (bg _) rfl (by omega)
  .subst k
   dsimp only
   rw[an (bm _),aj,cj,T2 N g,ag,T4 N s field term (by omega) y,ag,g.om,DP c g.dM,show dK (s.1.map (iW c field))=total c s.1 field from rfl,arI N o t,ag]
   dsimp only
   rw[asd N o t,ag]
   exact Def.ret rfl
  .subst k
   dsimp only
   have F:=j n
   have b:s.1[n]∈s.1:=br i
   have e:long c s.1 field s.1[n].1=iW c field s.1[n]:=by
    unfold long e1
    have:(s.1.find? fun d=>decide (d.1=s.1[n].1))=some s.1[n]:=by
     cases f:s.1.find? fun d=>decide (d.1=s.1[n].1)with
     |none=>have:=wv.1 f _ b;simp at this
     |some d=>
      have H:d.1=s.1[n].1:=of_decide_eq_true (List.find?_some (p:=fun d:aF=>decide (d.1=s.1[n].1)) f)
      obtain⟨m,hm,rfl⟩:=eb.1 (ql f)
      have u:=gx.1 g.dM.gB.ids
      rcases pd m n with a|a|a
      .have:=u m n hm i a;omega
      .subst a;rfl
      .have:=u n m i hm a;omega
    rw[this]
   have G:=EN c g.dM field b
   rw[aq (by omega:(n:Int)<s.1.length),ao,aP i,ag,T2 N g,ag,e,ai (ee (by omega) (by omega)),ai (aO (n:=n) (by omega))]
   refine l _ ?_
   rw[dT i,ib,v7,aS,Int.natCast_add]
   rfl
def Mu (x:UInt8) (b:List UInt8) (s:List Int×Int) (k:Nat):List Int×Int:=
 (s.1.set (k+1) (min (s.2+(if x=b.getD k 0 then 0 else 1)) (min (s.1.getD k 0) (s.1.getD (k+1) 0)+1)),s.1.getD (k+1) 0)
def kz (x:UInt8) (b:List UInt8) (row:List Int) (i k:Nat):List Int×Int:=(List.range k).foldl (Mu x b) (row.set 0 ((i:Int)+1),row.getD 0 0)
def Mv (a b:List UInt8) (row:List Int) (i:Nat):List Int:=(kz (a.getD i 0) b row i b.length).1
def q3 (n k:Nat):List Int:=(List.range k).foldl (fun row j=>row.set j (j:Int)) (List.replicate n 0)
def iI (a b:List UInt8) (i:Nat):List Int:=(List.range i).foldl (Mv a b) (q3 (b.length+1) (b.length+1))
def j6 (a b:List UInt8):Int:=(iI a b a.length).getD b.length 0
theorem An (x:UInt8) (b:List UInt8) (row:List Int) (i k:Nat):kz x b row i (k+1)=Mu x b (kz x b row i k) k:=by unfold kz;rw[List.range_succ,hW];rfl
theorem Hz (n k:Nat):q3 n (k+1)=(q3 n k).set k (k:Int):=by unfold q3;rw[List.range_succ,hW];rfl
theorem Gf (a b:List UInt8) (i:Nat):iI a b (i+1)=Mv a b (iI a b i) i:=by unfold iI;rw[List.range_succ,hW];rfl
def lH (L m:Nat) (row:List Int):Prop:=row.length=L+1/\∀v,v∈row->0<=v/\v<=(m:Int)
theorem lH.at {L m:Nat} {row:List Int} (h:lH L m row) (k:Nat):0<=row.getD k 0/\row.getD k 0<=(m:Int):=by
 rw[n1]
 by_cases a:k<row.length
 .rw [bG a]
  exact h.2 _ (br a)
 .rw [kM (by omega)]
  exact⟨ic _,Int.natCast_nonneg _⟩
theorem lH.set {L m:Nat} {row:List Int} (h:lH L m row) (k:Nat) {v:Int} (a:0<=v) (b:v<=(m:Int)):lH L m (row.set k v):=by
 refine⟨by rw[pb];exact h.1,fun x d=>?_⟩
 rcases List.mem_or_eq_of_mem_set d with e|rfl
 .exact h.2 x e
 .exact ⟨a,b⟩
theorem lH.mono {L m n:Nat} {row:List Int} (h:lH L m row) (hm:m<=n):lH L n row:=⟨h.1,fun v a=>⟨(h.2 v a).1,by have:=(h.2 v a).2;omega⟩⟩
theorem Hy (L k:Nat) (d:k<=L+1):lH L L (q3 (L+1) k):=by
 induction k with
 |zero=>
  refine⟨by simp[q3],fun v a=>?_⟩
  have:v=0:=List.eq_of_mem_replicate (n:=L+1) a
  omega
 |succ k b=>
  rw[Hz]
  exact(b (by omega)).set k (by omega) (by omega)
theorem getD_set_ne {l:List Int} {i j:Nat} (v:Int) (h:i≠j):(l.set i v).getD j 0=l.getD j 0:=by
 rw[n1,n1,List.getElem?_set_ne h]
theorem Ge (x:UInt8) (b:List UInt8) (row:List Int) (i k:Nat):(kz x b row i k).2=row.getD k 0/\∀j,k<j->(kz x b row i k).1.getD j 0=row.getD j 0:=by
 induction k with
 |zero=>exact⟨rfl,fun j d=>getD_set_ne _ (by omega)⟩
 |succ k a=>
  rw[An]
  refine⟨a.2 (k+1) (by omega),fun j d=>?_⟩
  show((kz x b row i k).1.set (k+1) _).getD j 0=_
  rw[getD_set_ne _ (by omega)]
  exact a.2 j (by omega)
theorem Gd (x:UInt8) (b:List UInt8) {row:List Int} (i k:Nat) {L m:Nat} (h:lH L m row) (hi:i<=m):lH L (m+1) (kz x b row i k).1:=by
 induction k with
 |zero=>exact(h.mono (Nat.le_succ m)).set 0 (by omega) (by omega)
 |succ k a=>
  have e:=h.at k
  have f:=a.at k
  have g:=a.at (k+1)
  have d:=(Ge x b row i k).1
  rw[An]
  show lH L (m+1) ((kz x b row i k).1.set (k+1) _)
  refine a.set (k+1) ?_ ?_
  .rw [d];split<;>omega
  .rw [d];split<;>omega
theorem w7 (a b:List UInt8) (i:Nat):lH b.length (b.length+i) (iI a b i):=by
 induction i with
 |zero=>exact Hy _ _ (bE _)
 |succ i d=>
  rw[Gf]
  exact Gd _ b i _ d (Nat.le_add_left _ _)
theorem get_at {l:List Int} {i:Nat} (h:i<l.length):l[i]? =some (l.getD i 0):=by
 rw[n1,bG h];rfl
theorem Sq (N:Nat) (a b:Int):y8 N a b=some (min a b):=by
 unfold y8
 by_cases h:a<b
 .rw [aq h,ao,Int.min_eq_left (by omega)]
 .rw [an h,aj,Int.min_eq_right (by omega)]
theorem Vz (c c2:UInt8):(!decide ((c.toNat:Int)=(c2.toNat:Int)))= !decide (c=c2):=by
 congr 1
 rw[decide_eq_decide]
 constructor
 .intro h
  exact UInt8.toNat_inj.1 (by omega)
 .rintro rfl;rfl
theorem anN (N:Nat) (a b:List UInt8) (M:a.length<=1000) (O:b.length<=1000) (P:1010<N):Ei N a b=some (j6 a b):=by
 refine Def.get ?_
 unfold Ei
 rw[ai (aO (n:=b.length) (by omega)),ai (by omega),show((b.length:Int)+1).toNat=b.length+1 from by omega]
 refine Def.upto (b.length+1) (fun k g=>g=(a,b,q3 (b.length+1) k,(k:Int))) (fun go g d=>?_) (fun go k g p d r=>?_) N 0 _ (bg _) rfl (by omega)
 .subst d
  dsimp only
  rw[an (by omega),aj]
  refine Def.upto a.length (fun i g=>g=(a,b,iI a b i,(i:Int))) (fun go2 g d=>?_) (fun go2 i g hi d l=>?_) N 0 _ (bg _) rfl (by omega)
  .subst d
   dsimp only
   have j:=w7 a b a.length
   have F:=j.1
   rw[an (bm _),aj,ai (by omega),eg,get_at (by omega),ag]
   exact Def.ret rfl
  .subst d
   dsimp only
   have j:=w7 a b i
   have F:=j.1
   have z:(0:Int)<=0/\(0:Int)<((iI a b i).length:Int):=⟨ic _,by omega⟩
   rw[aq (by omega:(i:Int)<a.length),ao,ai z,show(0:Int).toNat=0 from rfl,get_at (by omega),ag,ai (aO (n:=i) (by omega)),ai z,ag]
   refine Def.upto b.length (fun k g=>g=(a,b,(kz (a.getD i 0) b (iI a b i) i k).1,(i:Int),(kz (a.getD i 0) b (iI a b i) i k).2,(k:Int))) (fun t g d=>?_) (fun t k g p d o=>?_) N 0 _ (bg _) rfl (by omega)
   .subst d
    dsimp only
    rw[an (bm _),aj,ai (aO (n:=i) (by omega))]
    refine l _ ?_
    rw[aS,Gf]
    rfl
   .subst d
    dsimp only
    have u:=Gd (a.getD i 0) b i k j (by omega)
    have v:=(Ge (a.getD i 0) b (iI a b i) i k).1
    have f:=An (a.getD i 0) b (iI a b i) i k
    have G:=j.at k
    rw[<-v]at G
    generalize kz (a.getD i 0) b (iI a b i) i k=s at*
    obtain⟨row,H⟩:=s
    have I:=u.1
    have K:=u.at k
    have L:=u.at (k+1)
    dsimp only at*
    rw[aq (by omega:(k:Int)<b.length),ao]
    refine Def.meet (fun g=>g=(a,b,row,(i:Int),(k:Int),H+(if a.getD i 0=b.getD k 0 then 0 else 1))) (fun g d=>?_) (fun J A=>?_)
    .subst d
     dsimp only
     have y:((k:Int)+1).toNat=k+1:=by omega
     have h:(0:Int)<=(k:Int)+1/\(k:Int)+1<(row.length:Int):=by omega
     have e:=aO (n:=k) (by omega)
     rw[ai e,ai h,y,get_at (by omega),ag,ai e,ai (by omega),eg,get_at (by omega),ag,ai e,ai h,ag,Sq,ag,ai (by unfold fits;omega),Sq,ag,ai h,ag,ai e]
     refine o _ ?_
     rw[f,aS]
     rfl
    .have B:a.getD i 0=a[i]:=by rw[n1,bG hi];rfl
     have C:b.getD k 0=b[k]:=by rw[n1,bG p];rfl
     rw[aP hi,ag,aP p,ag,Vz]
     by_cases he:a[i]=b[k]
     .rw [aq he,bf,aj]
      exact A _ (by rw[B,C,ai he,Int.add_zero])
     .rw [an he,dH,ao,ai (by unfold fits;omega)]
      exact A _ (by rw[B,C,aC he])
 .subst d
  dsimp only
  have j:=(Hy b.length k (by omega)).1
  rw[aq (by omega:(k:Int)<=b.length),ao,ai (by omega),eg,get_at (by omega),ag,ai (aO (n:=k) (by omega))]
  refine r _ ?_
  rw[aS,Hz]
theorem aot (n r q:Int):(if(r+1)<(if(q+1)<n then(q+1)else n)then(r+1)else(if(q+1)<n then(q+1)else n))=min n (min r q+1):=by
 by_cases b:q+1<n
 .rw [ai b]
  by_cases a:r+1<q+1
  .rw [ai a];omega
  .rw [aC a];omega
 .rw [aC b]
  by_cases a:r+1<n
  .rw [ai a];omega
  .rw [aC a];omega
theorem aoD (N:Nat) (a b:List UInt8) (Q:a.length<=1000) (S:b.length<=1000) (T:1010<N) (l:N<=1099511627776):Bj N a b=some (bif okW a&&okW b then j6 a b else-1):=by
 refine Def.get ?_
 unfold Bj
 refine Def.meet (fun g=>g=(a,b)/\okW a=true/\okW b=true) (fun g d=>?_) (fun J h=>?_)
 .obtain ⟨rfl,r,t⟩:=d
  rw[r,t,rO,ao]
  dsimp only
  refine Def.meet (fun g=>g=(a,b,List.replicate (b.length+1) 0)) (fun g d=>?_) (fun J h=>?_)
  .subst d
   dsimp only
   rw[show((List.replicate (b.length+1) (0:Int)).length:Int)=((b.length+1:Nat):Int)from by rw[zv]]
   refine Def.upto (b.length+1) (fun k g=>g=(a,b,q3 (b.length+1) k,((b.length+1:Nat):Int),(k:Int))) (fun go g d=>?_) (fun go k g u d v=>?_) N 0 _ (bg _) rfl (by omega)
   .subst d
    dsimp only
    rw[an (bm _),aj]
    refine Def.upto a.length (fun i g=>g=(a,b,iI a b i,(i:Int)+1)) (fun go2 g d=>?_) (fun go2 i g hi d o=>?_) N 0 _ (bg _) rfl (by omega)
    .subst d
     dsimp only
     have j:=w7 a b a.length
     have I:=j.1
     rw[an (by omega),aj,ai (by omega),eg,get_at (by omega),ag]
     exact Def.ret rfl
    .subst d
     dsimp only
     have j:=w7 a b i
     have I:=j.1
     have F:(0:Int)<=0/\(0:Int)<((iI a b i).length:Int):=⟨ic _,by omega⟩
     rw[aq (by omega:(i:Int)+1<=(a.length:Int)),ao,ai F,show(0:Int).toNat=0 from rfl,get_at (by omega),ag,ai F,ag]
     refine Def.upto b.length (fun k g=>g=(a,b,(kz (a.getD i 0) b (iI a b i) i k).1,(i:Int)+1,(kz (a.getD i 0) b (iI a b i) i k).2,(k:Int)+1)) (fun y g d=>?_) (fun y k g u d p=>?_) N 0 _ (bg _) rfl (by omega)
     .subst d
      dsimp only
      rw[an (by omega),aj,ai (by unfold fits;omega)]
      refine o _ ?_
      rw[aS,Gf]
      rfl
     .subst d
      dsimp only
      have z:=Gd (a.getD i 0) b i k j (by omega)
      have A:=(Ge (a.getD i 0) b (iI a b i) i k).1
      have e:=An (a.getD i 0) b (iI a b i) i k
      have K:=j.at k
      rw[<-A]at K
      generalize kz (a.getD i 0) b (iI a b i) i k=s at*
      obtain⟨row,L⟩:=s
      have M:=z.1
      have O:=z.at k
      have P:=z.at (k+1)
      dsimp only at*
      rw[aq (by omega:(k:Int)+1<=(b.length:Int)),ao]
      refine Def.meet (fun g=>g=(a,b,row,(i:Int)+1,(k:Int)+1,L+(if a.getD i 0=b.getD k 0 then 0 else 1))) (fun g d=>?_) (fun J h=>?_)
      .subst d
       dsimp only
       have B:((k:Int)+1).toNat=k+1:=by omega
       have C:(k:Int)+1-1=(k:Int):=by omega
       have f:(0:Int)<=(k:Int)+1/\(k:Int)+1<(row.length:Int):=by omega
       rw[ai f,B,get_at (by omega),ag,ai f,ag,ai (by unfold fits;omega),C,ai (by unfold fits;omega),ai (by omega),eg,get_at (by omega),ag,ai (by unfold fits;omega),ai f,ag,ai (by unfold fits;omega),aot]
       refine p _ ?_
       rw[e,aS]
       rfl
      .have G:a.getD i 0=a[i]:=by rw[n1,bG hi];rfl
       have H:b.getD k 0=b[k]:=by rw[n1,bG u];rfl
       rw[show(i:Int)+1-1=(i:Int)from by omega,show(k:Int)+1-1=(k:Int)from by omega,ai (by unfold fits;omega),aP hi,ag,ai (by unfold fits;omega),aP u,ag,Vz]
       by_cases he:a[i]=b[k]
       .rw [aq he,bf,aj]
        exact h _ (by rw[G,H,ai he,Int.add_zero])
       .rw [an he,dH,ao,ai (by unfold fits;omega)]
        exact h _ (by rw[G,H,aC he])
   .subst d
    dsimp only
    have j:=(Hy b.length k (by omega)).1
    rw[aq (by omega:(k:Int)<((b.length+1:Nat):Int)),ao,ai (by omega),eg,get_at (by omega),ag,ai (aO (n:=k) (by omega))]
    refine v _ ?_
    rw[aS k,Hz]
  .rw [ai (aO (n:=b.length) (by omega)),ai (by omega),show((b.length:Int)+1).toNat=b.length+1 from by omega]
   exact h _ rfl
 .rw [l7 N a (by omega) l,ag]
  cases r:okW a with
  |false=>exact Def.ret rfl
  |true=>
  rw[bf,aj,l7 N b (by omega) l,ag]
  cases t:okW b with
  |false=>exact Def.ret rfl
  |true=>
  rw[bf,aj]
  have:=h (a,b) ⟨rfl,r,t⟩
  rwa[r,t]at this
theorem iw (s:List UInt8):okW s=true↔(∀c,c∈s->fX (c.toNat:Int)=true)/\1<=s.length/\s.length<=12:=by
 unfold okW dL
 simp only[a6,bo,cz]
 constructor
 .rintro ⟨b,e,f⟩
  refine⟨fun c g=>?_,by omega,by omega⟩
  obtain⟨n,d,rfl⟩:=eb.1 g
  rw[pv d]
  exact b n (by simp;omega)
 .rintro ⟨b,e,f⟩
  refine⟨fun n d=>?_,by omega,by omega⟩
  have a:n<s.length:=by simpa using d
  rw[<-pv a]
  exact b _ (br a)
theorem Yk {c:UInt8} (h:e8 c=true):fX ((UInt8.ofNat (ot c).toNat).toNat:Int)=true:=by
 obtain⟨a,b,d⟩:=MK h
 rw[UInt8.toNat_ofNat_of_lt' (by show(ot _).toNat<256;omega),qj b]
 exact a
theorem arG (l:List UInt8):l.take (lead l)=l.takeWhile e8:=((List.prefix_iff_eq_take).1 (List.takeWhile_prefix e8)).symm
theorem K4 (l:List UInt8) (p a:Int):∀w,w∈hn l p a->okW w.1=true:=by
 intro w hw
 match l with
 | []=>rw[nW]at hw;cases hw
 |c::t=>
  cases b:e8 c with
  |false=>
   rw[K2 b]at hw
   exact K4 t _ _ w hw
  |true=>
   have d:0<lead (c::t):=by rw[vw b];omega
   rw[K3 d rfl]at hw
   rcases bn.1 hw with rfl|hw
   .rw [iw]
    refine⟨fun x e=>?_,?_,?_⟩
    .obtain ⟨n,f,rfl⟩:=cg.1 e
     obtain⟨y,hy,rfl⟩:=cg.1 (fC f)
     rw[arG]at hy
     exact Yk (cz.1 (List.all_takeWhile (l:=c::t)) y hy)
    .have:=anW (c::t)
     simp only[bytesOf,dE,bN];omega
    .simp only [bytesOf,dE,bN];omega
   .have g:((c::t).drop (lead (c::t))).length<(c::t).length:=by rw[eF,ba];omega
    exact K4 _ _ _ w hw
termination_by l.length
decreasing_by
 all_goals simp only[eF,ba]at*
 all_goals omega
theorem Xm {s e t:List UInt8} (h:jx s e=some t) (a:okW s=true):okW t=true:=by
 unfold jx at h
 split at h
 .rename_i d
  cases h
  rw[iw]at a⊢
  refine⟨fun c b=>a.1 c (fC b),?_,?_⟩
  .rw [bN];omega
  .rw [bN];omega
 .cases h
theorem Ul (s:List UInt8) (a:okW s=true):okW (gl s)=true:=by
 cases h:once s with
 |none=>rw[zg h];exact a
 |some t=>
  rw[KK h]
  have b:=JX h
  have d:okW t=true:=by
   unfold once at h
   obtain⟨e,_,h⟩:=List.exists_of_findSome?_eq_some h
   exact Xm h a
  exact Ul t d
termination_by s.length
theorem apk (st:List (List UInt8)) (s:List UInt8):∀x,x∈plain st s->okW x.1=true:=by
 intro x b
 obtain⟨w,hw,a⟩:=rQ.1 b
 unfold mO at a
 split at a
 .cases a
 .cases a
  exact Ul _ (K4 _ _ _ w hw)
theorem KQ (c2:List eT) (b:∀y,y∈c2->okW y.2=true) (l:List dv) (d:∀x,x∈l->okW x.1=true):∀x,x∈iy c2 l->okW x.1=true:=by
 intro x a
 match l with
 | []=>rw[wa]at a;cases a
 |t::r=>
  rw[iy]at a
  split at a
  .rcases bn.1 a with rfl|a
   .exact d _ cb
   .exact KQ c2 b r (fun y hy=>d y (ch _ hy)) x a
  .rename_i y hy
   rcases bn.1 a with rfl|a
   .exact b _ (EE c2 _ hy).1
   .exact KQ c2 b _ (fun z e=>d z (ch _ (qi e))) x a
termination_by l.length
decreasing_by all_goals (simp; try omega)
theorem arM (c:aK) (a:dQ c=true) (s:List UInt8):∀x,x∈dk c s->okW x.1=true:=
 KQ c.2 (fun y hy=>((JP a).2.2 y hy).2.2.1) _ (apk c.1 s)
theorem F7 (c:aK) (b:dQ c=true) {ad:List aF} (g:e0 ad):∀e,e∈eu c ad->okW e.2.1=true:=by
 intro e he
 have hm:=(F6 c g.gB (di e)).1 (List.mem_map_of_mem he)
 obtain⟨o,a,h⟩:=hm
 obtain⟨d,_,a⟩:=js.1 a
 obtain⟨f,_,a⟩:=js.1 a
 obtain⟨t,i,rfl⟩:=cg.1 a
 have:e.2.1=t.1:=(congrArg Prod.snd h).symm
 rw[this]
 exact arM c b _ t i
end Go.Proofs.YtnkagklajgimlaaGreatDoor
