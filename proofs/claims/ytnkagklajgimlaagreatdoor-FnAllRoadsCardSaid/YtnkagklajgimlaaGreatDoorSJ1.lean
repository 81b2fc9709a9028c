
import Derived.Test.YtnkagklajgimlaaGreatDoorSD1
import Derived.Test.YtnkagklajgimlaaGreatDoorSE1
set_option linter.unusedVariables false
set_option linter.unusedSimpArgs false
namespace Go.Proofs.YtnkagklajgimlaaGreatDoor
open Go.RowKit
theorem afy (A:List bY):∀(B:List bY) (m:Nat),(A.Pairwise fun a b=>eP a b=true)->(B.Pairwise fun a b=>eP a b=true)->(∀x,x∈B->x∈A)->(∀x,x∈A.take m->x∈B)->B.take m=A.take m:=by
 induction A with
 |nil=>
  intro B m _ _ h _
  cases B with
  |nil=>rfl
  |cons b B=>exact absurd (h b (by simp)) (by simp)
 |cons a A o=>
  intro B m d f j k
  cases m with
  |zero=>rfl
  |succ m=>
   rw[en]at d
   have l:a∈B:=k a (by rw[hX];simp)
   cases B with
   |nil=>cases l
   |cons b B=>
    rw[en]at f
    have e:b=a:=by
     rcases bn.1 l with e|i
     .exact e.symm
     .exfalso
      have g:=f.1 a i
      rcases bn.1 (j b (by simp))with e|p
      .rw [e,s7]at g;cases g
      .rw [Sg (d.1 b p)]at g;cases g
    subst e
    rw[hX,hX]
    congr 1
    refine o B m d.2 f.2 (fun x c=>?_) (fun x c=>?_)
    .rcases bn.1 (j x (by simp[c]))with e|h
     .have:=f.1 x c
      rw[e,s7]at this
      cases this
     .exact h
    .rcases bn.1 (k x (by rw[hX];simp[c]))with e|h
     .have:=d.1 x (fC c)
      rw[e,s7]at this
      cases this
     .exact h
theorem HS {α:Type} (p:α->Bool):∀(l:List α) (m:Nat) (x:α),x∈l.take m->p x=true->x∈(l.filter p).take m
 | [],m,x,h,_=>by simp at h
 |y::l,0,x,h,_=>by simp at h
 |y::l,m+1,x,h,a=>by
  rw[hX]at h
  by_cases hy:p y=true
  .rw [tL hy,hX]
   rcases bn.1 h with rfl|h
   .simp
   .exact ch _ (HS p l m x h a)
  .rw [tM hy]
   rcases bn.1 h with rfl|h
   .exact absurd a hy
   .have:=HS p l m x h a
    exact(List.take_sublist_take_left (Nat.le_succ m)).subset this
theorem PE {H:List bY} (d:ju H) (p:bY->Bool):eB (H.filter p)=(eB H).filter p:=by
 have e:=nR (l:=H.filter p) (d.filter p)
 have f:=nR d
 refine zf eP s7 (fun a b c h k=>Dm h k) _ _ e.1 (f.1.filter p) fun x=>?_
 rw[e.2,gH,gH,f.2]
theorem aos {d:Type} {H M:List bY} (b:ju H) (f:ju M) (I:d->Prop) (p:d->bY->Bool) (m:Nat) (g:∀x,x∈H->∃i,I i/\p i x=true)
  (hm:∀x,x∈M↔∃i,I i/\x∈(eB (H.filter (p i))).take m):(eB M).take m=(eB H).take m:=by
 have c:=nR f
 have e:=nR b
 refine afy _ _ m e.1 c.1 (fun x a=>?_) (fun x a=>?_)
 .rw [c.2,hm]at a
  obtain⟨i,_,a⟩:=a
  rw[PE b]at a
  exact(gH.1 (fC a)).1
 .rw [c.2,hm]
  obtain⟨i,hi,h⟩:=g x ((e.2 x).1 (fC a))
  refine⟨i,hi,?_⟩
  rw[PE b]
  exact HS (p i) _ m x a h
theorem Yl (N:Nat) (l:List bY) (h:l.length<N) (d:l.length<=1000000):lb N l l=some true:=by
 refine Def.get ?_
 unfold lb
 rw[aq rfl,bf,aj]
 refine Def.upto l.length (fun n v=>v=(l,l,(n:Int))) (fun go v a=>?_) (fun go n v c a b=>?_) N 0 _ (bg _) rfl (by omega)
 .subst a
  dsimp only
  rw[an (bm _),aj]
  exact Def.ret rfl
 .subst a
  dsimp only
  rw[aq (by omega:(n:Int)<l.length),ao,aP c,ag,ag,aq rfl,aq rfl,rO,bf,aj,ai (aO (n:=n) (by omega))]
  exact b _ (by rw[aS])
def sL (d:Int) (xs:List bY):Bool:=xs.any fun x=>decide (x.1=d)
def q7 (d:Int):List bY->Int->Int
 | [],_=> -1
 |x::xs,i=>if x.1=d then i else q7 d xs (i+1)
theorem O5 (d:Int):∀(xs:List bY) (i:Int),0<=i->(decide (0<=q7 d xs i))=sL d xs
 | [],i,_=>rfl
 |x::xs,i,h=>by
  simp only[q7,sL,qh]
  by_cases e:x.1=d
  .simp [e,h]
  .simp only [e,if_false,decide_false,fL]
   exact O5 d xs (i+1) (by omega)
theorem O2 (N:Nat) (xs:List bY) (d:Int) (h:xs.length<N) (g:(xs.length:Int)<=9223372036854775806):q2 N xs d=some (sL d xs):=by
 have f:vt N xs d=some (q7 d xs 0):=by
  unfold vt
  refine(dh _ xs.length (fun n=>(xs,d,(xs.length:Int),(n:Int))) (fun n=>some (q7 d (xs.drop n) n)) (fun go=>?_) (fun go n e a=>?_) N 0 (bg _) (by omega)).trans (by simp)
  .simp [q7]
  .have c:(n:Int)<xs.length:=by omega
   dsimp only
   rw[aq c,ao,aP e,ag,Bp,ag,eY e]
   by_cases b:xs[n].1=d
   .rw [aq b,ao,q7,ai b]
   .rw [an b,aj,ai (aO (n:=n) (by omega)),q7,aC b]
    simp only[aS]at a
    exact a
 simp only[q2,C4,f,ag,O5 d xs 0 (ic _)]
theorem ZI (N:Nat) (t:1048576<N) (L:List bY) (u:L.length<=16) (l:L.Pairwise fun a b=>eP a b=true) (o:ju L) (e:∀x,x∈L->1<=x.1/\x.1<=9999/\1<=x.2):nw N L=some true:=by
 refine Def.get ?_
 unfold nw
 refine Def.upto L.length (fun n v=>v=(L,L,(L.length:Int),(n:Int))) (fun go v e=>?_) (fun go n v d f g=>?_) N 0 _ (bg _) rfl (by omega)
 .subst e
  dsimp only
  rw[an (bm _),aj,aq (by omega)]
  exact Def.ret rfl
 .subst f
  dsimp only
  have k:=e L[n] (br d)
  have h:sL L[n].1 (L.take n)=false:=by
   unfold sL
   rw[qg]
   intro y hy
   obtain⟨j,p,rfl⟩:=eb.1 hy
   rw[bN]at p
   rw[List.getElem_take]
   have:=gx.1 o j n (by omega) d (by omega)
   simp[this]
  rw[aq (by omega:(n:Int)<L.length),ao,aP d,ag,fB,ag,aq k.1,aq k.2.1,fD,bf,aj,an (by omega),aj,Af L n (by omega),ag,O2 N _ _ (by rw[bN];omega) (by rw[bN];omega),ag,h,aj]
  have c:Def (if fits ((n:Int)+1)then go (L,L,(L.length:Int),(n:Int)+1)else none) fun r=>r=true:=by
   rw[ai (aO (n:=n) (by omega))]
   exact g _ (by rw[aS])
  refine Def.bO (fun z=>?_) (fun _=>c)
  have hi:((n:Int)-1)=((n-1:Nat):Int):=by omega
  have i:=gx.1 l (n-1) n (by omega) d (by omega)
  rw[ai (ee (by omega) (by omega)),hi,aP (by omega:n-1<L.length),ag]
  refine Def.bind (Ny N (by omega) (L[n-1]'(by omega)) L[n]) fun r s=>?_
  rw[i,bo]at s
  rw[an (by omega),aj]
  exact c
theorem aoS {d:aF} (h:gF d=true):1<=d.1/\d.1<=9999:=by
 unfold gF at h
 simp only[a6,bo]at h
 omega
theorem arT (N:Nat) (B:bC<N) (C:N<=16777216) (ls:List (List bY)) (v:ls.length<=4) (most:Nat) (J:1<=most) (K:most<=16)
  (d:∀l,l∈ls->nw N l=some true/\l.length<=16/\ju l) (z:ls.Pairwise fun a b=>∀x,x∈a->∀y,y∈b->x.1≠y.1):xQ N ls (most:Int)=some ((eB ls.flatten).take most):=by
 have r:1048576<N:=B
 have c:∀n,((ls.take n).flatten).length<=64:=fun n=>by
  have key:∀L:List (List bY),(∀l,l∈L->l.length<=16)->L.flatten.length<=16*L.length:=by
   intro L
   induction L with
   |nil=>intro _;exact bg _
   |cons a L F=>
    intro h
    have M:=h a (by simp)
    have O:=F fun l v=>h l (by simp[v])
    rw[List.flatten_cons,bh,ba]
    omega
  have:=key (ls.take n) fun l h=>(d l (fC h)).2.1
  rw[bN]at this
  omega
 have e:ju ls.flatten:=by
  refine List.pairwise_flatten.2 ⟨fun l h=>(d l h).2.2,z⟩
 unfold xQ
 rw[an (by omega),aj,fB,ag,aq (by omega:(1:Int)<=(most:Int)),aq (by omega:(most:Int)<=16),fD,bf,aj]
 refine Def.get ?_
 refine Def.upto ls.length (fun n g=>g=((most:Int),(ls.take n).flatten,ls,(ls.length:Int),(n:Int))) ?_ ?_ N 0 _ (bg _) rfl (by omega)
 .rintro go _ rfl
  dsimp only
  have f:=c ls.length
  rw[cj]at f⊢
  rw[an (bm _),aj,MG N r C _ (by omega) e most (by omega),ag]
  exact Def.ret rfl
 .rintro go n _ p rfl s
  dsimp only
  have hm:=br p
  have f:=c n
  obtain⟨G,P,Q⟩:=d _ hm
  rw[aq (by omega:(n:Int)<ls.length),ao,aP p,ag,G,ag,bf,aj]
  have t:∀x,x∈ls[n]->sL x.1 (ls.take n).flatten=false:=fun x I=>by
   unfold sL
   rw[qg]
   intro y hy
   obtain⟨l,u,j⟩:=List.mem_flatten.1 hy
   obtain⟨i,hi,rfl⟩:=eb.1 u
   rw[bN]at hi
   rw[List.getElem_take]at j
   have:=gx.1 z i n (by omega) p (by omega) y j x I
   simp[this]
  refine Def.upto ls[n].length (fun k g=>g=((most:Int),(ls.take n).flatten,ls[n],ls,(ls.length:Int),(n:Int),ls[n],(ls[n].length:Int),(k:Int))) ?_ ?_ N 0 _ (bg _) rfl (by omega)
  .rintro go2 _ rfl
   dsimp only
   rw[an (bm _),aj]
   refine Def.ite (bW (by omega) (by omega)) (Def.ite (aO (n:=n) (by omega)) (s _ ?_))
   rw[dT p,List.flatten_append,aS]
   simp
  .rintro go2 k _ A rfl o
   dsimp only
   rw[aq (by omega:(k:Int)<ls[n].length),ao,aP A,ag,O2 N _ _ (by omega) (by omega),ag,t _ (br A),aj]
   exact Def.ite (aO (n:=k) (by omega)) (o _ (by rw[aS]))
def part (H:List bY) (many most k:Nat):List bY:=(eB (H.filter (ln (many:Int) (k:Int)))).take most
structure zD (H:List bY):Prop where
 c7:H.length<=16
 sa:ju H
 val:∀x,x∈H->1<=x.1/\x.1<=9999/\1<=x.2
theorem J5 {H:List bY} (h:zD H) {many most k:Nat} {x:bY} (a:x∈part H many most k):x∈H/\x.1.tmod (many:Int)=(k:Int):=by
 have:=((nR (h.sa.filter _)).2 x).1 (fC a)
 rw[gH]at this
 exact⟨this.1,of_decide_eq_true this.2⟩
theorem apd (N:Nat) (y:bC<N) {H:List bY} (h:zD H) (many most k:Nat) (hm:most<=16):nw N (part H many most k)=some true/\(part H many most k).length<=16/\ju (part H many most k):=by
 have s:=(nR (h.sa.filter (ln (many:Int) (k:Int)))).1
 have z:(part H many most k).Pairwise fun a b=>eP a b=true:=s.sublist (tQ _ _)
 have t:(part H many most k).length<=16:=by unfold part;rw[bN];omega
 have u:ju (part H many most k):=by
  have d:(eB (H.filter (ln (many:Int) (k:Int)))).Pairwise fun a b=>a.1≠b.1:=by
   refine gx.2 fun i j hi v l=>?_
   have o:=gx.1 s i j hi v l
   have m1:=((nR (h.sa.filter _)).2 _).1 (br hi)
   have m2:=((nR (h.sa.filter _)).2 _).1 (br v)
   obtain⟨p,f,A⟩:=eb.1 m1
   obtain⟨r,g,B⟩:=eb.1 m2
   rw[<-A,<-B]at o⊢
   rcases pd p r with c|c|c
   .exact gx.1 (h.sa.filter _) p r f g c
   .subst c;rw[s7]at o;cases o
   .exact fun e=>gx.1 (h.sa.filter _) r p g f c e.symm
  exact d.sublist (tQ _ _)
 exact⟨ZI N y _ t z u fun x C=>h.val x (J5 h C).1,t,u⟩
theorem aor (N:Nat) (o:bC<N) (t:N<=16777216) {H:List bY} (h:zD H) (many most:Nat) (m1:1<=many) (m4:many<=4) (u:1<=most) (p:most<=16) (ks:List Nat) (v:ks.Nodup) (f:ks.length<=4) (r:∀k,k∈ks↔k<many):
  xQ N (ks.map (part H many most)) (most:Int)=some ((eB H).take most):=by
 have g:∀l,l∈ks.map (part H many most)->nw N l=some true/\l.length<=16/\ju l:=fun l f=>by
  obtain⟨k,_,rfl⟩:=cg.1 f
  exact apd N o h many most k p
 have s:(ks.map (part H many most)).Pairwise fun a b=>∀x,x∈a->∀y,y∈b->x.1≠y.1:=by
  refine qk.2 (v.imp fun {a b} i x c y hy e=>i ?_)
  have j:=(J5 h c).2
  have z:=(J5 h hy).2
  rw[e]at j
  have:=j.symm.trans z
  omega
 rw[arT N o t _ (by rw[dE];exact f) most u p g s]
 congr 1
 refine aos h.sa (List.pairwise_flatten.2 ⟨fun l h=>(g l h).2.2,s⟩) (fun k:Nat=>k<many) (fun k=>ln (many:Int) (k:Int)) most (fun x c=>?_) fun x=>?_
 .have B:=h.val x c
  have A:=Int.tmod_nonneg (many:Int) (by omega:0<=x.1)
  have j:=Int.tmod_lt_of_pos x.1 (by omega:(0:Int)<(many:Int))
  exact⟨(x.1.tmod (many:Int)).toNat,by omega,aq (by rw[qj A])⟩
 .rw [List.mem_flatten]
  constructor
  .rintro ⟨l,f,c⟩
   obtain⟨k,d,rfl⟩:=cg.1 f
   exact⟨k,(r k).1 d,c⟩
  .rintro ⟨k,d,c⟩
   exact⟨_,cg.2 ⟨k,(r k).2 d,rfl⟩,c⟩
theorem ZJ {N:Nat} {c:aK} {s:cq} {q:aN} (h:Fit N c s q):zD (e4 N c s q dD):=by
 refine⟨uT N c s q dD,A3 N c s q dD,fun x a=>?_⟩
 unfold e4 at a
 cases b:fS c s with
 |false=>rw[b]at a;cases a
 |true=>
  cases e:cZ 4 q with
  |false=>rw[b,e]at a;cases a
  |true=>
   rw[b,e]at a
   obtain⟨d,f,rfl,g,_⟩:=A2 (V:=fun d=>h9 N N c s d q) a
   have:=aoS (nE (rq b) d f)
   exact⟨this.1,this.2,by show 1<=h9 N N c s d q;omega⟩
theorem aqP (N:Nat) (c:aK) (s:cq) (q:aN) (many most k:Nat) (a:1<=many) (b:many<=4) (d:k<many) (m1:1<=most) (m2:most<=16):Et N c s q (many:Int) (k:Int) (most:Int)=part (e4 N c s q dD) many most k:=by
 unfold Et vY mT kb jq part
 rw[aq (by omega:(1:Int)<=(many:Int)),aq (by omega:(many:Int)<=4),aq (by omega:(0:Int)<=(k:Int)),aq (by omega:(k:Int)<=(many:Int)-1),aq (by omega:(1:Int)<=(most:Int)),aq (by omega:(most:Int)<=16),NH]
 rfl
def ru (k:Nat) (l:List bY) (n:Nat):List (List bY):=(List.range n).map fun i=>(l.drop (k*i)).take k
theorem apb (k:Nat) (l:List bY) (n:Nat):ru k l (n+1)=ru k l n++ [(l.drop (k*n)).take k]:=by
 unfold ru
 rw[List.range_succ,ib]
 rfl
theorem J3 (k:Nat) (l:List bY) (n:Nat):(ru k l n).length=n:=by
 unfold ru
 rw[dE,List.length_range]
def rounds (k:Nat) (l:List bY):Nat:=(l.length+k-1)/k
theorem TK {k:Nat} (b:1<=k) (l:List bY) {n:Nat} (h:n<rounds k l):k*n<l.length:=by
 have a:=(Nat.le_div_iff_mul_le (show 0<k by omega)).1 (show n+1<=(l.length+k-1)/k from h)
 rw[Nat.succ_mul,lB n k]at a
 omega
theorem TJ {k:Nat} (a:1<=k) (l:List bY):l.length<=k*rounds k l:=by
 have b:=tR (l.length+k-1) k
 have c:=mg (l.length+k-1) (show 0<k by omega)
 unfold rounds
 omega
theorem TL {k:Nat} (a:1<=k) (l:List bY):rounds k l<=l.length:=by
 cases h:rounds k l with
 |zero=>exact bg _
 |succ n=>
  have b:=TK a l (show n<rounds k l by omega)
  have c:=Nat.le_mul_of_pos_left n (show 0<k by omega)
  omega
def oW (k:Nat) (l:List bY):List (List bY):=ru k l (rounds k l)
theorem Xr {α:Type} (l:List α) (a k:Nat) (h:a<l.length):cut l (a:Int) (if(l.length:Int)<(a:Int)+(k:Int)then(l.length:Int)else(a:Int)+(k:Int))=some ((l.drop a).take k):=by
 have e:(if(l.length:Int)<(a:Int)+(k:Int)then(l.length:Int)else(a:Int)+(k:Int))=((min l.length (a+k):Nat):Int):=by split<;>omega
 rw[e]
 unfold cut
 rw[ai ⟨by omega,by omega,by omega⟩,eg,eg]
 congr 1
 rw[List.drop_take,List.take_eq_take_iff,eF]
 omega
theorem apa {N:Nat} {c:aK} {s:cq} {q:aN} (h:Fit N c s q) (k:Nat) (d:1<=k) (o:k<=16):xK N c.1 c.2 s.1 s.2 q.kind q.field q.words q.lo q.hi q.kids k=some (oW k (jq N c s q dD 16)):=by
 have p:1048576<N:=h.cS
 have r:=(UM h dD 16).1
 have f:(decide ((1:Int)<=k)&&decide ((k:Int)<=16))=true:=by simp only[a6,bo];omega
 have g:=Gm h.cS h.top c s q dD 16 (bE _)
 unfold xK
 rw[fB,ag,f,bf,aj,KC h,ag,show(16:Int)=((16:Nat):Int)from rfl,g,ag]
 generalize jq N c s q dD 16=l at*
 have t:=TL d l
 refine(dh _ (rounds k l) (fun n=>((k:Int),ru k l n,l,((k*n:Nat):Int))) (fun n=>some (oW k l)) (fun go=>?_) (fun go n i b=>?_) N 0 (bg _) (by omega)).trans rfl
 .dsimp only
  have:=TJ d l
  rw[an (by omega),aj]
  rfl
 .dsimp only
  have e:=TK d l i
  have u:=J3 k l n
  have a:fits (((k*n:Nat):Int)+(k:Int)):=ee (by omega) (by omega)
  have j:((l.drop (k*n)).take k).length<=16:=by rw[bN];omega
  rw[show k*(n+1)=k*n+k from rfl,Int.natCast_add,apb]at b
  rw[aq (by omega:((k*n:Nat):Int)<(l.length:Int)),ao,ai a,Xr l (k*n) k e,ag,ai (bW (by rw[bH];omega) (by rw[bH];omega)),ai (bW (by rw[bS];omega) (by rw[bS];omega)),ai a]
  exact b
end Go.Proofs.YtnkagklajgimlaaGreatDoor
