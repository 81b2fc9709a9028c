
import Derived.Test.YtnkagklajgimlaaGreatDoorSG1
set_option linter.unusedVariables false
set_option linter.unusedSimpArgs false
namespace Go.Proofs.YtnkagklajgimlaaGreatDoor
open Go.RowKit
theorem MN {c:UInt8} (h:e1 c=true):48<=c.toNat/\c.toNat<=57:=by
 unfold e1 at h
 rw[bk,bz,bz]at h
 exact h
theorem F7 :∀(l:List UInt8) (acc:Nat),(∀c,c∈l->e1 c=true)->eL acc l<(acc+1)*10^l.length
 | [],acc,_=>by show acc<(acc+1)*10^0;omega
 |c::l,acc,h=>by
  have b:=MN (h c b6)
  have:=F7 l (acc*10+(c.toNat-48)) fun x a=>h x (b7 _ a)
  have e:eL acc (c::l)=eL (acc*10+(c.toNat-48)) l:=rfl
  rw[e]
  refine kZ this ?_
  rw[aZ,Nat.pow_succ,k0 (10^l.length) 10,<-Nat.mul_assoc]
  exact eh _ (by omega)
theorem aal {s:List UInt8} (b:∀c,c∈s->e1 c=true) (a:s≠ []) (d:eL 0 s<1000000000000000000):hM s=(eL 0 s:Int):=by
 cases s with
 |nil=>exact absurd rfl a
 |cons c r=>
  have f:=MN (b c b6)
  have e:=Gj (c::r) 0 b d
  unfold hM
  rw[Lib.atoiAll_plain c r (by omega) (by omega)]
  unfold Lib.parseMag
  rw[aA (by simp),e]
  unfold Lib.signless
  dsimp only
  rw[aA (by omega:¬9223372036854775808<=eL 0 (c::r))]
def e4 (aW:List UInt8):List UInt8:=(aW.drop 3).take 4
theorem MS {aW:List UInt8} (h:7<=aW.length):cut aW 3 7=some (e4 aW):=by
 unfold cut e4
 rw[ai ⟨by omega,by omega,by omega⟩]
 show some ((aW.take 7).drop 3)=_
 rw[List.drop_take]
theorem wU {aW:List UInt8} (h:7<=aW.length):(e4 aW).length=4:=by
 unfold e4
 rw[bX,eY]
 omega
theorem ML {aW:List UInt8} (h:7<=aW.length) {i:Nat} (hi:i<4):(e4 aW)[i]? =aW[3+i]? :=by
 unfold e4
 rw[ho,ai hi,hT]
def rK (n:Int) (aW:List UInt8):Bool:=(e4 aW).all e1&&(decide ((1001:Int)<=(eL 0 (e4 aW):Int))&&decide ((eL 0 (e4 aW):Int)<=1000+n-1))
theorem MD (n:Int) (aW:List UInt8):jl n aW=(decide (7<=aW.length)&&(decide (aW.take 3=[103,101,110])||decide (aW.take 3=[115,101,103]))&&rK n aW):=rfl
theorem ZI {aW:List UInt8} (h:7<=aW.length) (a:(e4 aW).all e1=true):eL 0 (e4 aW)<10000:=by
 have:=F7 (e4 aW) 0 (cA.1 a)
 rw[wU h]at this
 omega
theorem ZY (N:Nat) (G:16<=N) (aW:List UInt8) (d:7<=aW.length) (n:Int) (H:0<=n) (I:n<=1000):
  iter (fun(go:((List UInt8)×Int×Int)->Option Bool) (g:(List UInt8)×Int×Int)=>
 match g with
 |(a,o,k)=>
 (bif(decide (k<7))then
 (Option.bind (idx a k) fun(c:UInt8)=>
 (bif(decide ((c.toNat:Int)<48))then
 (some false)
 else
 (Option.bind (idx a k) fun(c2:UInt8)=>
 (bif(decide ((57:Int)<(c2.toNat:Int)))then
 (some false)
 else
 (if fits (k+1)then(go (a,o,(k+1)))else none)))))
 else
 (Option.bind (cut a 3 7) fun(y:List UInt8)=>
 (Option.bind (mN N y) fun(r:Int)=>
 (if fits (r-1000)then(if fits (o-1)then(Option.bind (fb N (r-1000) 1 (o-1)) fun(z:Bool)=>
 (some z))else none)else none))))) N (aW,n,3)=some (rK n aW):=by
 refine Def.get ?_
 refine Def.iter (fun g=>∃k:Nat,g=(aW,n,((3+k:Nat):Int))/\k<=4/\∀j,j<k->∀c,aW[3+j]? =some c->e1 c=true) (fun g=>(7-g.2.2).toNat) (fun go g A B=>?_) N _ ⟨0,rfl,bg _,fun j u=>absurd u (sQ _)⟩ (by show((7:Int)-3).toNat<N;omega)
 obtain⟨k,rfl,J,v⟩:=A
 dsimp only
 by_cases p:k<4
 .rw [aq (by omega:((3+k:Nat):Int)<7),ao,aO (by omega),af]
  have hm:(e4 aW)[k]? =some aW[3+k]:=by rw[ML d p,bH (by omega)]
  have f:e1 aW[3+k]=false->rK n aW=false:=fun e=>by
   unfold rK
   have:(e4 aW).all e1=false:=by
    cases s:(e4 aW).all e1 with
    |false=>rfl
    |true=>
     have:=cA.1 s _ (fc hm)
     rw[e]at this
     cases this
   rw[this,ov]
  refine Def.bif (fun e=>?_) (fun e=>?_)
  .rw [bz]at e
   refine Def.ret (f ?_).symm
   unfold e1
   rw[Bool.and_eq_false_iff]
   exact .inl (ak (by omega))
  .rw [decide_eq_false_iff_not]at e
   rw[af]
   refine Def.bif (fun t=>?_) (fun t=>?_)
   .rw [bz]at t
    refine Def.ret (f ?_).symm
    unfold e1
    rw[Bool.and_eq_false_iff]
    exact .inr (ak (by omega))
   .rw [decide_eq_false_iff_not]at t
    refine Def.ite (by unfold fits;omega) (B _ ⟨k+1,by rw[show((3+k:Nat):Int)+1=((3+(k+1):Nat):Int)from by omega],by omega,fun j u c h=>?_⟩ (by dsimp only;omega))
    by_cases C:j=k
    .subst C
     rw[bH (by omega)]at h
     cases h
     unfold e1
     rw[bk]
     exact⟨aq (by omega),aq (by omega)⟩
    .exact v j (by omega) c h
 .have F:k=4:=by omega
  subst F
  have b:(e4 aW).all e1=true:=cA.2 fun c h=>by
   obtain⟨i,hi,rfl⟩:=fe.1 h
   rw[wU d]at hi
   refine v i hi _ ?_
   rw[<-ML d hi,bH]
  have K:=ZI d b
  have l:=wU d
  have s:mN N (e4 aW)=some (hM (e4 aW)):=yJ (by omega)
  rw[ak (by omega:¬((3+4:Nat):Int)<7),aj,MS d,af,s,af,aal (cA.1 b) (fun e=>by rw[e]at l;cases l) (by omega)]
  refine Def.ite (by unfold fits;omega) (Def.ite (by unfold fits;omega) ?_)
  have hw:fb N ((eL 0 (e4 aW):Int)-1000) 1 (n-1)=some (decide ((1001:Int)<=(eL 0 (e4 aW):Int))&&decide ((eL 0 (e4 aW):Int)<=1000+n-1)):=by
   unfold fb
   by_cases x:(1001:Int)<=(eL 0 (e4 aW):Int)
   .rw [aq (by omega:(1:Int)<=(eL 0 (e4 aW):Int)-1000),ao,aq x,ck]
    congr 1
    exact decide_eq_decide.2 (by omega)
   .rw [ak (by omega:¬(1:Int)<=(eL 0 (e4 aW):Int)-1000),aj,ak x,ov]
  rw[hw,af]
  refine Def.ret ?_
  unfold rK
  rw[b,ck]
theorem MA {aW:List UInt8} (h:7<=aW.length):cut aW 0 3=some (aW.take 3):=by
 unfold cut
 rw[ai ⟨by omega,by omega,by omega⟩]
 rfl
theorem ME (N:Nat) (e:16<=N) (aW:List UInt8) (n:Int) (f:0<=n) (g:n<=1000):Ai N aW n=some (jl n aW):=by
 rw[MD]
 unfold Ai
 by_cases a:7<=aW.length
 .rw [ak (by omega:¬(aW.length:Int)<7),aj,MA a,af,aq a,ck]
  have b:=ZY N e aW a n f g
  by_cases c:aW.take 3=[103,101,110]
  .rw [aq c,bn,aj,Bool.true_or,ck]
   exact b
  .rw [ak c,dt,ao,af,ig]
   by_cases d:aW.take 3=[115,101,103]
   .rw [aq d,bn,aj,ck]
    exact b
   .rw [ak d,dt,ao,ov]
 .rw [aq (by omega:(aW.length:Int)<7),ao,ak a]
  rfl
theorem tW (n:Int) (f:a7) (d:List a7):fl n (d++ [f])=fl n d++(bif jl n f.1 then []else [f]):=by
 unfold fl
 rw[kV]
 congr 1
 cases h:jl n f.1 with
 |true=>rw[List.filter_cons_of_neg (by rw[h];decide)];rfl
 |false=>rw[List.filter_cons_of_pos (by rw[h];rfl)];rfl
theorem nS {α:Type} {l:List α} {n:Nat} (h:n<l.length):l.take (n+1)=l.take n++ [l[n]]:=by
 rw[List.take_add_one,bH h]
 rfl
theorem aag (N:Nat) (c:16<=N) (d:N<=16777216) (s:List a7) (p:s.length<N) (n:Int) (f:0<=n) (h:n<=1000):Def (Af N s n) fun r=>r.2=s/\((r.1=-1/\fl n s=s)\/ ∃i:Nat,r.1=(i:Int)/\i<s.length/\fl n (s.take (i+1))=s.take i):=by
 unfold Af
 refine Def.iter (fun g=>∃k:Nat,g=(s,n,(s.length:Int),(k:Int))/\k<=s.length/\fl n (s.take k)=s.take k) (fun g=>((s.length:Int)-g.2.2.2).toNat) (fun go g j l=>?_) N _ ⟨0,rfl,bg _,rfl⟩ (by show((s.length:Int)-0).toNat<N;omega)
 obtain⟨k,rfl,t,b⟩:=j
 dsimp only
 by_cases a:k<s.length
 .have o:rO N s[k].1 s[k].2 n=some (jl n s[k].1):=by
   unfold rO
   rw[ME N c _ n f h,af]
  rw[aq (by omega:(k:Int)<s.length),ao,ai ⟨by omega,by omega⟩,er,bH a,af,o,af]
  refine Def.bif (fun e=>Def.ret ⟨rfl,.inr ⟨k,rfl,a,?_⟩⟩) (fun e=>Def.ite (aN (by omega)) (l _ ⟨k+1,by rw[aR],by omega,?_⟩ (by dsimp only;omega)))
  .rw [nS a,tW,e,b,ao,e5]
  .rw [nS a,tW,e,b,aj]
 .rw [ak (by omega:¬(k:Int)<s.length),aj]
  refine Def.ret ⟨rfl,.inl ⟨rfl,?_⟩⟩
  rwa[kX (by omega)]at b
theorem Y0 (N:Nat) (x:16<=N) (k:N<=16777216) (s:List a7) (G:s.length<N) (n:Int) (y:0<=n) (z:n<=1000):wV N s n=some (fl n s):=by
 refine Def.get ?_
 unfold wV
 refine Def.bind (aag N x k s G n y z) fun r ⟨A,h⟩=>?_
 rcases h with⟨o,p⟩|⟨i,o,hi,p⟩
 .rw [o,aq rfl,ao,A]
  exact Def.ret p.symm
 .rw [A,o,ak (by omega:¬(i:Int)=-1),aj]
  refine Def.ite (aN (by omega)) ?_
  refine Def.iter (fun g=>∃(a b:Nat) (t:List a7),g=(t,n,(a:Int),(b:Int))/\a<b/\b<=s.length/\t.length=s.length/\t.take a=fl n (s.take b)/\t.drop b=s.drop b) (fun g=>((s.length:Int)-g.2.2.2).toNat) (fun go g H B=>?_) N _ ⟨i,i+1,s,by rw[aR],by omega,hi,rfl,p.symm,rfl⟩ (by show((s.length:Int)-((i:Int)+1)).toNat<N;omega)
  obtain⟨a,b,t,rfl,I,L,C,u,j⟩:=H
  dsimp only
  by_cases c:b<s.length
  .have d:b<t.length:=by omega
   have F:t[b]=s[b]:=by
    have v:=congrArg (fun l:List a7=>l[0]?) j
    simp only[hT,lH]at v
    rw[bH d,bH c]at v
    exact Option.some.inj v
   have J:rO N t[b].1 t[b].2 n=some (jl n s[b].1):=by
    unfold rO
    rw[F,ME N x _ n y z,af]
   rw[aq (by omega:(b:Int)<t.length),ao,ai ⟨by omega,by omega⟩,er,bH d,af,J,af]
   have f:t.drop (b+1)=s.drop (b+1):=by
    have:=congrArg (List.drop 1) j
    rwa[pD,pD]at this
   refine Def.bif (fun e=>?_) (fun e=>?_)
   .rw [sO]at e
    rw[ai ⟨by omega,by omega⟩,er,bH (by omega:a<t.length),af]
    refine Def.ite (aN (by omega)) (Def.ite (aN (by omega)) (B _ ⟨a+1,b+1,t.set a t[b],by rw[aR,aR],by omega,c,by rw[mj];exact C,?_,?_⟩ (by dsimp only;omega)))
    .rw [nS c,tW,e,aj,<-u,nS (by rw[mj];omega:a<(t.set a t[b]).length),List.getElem_set_self,List.take_set_of_le (bC _),F]
    .rw [List.drop_set_of_lt (by omega)]
     exact f
   .rw [Bool.not_eq_false']at e
    refine Def.ite (aN (by omega)) (B _ ⟨a,b+1,t,by rw[aR],by omega,c,C,?_,f⟩ (by dsimp only;omega))
    rw[nS c,tW,e,ao,e5]
    exact u
  .have K:b=s.length:=by omega
   subst K
   rw[ak (by omega:¬(s.length:Int)<(t.length:Int)),aj]
   refine Def.cut (by omega) (by omega) (by omega) (Def.cut (by omega) (by omega) (by rw[a1,a1,bX];omega) (Def.ret ?_))
   rw[er,show Int.toNat 0=0 from rfl,qT,dJ,List.take_append_of_le_length (by rw[bX];omega),List.take_take,Nat.min_self,u,kX (bC _)]
theorem YU {aW:List UInt8} (h:7<=aW.length) (n:Int):(decide ((1001:Int)<=qz (e4 aW))&&decide (qz (e4 aW)<=1000+n-1))=rK n aW:=by
 have a:=wU h
 have b:e4 aW≠ []:=fun e=>by rw[e]at a;cases a
 unfold rK qz
 cases d:(e4 aW).all e1 with
 |false=>rfl
 |true=>
  rw[ck,ck,aq (by omega:(e4 aW).length<=9),ck,aq b,ck,aq (by omega:1<(e4 aW).length),ck]
  by_cases e:(e4 aW).head? =some 48
  .rw [aq e]
   have i:eL 0 (e4 aW)<1000:=by
    match hm:e4 aW,a with
    |c::r,a=>
     rw[hm]at e d
     have e:c=48:=Option.some.inj e
     subst e
     have:=F7 r 0 fun x f=>cA.1 d x (b7 _ f)
     have g:r.length=3:=by rw[aZ]at a;omega
     rw[g]at this
     exact this
   rw[ak (by omega:¬(1001:Int)<=(eL 0 (e4 aW):Int))]
   rfl
  .rw [ak e]
   rfl
theorem ZR (N:Nat) (n a b:Int):iN N n a b=some (decide (a<=n)&&decide (n<=b)):=by
 unfold iN
 cases decide (a<=n)<;>rfl
theorem ZA (N:Nat) (y:16<=N) (p:N<=16777216) (d:List a7) (z:d.length<N) (n:Int) (A:0<=n) (B:n<=1000):oY N d n=some (fl n d):=by
 refine Def.get ?_
 unfold oY
 refine Def.iter (fun g=>∃(k:Nat),g=(n,(k:Int),d,fl n (d.take k))/\k<=d.length) (fun g=>((d.length:Int)-g.2.1).toNat) (fun go g s o=>?_) N _ ⟨0,rfl,bg _⟩ (by show((d.length:Int)-0).toNat<N;omega)
 obtain⟨k,rfl,C⟩:=s
 dsimp only
 by_cases a:k<d.length
 .have fQ:(fl n (d.take k)).length<=d.length:=by
   have:=hK (fun f:a7=> !jl n f.1) (d.take k)
   unfold fl
   rw[bX]at this
   omega
  have iP:jl n d[k].1=false->Def (if room (fl n (d.take k)).length ([d[k]]:List a7).length 32 then if fits ((k:Int)+1)then go (n,(k:Int)+1,d,fl n (d.take k)++ [d[k]])else none else none) fun r=>r=fl n d:=fun e=>by
   refine Def.ite (b5 (by rw[bS];omega) (by rw[bS];omega)) (Def.ite (aN (by omega)) (o _ ⟨k+1,?_,a⟩ (by dsimp only;omega)))
   rw[nS a,tW,e,aR]
   rfl
  have pass:jl n d[k].1=true->Def (if fits ((k:Int)+1)then go (n,(k:Int)+1,d,fl n (d.take k))else none) fun r=>r=fl n d:=fun e=>by
   refine Def.ite (aN (by omega)) (o _ ⟨k+1,?_,a⟩ (by dsimp only;omega))
   rw[nS a,tW,e,aR,ao,e5]
  have b:=MD n d[k].1
  rw[aq (by omega:(k:Int)<d.length),ao,aO a,af]
  by_cases c:7<=d[k].1.length
  .rw [aq c,ck]at b
   have t:=wU c
   have u:=akQ N (e4 d[k].1) (by omega)
   have h:=YU c n
   rw[aq (by omega:(7:Int)<=d[k].1.length),ao,MA c]
   simp only[af]
   have look:(decide (d[k].1.take 3=[103,101,110])||decide (d[k].1.take 3=[115,101,103]))=true->Def (Option.bind (cut d[k].1 3 7) fun(v:List UInt8)=>Option.bind (uW N v) fun(r:Int)=>if fits (1000+n)then if fits (1000+n-1)then Option.bind (iN N r 1001 (1000+n-1)) fun(x:Bool)=>bif(!x)then(if room (fl n (d.take k)).length ([d[k]]:List a7).length 32 then if fits ((k:Int)+1)then go (n,(k:Int)+1,d,fl n (d.take k)++ [d[k]])else none else none)else if fits ((k:Int)+1)then go (n,(k:Int)+1,d,fl n (d.take k))else none else none else none) fun r=>r=fl n d:=fun e=>by
    rw[e,ck]at b
    rw[MS c,af,u,af]
    refine Def.ite (by unfold fits;omega) (Def.ite (by unfold fits;omega) ?_)
    rw[ZR,af,h,<-b]
    refine Def.bif (fun i=>?_) (fun i=>?_)
    .rw [sO]at i
     exact iP i
    .rw [Bool.not_eq_false']at i
     exact pass i
   by_cases j:d[k].1.take 3=[103,101,110]
   .rw [aq j,ao]
    exact look (by rw[aq j];rfl)
   .rw [ak j,aj]
    by_cases l:d[k].1.take 3=[115,101,103]
    .rw [aq l,ao]
     exact look (by rw[aq l,Bool.or_true])
    .rw [ak l,aj]
     rw[ak j,ak l]at b
     exact iP b
  .rw [ak (by omega:¬(7:Int)<=d[k].1.length),aj]
   simp only[af]
   rw[ak c]at b
   exact iP b
 .rw [ak (by omega:¬(k:Int)<d.length),aj]
  refine Def.ret ?_
  rw[kX (by omega)]
theorem MV {g:a7} {d:List a7} (h:jc (g::d)):(∀x,x∈d->Op.bytesLess g.1 x.1=true)/\jc d:=ez.1 h
theorem Mz (f:a7):∀(d:List a7),jc d->∀(k:Nat) (g:a7),d[k]? =some g->g.1=f.1->fV f d=d.set k f
 | [],_,k,g,b,_=>by simp at b
 |x::d,h,0,g,b,e=>by
  obtain rfl:x=g:=by simpa using b
  unfold fV
  rw[ai e]
  rfl
 |x::d,h,k+1,g,b,e=>by
  obtain⟨j,l⟩:=MV h
  have c:d[k]? =some g:=by simpa using b
  have a:=j g (fc c)
  rw[e]at a
  have i:x.1≠f.1:=fun o=>by rw[o,q6]at a;cases a
  unfold fV
  rw[aA i,ai a,Mz f d l k g c e]
  rfl
theorem MG (f:a7):∀d:List a7,(∀g,g∈d->g.1≠f.1)->(fV f d).Perm (d++ [f])
 | [],_=>List.Perm.refl _
 |x::d,h=>by
  have a:=MG f d fun g b=>h g (b7 _ b)
  unfold fV
  rw[aA (h x b6)]
  split
  .exact a.cons x
  .exact List.perm_append_singleton f (x::d)|>.symm
theorem Z4 (N:Nat) (x y:List UInt8):qo N x y=some (if Op.bytesLess x y then-1 else if Op.bytesLess y x then 1 else 0):=by
 unfold qo
 have h:∀z:List UInt8,rX N z=some false:=fun z=>by unfold rX;simp
 rw[h,h]
 simp only[af,aj]
 rw[O8]
 cases a:Op.bytesLess x y
 .cases b:Op.bytesLess y x<;>simp
 .simp
theorem Mw {α β:Type} (f:α->β):∀ {l:List α},l.Pairwise (fun x y=>f x≠f y)->∀ {x y:α},x∈l->y∈l->f x=f y->x=y
 | [],_,x,y,c,_,_=>by cases c
 |z::l,h,x,y,c,hy,e=>by
  obtain⟨g,i⟩:=ez.1 h
  rcases bm.1 c with ex|b
  .rcases bm.1 hy with d|a
   .exact ex.trans d.symm
   .exact absurd (ex▸e) (g y a)
  .rcases bm.1 hy with d|a
   .exact absurd (d▸e.symm) (g x b)
   .exact Mw f i b a e
theorem ZK (f g:a7) (d:List a7):fV f (g::d)=if g.1=f.1 then f::d else if Op.bytesLess g.1 f.1=true then g::fV f d else f::g::d:=rfl
def uy (a b:a7):Bool:=Op.bytesLess a.1 b.1
theorem Zt :hX uy:=⟨fun x y h=>J6 h,fun x y z h k=>by
 unfold uy at*
 cases a:Op.bytesLess z.1 x.1 with
 |false=>rfl
 |true=>
  by_cases e:x.1=y.1
  .rw [e]at a;rw[a]at k;cases k
  .have b:Op.bytesLess x.1 y.1=true:=vF h (Ne.symm e)
   rw[pU a b]at k
   cases k⟩
theorem YY (N:Nat) (G:64<=N) (f:N<=16777216) (aW t:List UInt8) (b:List a7) (H:b.length+1<N) (hu:jc b):tY N aW t b=some (fV (aW,t) b):=by
 refine Def.get ?_
 unfold tY
 refine Def.iter (fun g=>∃k:Nat,g=(aW,t,(b.length:Int),(k:Int),b)/\k<=b.length/\∀g,g∈b.take k->g.1≠aW) (fun g=>((b.length:Int)-g.2.2.2.1).toNat) (fun go g p s=>?_) N _ ⟨0,rfl,bg _,fun g c=>by simp at c⟩ (by show((b.length:Int)-0).toNat<N;omega)
 obtain⟨k,rfl,I,d⟩:=p
 dsimp only
 by_cases a:k<b.length
 .rw [aq (by omega:(k:Int)<b.length),ao,ai ⟨by omega,by omega⟩,er,bH a,af]
  by_cases e:b[k].1=aW
  .rw [aq e,ao,ai ⟨by omega,by omega⟩,af]
   refine Def.ret ?_
   rw[Mz (aW,t) b hu k b[k] (bH a) e,e]
  .rw [ak e,aj]
   refine Def.ite (aN (by omega)) (s _ ⟨k+1,by rw[aR],a,fun g c=>?_⟩ (by dsimp only;omega))
   rw[nS a,cp,c1]at c
   rcases c with c|rfl
   .exact d g c
   .exact e
 .have u:k=b.length:=by omega
  subst u
  rw[kX (bC _)]at d
  rw[ak (by omega:¬(b.length:Int)<(b.length:Int)),aj]
  refine Def.ite (b5 (by rw[bS];omega) (by rw[bS];omega)) ?_
  refine Def.bind (amY uy Zt N f (by omega) (b++ [(aW,t)]) () ⟨fun x _ y _=>?_⟩ (by rw[a1,bS];omega)) fun r ⟨l,v⟩=>Def.ret ?_
  .have z:jE N () x y=some (if Op.bytesLess x.1 y.1 then-1 else if Op.bytesLess y.1 x.1 then 1 else 0):=by
    show Aj N x.1 x.2 y.1 y.2=_
    unfold Aj
    rw[Z4,af]
   refine⟨_,z,?_⟩
   unfold uy
   cases A:Op.bytesLess x.1 y.1 with
   |true=>rfl
   |false=>cases Op.bytesLess y.1 x.1<;>rfl
  .have o:=MG (aW,t) b d
   have B:=Dv (aW,t) b hu
   have C:(b++ [(aW,t)]).Pairwise fun x y=>x.1≠y.1:=by
    rw[List.pairwise_append]
    refine⟨hu.imp (fun {x y} h e=>by rw[e,q6]at h;cases h),List.pairwise_singleton _ _,fun x i y hy=>?_⟩
    rw[c1]at hy
    rw[hy]
    exact d x i
   refine List.Perm.eq_of_pairwise (le:=fun x y=>uy y x=false) (fun x y i hy j F=>?_) v (B.imp fun {x y} h=>J6 h) (l.trans o.symm)
   have e:x.1=y.1:=by
    by_cases e:x.1=y.1
    .exact e
    .have:=vF F e
     unfold uy at j
     rw[this]at j
     cases j
   exact Mw (fun x:a7=>x.1) C (l.mem_iff.1 i) (o.mem_iff.1 hy) e
theorem YS (N:Nat) (y:N<=16777216) (d:List a7) (B:d.length+1<N) (hu:jc d) (aW t:List UInt8):tX N d aW t=some (fV (aW,t) d):=by
 refine Def.get ?_
 unfold tX
 refine Def.iter (fun g=>∃(k:Nat) (out:List a7),out.length<=2*k/\k<=d.length/\((g=(false,(k:Int),d,aW,t,out)/\out++fV (aW,t) (d.drop k)=fV (aW,t) d)\/(g=(true,(k:Int),d,aW,t,out)/\out++d.drop k=fV (aW,t) d/\∀g,g∈d.drop k->g.1≠aW))) (fun g=>((d.length:Int)-g.2.1).toNat) (fun go g f s=>?_) N _ ⟨0,[],bg _,bg _,.inl ⟨rfl,rfl⟩⟩ (by show((d.length:Int)-0).toNat<N;omega)
 obtain⟨k,out,C,F,f⟩:=f
 by_cases a:k<d.length
 .have i:=fC a
  have j:jc (d.drop k):=hu.sublist (List.drop_sublist _ _)
  rw[i]at j f
  rw[ZK]at f
  obtain⟨z,G⟩:=MV j
  have u:∀(o:List a7) (x:a7),o.length<=2*k+1->room o.length ([x]:List a7).length 32:=fun o x h=>b5 (by rw[bS];omega) (by rw[bS];omega)
  have v:fits ((k:Int)+1):=aN (by omega)
  have l:∀g,g∈d.drop (k+1)->Op.bytesLess d[k].1 aW=false->g.1≠aW:=fun g b h A=>by
   have:=z g b
   rw[A,h]at this
   cases this
  rcases f with⟨rfl,hw⟩|⟨rfl,hw,p⟩
  .dsimp only
   rw[aq (by omega:(k:Int)<d.length),ao]
   cases c:Op.bytesLess d[k].1 aW with
   |false=>
    rw[c]at hw
    refine Def.meet (fun g=>g=(true,(k:Int),d,aW,t,out++ [(aW,t)])) (fun g b=>?_) (fun J r=>?_)
    .subst b
     dsimp only
     rw[aO a,af]
     by_cases e:d[k].1=aW
     .rw [ai e]at hw
      rw[aq e,bn,aj]
      refine Def.ite v (s _ ⟨k+1,out++ [(aW,t)],by rw[a1,bS];omega,a,.inr ⟨by rw[aR],by rw[dJ];exact hw,fun g b=>l g b c⟩⟩ (by dsimp only;omega))
     .rw [aA e,aA (by decide)]at hw
      rw[ak e,dt,ao,af]
      refine Def.ite (u _ _ (by rw[a1,bS];omega)) (Def.ite v (s _ ⟨k+1,out++ [(aW,t)]++ [d[k]],?_,a,.inr ⟨by rw[aR],by rw[dJ,dJ];exact hw,fun g b=>l g b c⟩⟩ (by dsimp only;omega)))
      rw[a1,a1,bS,bS];omega
    .rw [dt,ao,aO a,af,c,dt,ao]
     exact Def.ite (u _ _ (by omega)) (r _ rfl)
   |true=>
    have e:d[k].1≠aW:=fun e=>by rw[e,q6]at c;cases c
    rw[aA e,c,ai rfl]at hw
    refine Def.meet (fun g=>g=(false,(k:Int),d,aW,t,out)) (fun g b=>?_) (fun J r=>?_)
    .subst b
     dsimp only
     rw[aO a,af,ak e,dt,ao,af]
     exact Def.ite (u _ _ (by omega)) (Def.ite v (s _ ⟨k+1,out++ [d[k]],by rw[a1,bS];omega,a,.inl ⟨by rw[aR],by rw[dJ];exact hw⟩⟩ (by dsimp only;omega)))
    .rw [dt,ao,aO a,af,c,bn,aj]
     exact r _ rfl
  .have e:=p d[k] b6
   dsimp only
   rw[aq (by omega:(k:Int)<d.length),ao]
   refine Def.meet (fun g=>g=(true,(k:Int),d,aW,t,out)) (fun g b=>?_) (fun J r=>?_)
   .subst b
    dsimp only
    rw[aO a,af,ak e,dt,ao,af]
    exact Def.ite (u _ _ (by omega)) (Def.ite v (s _ ⟨k+1,out++ [d[k]],by rw[a1,bS];omega,a,.inr ⟨by rw[aR],by rw[dJ];exact hw,fun g b=>p g (b7 _ b)⟩⟩ (by dsimp only;omega)))
   .rw [bn,aj]
    exact r _ rfl
 .rw [jv (by omega)]at f
  rcases f with⟨rfl,hw⟩|⟨rfl,hw,_⟩
  .dsimp only
   rw[ak (by omega:¬(k:Int)<d.length),aj,dt,ao]
   exact Def.ite (b5 (by rw[bS];omega) (by rw[bS];omega)) (Def.ret hw)
  .dsimp only
   rw[ak (by omega:¬(k:Int)<d.length),aj,bn,aj]
   rw[e5]at hw
   exact Def.ret hw
theorem MU (o:Option (List UInt8)):(ph o).2=o.isSome:=by cases o<;>rfl
theorem Zw (N:Nat) (c:1048576<N) (a:N<=16777216) (d:List a7) (f:d.length<N):Ag N d=some (cc d:Int):=by
 refine Def.get ?_
 unfold Ag
 refine Def.iter (fun g=>∃k:Nat,g=((k:Int),d)/\k<=99/\kN d k=cc d) (fun g=>g.1.toNat) (fun go g h i=>?_) N _ ⟨99,rfl,bC _,rfl⟩ (by show(99:Int).toNat<N;omega)
 obtain⟨k,rfl,j,e⟩:=h
 dsimp only
 cases k with
 |zero=>
  rw[ak (by decide:¬(1:Int)<=((0:Nat):Int)),aj]
  refine Def.ret ?_
  rw[<-e]
  rfl
 |succ k=>
  rw[aq (by omega:(1:Int)<=((k+1:Nat):Int)),ao,Lj N c a _ (by omega) (by omega),af,VF N d _ f a,af,MU]
  unfold kN at e
  cases b:(eC d (eV ((k+1:Nat):Int))).isSome with
  |true=>
   rw[b,ao]at e
   rw[ao,<-e]
   exact Def.ret rfl
  |false=>
   rw[b,aj]at e
   rw[aj]
   exact Def.ite (by unfold fits;omega) (i _ ⟨k,by rw[show((k+1:Nat):Int)-1=(k:Int)from by omega],by omega,e⟩ (by dsimp only;omega))
theorem Ah (n:Int):∀(ls:List b0) (k i:Nat) (h:i<ls.length),dW n k (ls.drop i)=(dZ n (k:Int),dn ls[i].1.1 ls[i].2)::dW n (k+1) (ls.drop (i+1)):=fun ls k i h=>by
 rw[fC h]
 rfl
theorem Al {n k:Int} (a:0<=n) (b:n<=1000) (c:0<=k) (d:k<=1000):(dZ n k).length<=44:=by
 have e:=gU (n:=1000+n) (by omega) (by omega)
 have f:=gU (n:=k) (by omega) (by omega)
 unfold dZ
 simp only[a1,aZ,bE]
 omega
theorem Ap {f:a7} (h:f.1.length<=44):(hD f++ [10]).length<=70:=by
 have a:=yV f.2
 have b:=gU (n:=(h0 f.2:Int)) (by omega) (by omega)
 unfold hD
 simp only[a1,aZ,bE]
 omega
def lq (a:List a7):List UInt8:=hC (a.map hD)
theorem Ao (f:a7) (a:List a7):lq (f::a)=(hD f++ [10])++lq a:=by
 unfold lq
 rw[cv,uw,dJ]
 rfl
theorem F3 {c:aL} {l:b0} (h:ct (c,[l])=true):(dn l.1.1 l.2).length<=1048576:=(xD h).small
theorem Y5 {N:Nat} (B:1048600<=N) (c:N<=16777216) (x:ca) (cV:cz bF gm x.1) (h:ct x=true) (n:Int) (j:0<=n) (o:n<=1000):Ak N x.1.1 x.1.2 x.2 n=some (dF x n):=by
 have s:bF<N:=by show 1048576<N;omega
 have t:x.2.length<=5:=(gg h).2.1
 refine Def.get ?_
 unfold Ak
 refine Def.iter (fun g=>∃(i:Nat) (out:List a7) (gen:List UInt8),g=(n,out,gen,(i:Int),x.1.1,x.1.2,x.2)/\i<=x.2.length/\out.length=i/\gen.length<=70*i/\out++dW n i (x.2.drop i)=dW n 0 x.2/\gen++lq (dW n i (x.2.drop i))=lq (dW n 0 x.2)) (fun g=>((x.2.length:Int)-g.2.2.2.1).toNat) (fun go g u v=>?_) N _ ⟨0,[],[],rfl,bg _,rfl,bg _,rfl,rfl⟩ (by show((x.2.length:Int)-0).toNat<N;omega)
 obtain⟨i,out,gen,rfl,hi,y,C,d,e⟩:=u
 dsimp only
 by_cases a:i<x.2.length
 .have b:ct (x.1,[x.2[i]])=true:=AJ h (bA a)
  have z:pP x.2[i].1.1 x.2[i].2:=(EM s c cV (xs:=[x.2[i]]) (by simp) (fun l p=>by rw[c1]at p;rw[p];exact b)).RU b
  have F:=F3 b
  have G:=yV (dn x.2[i].1.1 x.2[i].2)
  have r:=rj N N (by omega) (by omega) (1000+n) (by omega) (by omega)
  have a2:=rj N N (by omega) (by omega) (i:Int) (by omega) (by omega)
  have a3:=rj N N (by omega) (by omega) (h0 (dn x.2[i].1.1 x.2[i].2):Int) (by omega) (by omega)
  have ej:=gU (n:=1000+n) (by omega) (by omega)
  have ba:=gU (n:=(i:Int)) (by omega) (by omega)
  have e0:=gU (n:=(h0 (dn x.2[i].1.1 x.2[i].2):Int)) (by omega) (by omega)
  have A:=Al j o (k:=(i:Int)) (by omega) (by omega)
  unfold kh at r a2 a3
  have cQ:([115,101,103]++Lib.itoa (1000+n))++ [120]++Lib.itoa (i:Int)=dZ n (i:Int):=rfl
  rw[aq (by omega:(i:Int)<x.2.length),ao]
  refine Def.ite (by unfold fits;omega) ?_
  rw[r,af]
  refine Def.ite (by simp only[aZ,bE];omega) (Def.ite (by simp only[a1,aZ,bE];omega) ?_)
  rw[a2,af]
  refine Def.ite (by simp only[a1,aZ,bE];omega) ?_
  rw[aO a,af,amh N (by omega) c x.2[i] z,af,cQ]
  refine Def.ite (b5 (by rw[bS];omega) (by rw[bS];omega)) (Def.ite (by omega) (Def.ite (by simp only[a1,aZ,bE];omega) ?_))
  rw[UO N (by omega) _ (by omega) (by omega),af,a3,af]
  refine Def.ite (by simp only[a1,aZ,bE];omega) (Def.ite (by simp only[a1,aZ,bE];omega) (Def.ite (aN (by omega)) (v _ ⟨i+1,out++ [(dZ n (i:Int),dn x.2[i].1.1 x.2[i].2)],gen++(hD (dZ n (i:Int),dn x.2[i].1.1 x.2[i].2)++ [10]),?_,a,by rw[a1,y];rfl,?_,?_,?_⟩ (by dsimp only;omega))))
  .rw [aR]
   unfold hD
   simp only[dJ]
  .have:=Ap (f:=(dZ n (i:Int),dn x.2[i].1.1 x.2[i].2)) A
   rw[a1]
   omega
  .rw [<-d,Ah n x.2 i i a,dJ]
   rfl
  .rw [<-e,Ah n x.2 i i a,Ao,dJ]
 .rw [jv (by omega)]at d e
  have d:out=dW n 0 x.2:=by rw[<-d];exact(e5 _).symm
  have e:gen=lq (dW n 0 x.2):=by rw[<-e];exact(e5 _).symm
  rw[ak (by omega:¬(i:Int)<x.2.length),aj,Lj N (by omega) c n j o,af]
  refine Def.ite (by simp only[aZ,bE];omega) (Def.ite (b5 (by rw[bS];omega) (by rw[bS];omega)) (Def.ret ?_))
  rw[d,e]
  rfl
theorem F8 (w:Int) (a:List a7) {i:Nat} (hi:i<a.length):dC w (a.take (i+1))=dC w (a.take i)++(bif decide (w<0)||decide ((i:Int)<w)then [a[i]]else []):=by
 unfold dC
 cases hw:decide (w<0)with
 |true=>rw[ao,ao,Bool.true_or,ao,nS hi]
 |false=>
  rw[decide_eq_false_iff_not]at hw
  rw[aj,aj,ig,List.take_take,List.take_take]
  by_cases h:(i:Int)<w
  .rw [aq h,ao,Nat.min_eq_right (by omega),Nat.min_eq_right (by omega),nS hi]
  .rw [ak h,aj,ow (by omega),ow (by omega),e5]
theorem Ga :∀(a d:List a7),jc d->jc (writeAll a d)
 | [],_,h=>h
 |f::a,d,h=>by rw[vi];exact Ga a _ (Dv f d h)
theorem ZT (w:Int) (a:List a7):(dC w a).length<=a.length:=by
 unfold dC
 cases decide (w<0)with
 |true=>exact bC _
 |false=>rw[aj,bX];omega
theorem F6 (w:Int) (a d:List a7) (i:Nat) (c:a.length<=6) (e:d.length<=24):(writeAll (dC w (a.take i)) d).length<=30:=by
 have f:=Tk (dC w (a.take i)) d
 have b:=ZT w (a.take i)
 rw[bX]at b
 omega
theorem EJ (w:Int) (a d:List a7) (b:a.length<=6) (c:d.length<=24):(writeAll (dC w a) d).length<=30:=by
 have:=F6 w a d a.length b c
 rwa[kX (bC _)]at this
theorem yR (n:Int) (d:List a7):(fl n d).length<=d.length:=hK _ _
def jG (d:List a7) (x:ca) (w:Int):List a7×Int:=bif jk d&&ct x then ka d x w else([],-1)
theorem rb {d:List a7} {x:ca} {w:Int} (h:(decide (99<cc d+1)||decide (24<d.length+6))=true):ka d x w=(d,0):=by unfold ka;rw[h];rfl
theorem tl {d:List a7} {x:ca} {w:Int} (h:(decide (99<cc d+1)||decide (24<d.length+6))=false):ka d x w=(bif decide (w<0)||decide (((dF x (cc d+1:Nat)).length:Int)<w)then fl (cc d+1:Nat) (writeAll (dC w (dF x (cc d+1:Nat))) d)else writeAll (dC w (dF x (cc d+1:Nat))) d,((cc d+1:Nat):Int)):=by unfold ka;rw[h];rfl
theorem KF {N:Nat} (y:1048600<=N) (b:N<=16777216) (d:List a7) (z:lL d) {x:ca} (F:ea N x) (w:Int):wW N d x.1.1 x.1.2 x.2 w=some (jG d x w):=by
 unfold wW jG
 rw[U3 N (by omega) b d z,af]
 cases l:jk d with
 |false=>rfl
 |true=>
  rw[bn,aj,xo F,af]
  cases v:ct x with
  |false=>rfl
  |true=>
   have P:=uK l
   have h:d.length<=24:=P.cS
   have o:cc d<=99:=xw d 99
   rw[bn,aj,fX,ao,Zw N (by omega) b d (by omega),af,ai (by unfold fits;omega)]
   have p:room ([]:List a7).length d.length 32:=b5 (by rw[show([]:List a7).length=0 from rfl,gK];omega) (by rw[show([]:List a7).length=0 from rfl,gK];omega)
   by_cases j:99<cc d+1
   .rw [aq (by omega:(99:Int)<(cc d:Int)+1),ao,ai p,rb (by rw[aq j];rfl)]
    rfl
   .rw [ak (by omega:¬(99:Int)<(cc d:Int)+1),aj,ai (by unfold fits;omega),ai (by unfold fits;omega)]
    by_cases k:24<d.length+6
    .rw [aq (by omega:(24:Int)<d.length+5+1),ao,ai p,rb (by rw[aq k,Bool.or_true])]
     rfl
    .have A:x.2.length<=5:=(gg v).2.1
     rw[ak (by omega:¬(24:Int)<d.length+5+1),aj,ai p,show(cc d:Int)+1=((cc d+1:Nat):Int)from by omega,Y5 y b x F.cV v _ (by omega) (by omega),af,tl (by rw[ak j,ak k];rfl)]
     generalize s:dF x ((cc d+1:Nat):Int)=a
     have t:a.length<=6:=by rw[<-s,rl];omega
     have B:jc d:=P.up
     refine Def.get ?_
     refine Def.iter (fun g=>∃i:Nat,g=(w,((cc d+1:Nat):Int),a,(i:Int),writeAll (dC w (a.take i)) d)/\i<=a.length) (fun g=>((a.length:Int)-g.2.2.2.1).toNat) (fun go g C G=>?_) N _ ⟨0,by unfold dC;cases decide (w<0)<;>simp[writeAll],bg _⟩ (by show((a.length:Int)-0).toNat<N;omega)
     obtain⟨i,rfl,hi⟩:=C
     have H:=F6 w a d i t h
     have u:=Ga (dC w (a.take i)) d B
     have done:dC w (a.take i)=dC w a->Def (bif decide (w<0)then Option.bind (oY N (writeAll (dC w (a.take i)) d) ((cc d+1:Nat):Int)) fun I=>some (I,((cc d+1:Nat):Int))else bif decide ((a.length:Int)<w)then Option.bind (oY N (writeAll (dC w (a.take i)) d) ((cc d+1:Nat):Int)) fun J=>some (J,((cc d+1:Nat):Int))else some (writeAll (dC w (a.take i)) d,((cc d+1:Nat):Int))) fun r=>r=(bif decide (w<0)||decide ((a.length:Int)<w)then fl ((cc d+1:Nat):Int) (writeAll (dC w a) d)else writeAll (dC w a) d,((cc d+1:Nat):Int)):=fun e=>by
      rw[ZA N (by omega) b _ (by omega) _ (by omega) (by omega),af,e]
      cases decide (w<0)with
      |true=>exact Def.ret rfl
      |false=>cases decide ((a.length:Int)<w)<;>exact Def.ret rfl
     dsimp only
     by_cases c:i<a.length
     .rw [aq (by omega:(i:Int)<a.length),ao]
      have wr:(decide (w<0)||decide ((i:Int)<w))=true->Def (Option.bind (idx a (i:Int)) fun(e:a7)=>Option.bind (tX N (writeAll (dC w (a.take i)) d) e.1 e.2) fun K=>if fits ((i:Int)+1)then go (w,((cc d+1:Nat):Int),a,(i:Int)+1,K)else none) fun r=>r=(bif decide (w<0)||decide ((a.length:Int)<w)then fl ((cc d+1:Nat):Int) (writeAll (dC w a) d)else writeAll (dC w a) d,((cc d+1:Nat):Int)):=fun e=>by
       rw[aO c,af,YS N b _ (by omega) u,af]
       refine Def.ite (aN (by omega)) (G _ ⟨i+1,?_,c⟩ (by dsimp only;omega))
       rw[F8 w a c,e,ao,My,aR]
       rfl
      refine Def.bif (fun hw=>wr (by rw[hw];rfl)) (fun hw=>Def.bif (fun f=>wr (by rw[f,Bool.or_true])) (fun f=>?_))
      have:=done (by
       rw[decide_eq_false_iff_not]at hw f
       unfold dC
       rw[ak hw,aj,aj,List.take_take,ow (by omega)])
      exact this
     .rw [ak (by omega:¬(i:Int)<a.length),aj]
      exact done (by rw[kX (by omega)])
theorem aaa {c:aL} {l:b0} (h:ct (c,[l])=true):mW c l=dn l.1.1 l.2:=by
 unfold mW
 rw[h]
 rfl
set_option maxHeartbeats 1000000 in
theorem U2 {N:Nat} (qa:1048600<=N) (c:N<=16777216) (d:List a7) (X:lL d) {x:ca} (F:ea N x) (w:Int):Aq N d x.1.1 x.1.2 x.2 w=some (jG d x w):=by
 have Y:bF<N:=by show 1048576<N;omega
 unfold Aq jG
 rw[KG N (by omega) c d X,af]
 cases z:jk d with
 |false=>rfl
 |true=>
  rw[bn,aj,Aa F,af]
  cases Q:ct x with
  |false=>rfl
  |true=>
   have P:=uK z
   have o:d.length<=24:=P.cS
   have Z:x.2.length<=5:=(gg Q).2.1
   have WA:jc d:=P.up
   have cV:=F.cV
   have alY:room ([]:List a7).length d.length 32:=b5 (by rw[show([]:List a7).length=0 from rfl,gK];omega) (by rw[show([]:List a7).length=0 from rfl,gK];omega)
   rw[bn,aj,fX,ao,ai alY,fj]
   refine Def.get ?_
   refine Def.iter (fun g=>∃k:Nat,g=(w,((k+1:Nat):Int),d,x.1.1,x.1.2,x.2,d,((kN d k+1:Nat):Int))/\k<=99) (fun g=>(100-g.2.1).toNat) (fun go g p S=>?_) N _ ⟨0,rfl,bg _⟩ (by show((100:Int)-1).toNat<N;omega)
   obtain⟨k,rfl,T⟩:=p
   dsimp only
   by_cases Xk:k<99
   .rw [aq (by omega:((k+1:Nat):Int)<=99),ao,ET N _ (by omega) (by omega),af,EI N d _ (by omega) c,af,MU]
    have hm:kN d (k+1)=bif(eC d (eV ((k+1:Nat):Int))).isSome then k+1 else kN d k:=rfl
    cases U:(eC d (eV ((k+1:Nat):Int))).isSome with
    |true=>
     rw[U,ao]at hm
     rw[ao]
     exact Def.ite (by unfold fits;omega) (Def.ite (by unfold fits;omega) (S _ ⟨k+1,by simp only[hm,aR],by omega⟩ (by dsimp only;omega)))
    |false=>
     rw[U,aj]at hm
     rw[aj]
     exact Def.ite (by unfold fits;omega) (S _ ⟨k+1,by simp only[hm,aR],by omega⟩ (by dsimp only;omega))
   .have tq:k=99:=by omega
    subst tq
    have A:cc d<=99:=xw d 99
    rw[ak (by omega:¬((99+1:Nat):Int)<=99),aj,show kN d 99=cc d from rfl]
    by_cases s:99<cc d+1
    .rw [aq (by omega:(99:Int)<((cc d+1:Nat):Int)),ao,rb (by rw[aq s];rfl)]
     exact Def.ret rfl
    .rw [ak (by omega:¬(99:Int)<((cc d+1:Nat):Int)),aj,ai (by unfold fits;omega),ai (by unfold fits;omega)]
     by_cases t:24<d.length+6
     .rw [aq (by omega:(24:Int)<d.length+5+1),ao,rb (by rw[aq t,Bool.or_true])]
      exact Def.ret rfl
     .rw [ak (by omega:¬(24:Int)<d.length+5+1),aj,tl (by rw[ak s,ak t];rfl)]
      obtain⟨n,cD⟩:∃n:Int,n=((cc d+1:Nat):Int):=⟨_,rfl⟩
      rw[<-cD]
      have B:0<=n:=by omega
      have C:n<=1000:=by omega
      refine Def.iter (fun g=>∃(i:Nat) (out:List a7) (gen:List UInt8),g=(w,out,gen,x.2,(x.2.length:Int),(i:Int),x.1.1,x.1.2,x.2,d,n)/\i<=x.2.length/\out.length=i/\gen.length<=70*i/\out++dW n i (x.2.drop i)=dW n 0 x.2/\gen++lq (dW n i (x.2.drop i))=lq (dW n 0 x.2)) (fun g=>((x.2.length:Int)-g.2.2.2.2.2.1).toNat) (fun go2 g p G=>?_) N _ ⟨0,[],[],rfl,bg _,rfl,bg _,rfl,rfl⟩ (by show((x.2.length:Int)-0).toNat<N;omega)
      obtain⟨i,out,gen,rfl,hi,cx,cr,u,v⟩:=p
      dsimp only
      by_cases b:i<x.2.length
      .have h:ct (x.1,[x.2[i]])=true:=AJ Q (bA b)
       have kv:ea N (x.1,[x.2[i]]):=EM Y c cV (xs:=[x.2[i]]) (by simp) (fun l V=>by rw[c1]at V;rw[V];exact h)
       have ax:=F3 h
       have bB:=yV (dn x.2[i].1.1 x.2[i].2)
       have W:=ql N (1000+n) (by omega) (by omega)
       have a2:=ql N (i:Int) (by omega) (by omega)
       have a3:=ql N (h0 (dn x.2[i].1.1 x.2[i].2):Int) (by omega) (by omega)
       have ej:=gU (n:=1000+n) (by omega) (by omega)
       have ba:=gU (n:=(i:Int)) (by omega) (by omega)
       have e0:=gU (n:=(h0 (dn x.2[i].1.1 x.2[i].2):Int)) (by omega) (by omega)
       have T3:=Al B C (k:=(i:Int)) (by omega) (by omega)
       have cU:rE N x.1.1 x.1.2 x.2[i].1.1 x.2[i].1.2 x.2[i].2=some (dn x.2[i].1.1 x.2[i].2):=by rw[P3 kv,aaa h]
       unfold kh at W a2 a3
       have cQ:([115,101,103]++Lib.itoa (1000+n))++ [120]++Lib.itoa (i:Int)=dZ n (i:Int):=rfl
       rw[aq (by omega:(i:Int)<x.2.length),ao,aO b,af]
       refine Def.ite (by unfold fits;omega) ?_
       rw[W,af]
       refine Def.ite (by simp only[aZ,bE];omega) (Def.ite (by simp only[a1,aZ,bE];omega) ?_)
       rw[a2,af]
       refine Def.ite (by simp only[a1,aZ,bE];omega) ?_
       rw[cU,af,cQ]
       refine Def.ite (b5 (by rw[bS];omega) (by rw[bS];omega)) (Def.ite (by simp only[aZ,bE];omega) ?_)
       rw[Kv N (by omega) _ (by omega) (by omega),af,a3,af]
       refine Def.ite (by simp only[a1,aZ,bE];omega) (Def.ite (by simp only[a1,aZ,bE];omega) (Def.ite (by simp only[a1,aZ,bE];omega) (Def.ite (aN (by omega)) (G _ ⟨i+1,out++ [(dZ n (i:Int),dn x.2[i].1.1 x.2[i].2)],gen++(hD (dZ n (i:Int),dn x.2[i].1.1 x.2[i].2)++ [10]),?_,b,by rw[a1,cx];rfl,?_,?_,?_⟩ (by dsimp only;omega)))))
       .rw [aR]
        rfl
       .have:=Ap (f:=(dZ n (i:Int),dn x.2[i].1.1 x.2[i].2)) T3
        rw[a1]
        omega
       .rw [<-u,Ah n x.2 i i b,dJ]
        rfl
       .rw [<-v,Ah n x.2 i i b,Ao,dJ]
      .rw [jv (by omega)]at u v
       have u:out=dW n 0 x.2:=by rw[<-u];exact(e5 _).symm
       have v:gen=lq (dW n 0 x.2):=by rw[<-v];exact(e5 _).symm
       rw[ak (by omega:¬(i:Int)<x.2.length),aj,ET N n B C,af]
       refine Def.ite (by simp only[aZ,bE];omega) (Def.ite (b5 (by rw[bS];omega) (by rw[bS];omega)) ?_)
       have H:out++ [(eV n,gen++ [101,110,100])]=dF x n:=by rw[u,v];rfl
       rw[H]
       have I:(dF x n).length<=6:=by rw[rl];omega
       generalize dF x n=a at*
       refine Def.iter (fun g=>∃i:Nat,g=(w,a,a,(a.length:Int),(i:Int),writeAll (dC w (a.take i)) d,n)/\i<=a.length) (fun g=>((a.length:Int)-g.2.2.2.2.1).toNat) (fun J g p y=>?_) N _ ⟨0,by unfold dC;cases decide (w<0)<;>simp[writeAll],bg _⟩ (by show((a.length:Int)-0).toNat<N;omega)
       obtain⟨i,rfl,hi⟩:=p
       have K:=F6 w a d i I o
       have L:=Ga (dC w (a.take i)) d WA
       dsimp only
       by_cases b:i<a.length
       .have wr:(decide (w<0)||decide ((i:Int)<w))=true->Def (Option.bind (tY N a[i].1 a[i].2 (writeAll (dC w (a.take i)) d)) fun M=>if fits ((i:Int)+1)then J (w,a,a,(a.length:Int),(i:Int)+1,M,n)else none) fun r=>r=(bif decide (w<0)||decide ((a.length:Int)<w)then fl n (writeAll (dC w a) d)else writeAll (dC w a) d,n):=fun e=>by
         rw[YY N (by omega) c _ _ _ (by omega) L,af]
         refine Def.ite (aN (by omega)) (y _ ⟨i+1,?_,b⟩ (by dsimp only;omega))
         rw[F8 w a b,e,ao,My,aR]
         rfl
        rw[aq (by omega:(i:Int)<a.length),ao,aO b,af]
        refine Def.bif (fun hw=>wr (by rw[hw];rfl)) (fun hw=>Def.bif (fun j=>wr (by rw[j,Bool.or_true])) (fun j=>?_))
        refine Def.ite (aN (by omega)) (y _ ⟨i+1,?_,b⟩ (by dsimp only;omega))
        rw[F8 w a b,hw,j,Bool.or_false,aj,e5,aR]
       .have di:dC w (a.take i)=dC w a:=by rw[kX (by omega)]
        rw[ak (by omega:¬(i:Int)<a.length),aj]
        rw[di]at K⊢
        have rz:=yR n (writeAll (dC w a) d)
        have O:room ([]:List a7).length (fl n (writeAll (dC w a) d)).length 32:=b5 (by rw[show([]:List a7).length=0 from rfl,gK];omega) (by rw[show([]:List a7).length=0 from rfl,gK];omega)
        rw[Y0 N (by omega) c _ (by omega) n B C,af,ai O,fj]
        cases decide (w<0)with
        |true=>exact Def.ret rfl
        |false=>cases decide ((a.length:Int)<w)<;>exact Def.ret rfl
end Go.Proofs.YtnkagklajgimlaaGreatDoor
