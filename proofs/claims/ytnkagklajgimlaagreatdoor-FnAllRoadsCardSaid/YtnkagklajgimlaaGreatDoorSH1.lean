
import Derived.Test.YtnkagklajgimlaaGreatDoorSG1
set_option linter.unusedVariables false
set_option linter.unusedSimpArgs false
namespace Go.Proofs.YtnkagklajgimlaaGreatDoor
open Go.RowKit
theorem Oz {c:UInt8} (h:gN c=true):48<=c.toNat/\c.toNat<=57:=by
 unfold gN at h
 rw[a6,bo,bo]at h
 exact h
theorem OG :∀(l:List UInt8) (acc:Nat),(∀c,c∈l->gN c=true)->gi acc l<(acc+1)*10^l.length
 | [],acc,_=>by show acc<(acc+1)*10^0;omega
 |c::l,acc,h=>by
  have b:=Oz (h c cb)
  have:=OG l (acc*10+(c.toNat-48)) fun x a=>h x (ch _ a)
  have e:gi acc (c::l)=gi (acc*10+(c.toNat-48)) l:=rfl
  rw[e]
  refine mc this ?_
  rw[ba,Nat.pow_succ,lB (10^l.length) 10,<-Nat.mul_assoc]
  exact ek _ (by omega)
theorem acD {s:List UInt8} (b:∀c,c∈s->gN c=true) (a:s≠ []) (d:gi 0 s<1000000000000000000):h0 s=(gi 0 s:Int):=by
 cases s with
 |nil=>exact absurd rfl a
 |cons c r=>
  have f:=Oz (b c cb)
  have e:=HY (c::r) 0 b d
  unfold h0
  rw[Lib.atoiAll_plain c r (by omega) (by omega)]
  unfold Lib.parseMag
  rw[aC (by simp),e]
  unfold Lib.signless
  dsimp only
  rw[aC (by omega:¬9223372036854775808<=gi 0 (c::r))]
def hj (bw:List UInt8):List UInt8:=(bw.drop 3).take 4
theorem abz {bw:List UInt8} (h:7<=bw.length):cut bw 3 7=some (hj bw):=by
 unfold cut hj
 rw[ai ⟨by omega,by omega,by omega⟩]
 show some ((bw.take 7).drop 3)=_
 rw[List.drop_take]
theorem HD {bw:List UInt8} (h:7<=bw.length):(hj bw).length=4:=by
 unfold hj
 rw[bN,eF]
 omega
theorem Ox {bw:List UInt8} (h:7<=bw.length) {i:Nat} (hi:i<4):(hj bw)[i]? =bw[3+i]? :=by
 unfold hj
 rw[hU,ai hi,hV]
def xS (n:Int) (bw:List UInt8):Bool:=(hj bw).all gN&&(decide ((1001:Int)<=(gi 0 (hj bw):Int))&&decide ((gi 0 (hj bw):Int)<=1000+n-1))
theorem abt (n:Int) (bw:List UInt8):lj n bw=(decide (7<=bw.length)&&(decide (bw.take 3=[103,101,110])||decide (bw.take 3=[115,101,103]))&&xS n bw):=rfl
theorem ab7 {bw:List UInt8} (h:7<=bw.length) (a:(hj bw).all gN=true):gi 0 (hj bw)<10000:=by
 have:=OG (hj bw) 0 (cz.1 a)
 rw[HD h]at this
 omega
theorem aci (N:Nat) (G:16<=N) (bw:List UInt8) (d:7<=bw.length) (n:Int) (H:0<=n) (I:n<=1000):
  iter (fun(go:((List UInt8)×Int×Int)->Option Bool) (g:(List UInt8)×Int×Int)=>
 match g with
 |(a,o,k)=>
 (bif(decide (k<7))then
 (Option.bind (idx a k) fun(c:UInt8)=>
 (bif(decide ((c.toNat:Int)<48))then
 (some false)
 else
 (Option.bind (idx a k) fun(c2:UInt8)=>
 (bif(decide ((57:Int)<(c2.toNat:Int)))then
 (some false)
 else
 (if fits (k+1)then(go (a,o,(k+1)))else none)))))
 else
 (Option.bind (cut a 3 7) fun(y:List UInt8)=>
 (Option.bind (nz N y) fun(r:Int)=>
 (if fits (r-1000)then(if fits (o-1)then(Option.bind (dV N (r-1000) 1 (o-1)) fun(z:Bool)=>
 (some z))else none)else none))))) N (bw,n,3)=some (xS n bw):=by
 refine Def.get ?_
 refine Def.iter (fun g=>∃k:Nat,g=(bw,n,((3+k:Nat):Int))/\k<=4/\∀j,j<k->∀c,bw[3+j]? =some c->gN c=true) (fun g=>(7-g.2.2).toNat) (fun go g A B=>?_) N _ ⟨0,rfl,bg _,fun j u=>absurd u (pc _)⟩ (by show((7:Int)-3).toNat<N;omega)
 obtain⟨k,rfl,J,v⟩:=A
 dsimp only
 by_cases p:k<4
 .rw [aq (by omega:((3+k:Nat):Int)<7),ao,aP (by omega),ag]
  have hm:(hj bw)[k]? =some bw[3+k]:=by rw[Ox d p,bG (by omega)]
  have f:gN bw[3+k]=false->xS n bw=false:=fun e=>by
   unfold xS
   have:(hj bw).all gN=false:=by
    cases s:(hj bw).all gN with
    |false=>rfl
    |true=>
     have:=cz.1 s _ (fY hm)
     rw[e]at this
     cases this
   rw[this,pf]
  refine Def.bif (fun e=>?_) (fun e=>?_)
  .rw [bo]at e
   refine Def.ret (f ?_).symm
   unfold gN
   rw[Bool.and_eq_false_iff]
   exact .inl (an (by omega))
  .rw [decide_eq_false_iff_not]at e
   rw[ag]
   refine Def.bif (fun t=>?_) (fun t=>?_)
   .rw [bo]at t
    refine Def.ret (f ?_).symm
    unfold gN
    rw[Bool.and_eq_false_iff]
    exact .inr (an (by omega))
   .rw [decide_eq_false_iff_not]at t
    refine Def.ite (by unfold fits;omega) (B _ ⟨k+1,by rw[show((3+k:Nat):Int)+1=((3+(k+1):Nat):Int)from by omega],by omega,fun j u c h=>?_⟩ (by dsimp only;omega))
    by_cases C:j=k
    .subst C
     rw[bG (by omega)]at h
     cases h
     unfold gN
     rw[a6]
     exact⟨aq (by omega),aq (by omega)⟩
    .exact v j (by omega) c h
 .have F:k=4:=by omega
  subst F
  have b:(hj bw).all gN=true:=cz.2 fun c h=>by
   obtain⟨i,hi,rfl⟩:=eb.1 h
   rw[HD d]at hi
   refine v i hi _ ?_
   rw[<-Ox d hi,bG]
  have K:=ab7 d b
  have l:=HD d
  have s:nz N (hj bw)=some (h0 (hj bw)):=zW (by omega)
  rw[an (by omega:¬((3+4:Nat):Int)<7),aj,abz d,ag,s,ag,acD (cz.1 b) (fun e=>by rw[e]at l;cases l) (by omega)]
  refine Def.ite (by unfold fits;omega) (Def.ite (by unfold fits;omega) ?_)
  have hw:dV N ((gi 0 (hj bw):Int)-1000) 1 (n-1)=some (decide ((1001:Int)<=(gi 0 (hj bw):Int))&&decide ((gi 0 (hj bw):Int)<=1000+n-1)):=by
   unfold dV
   by_cases x:(1001:Int)<=(gi 0 (hj bw):Int)
   .rw [aq (by omega:(1:Int)<=(gi 0 (hj bw):Int)-1000),ao,aq x,cl]
    congr 1
    exact decide_eq_decide.2 (by omega)
   .rw [an (by omega:¬(1:Int)<=(gi 0 (hj bw):Int)-1000),aj,an x,pf]
  rw[hw,ag]
  refine Def.ret ?_
  unfold xS
  rw[b,cl]
theorem abr {bw:List UInt8} (h:7<=bw.length):cut bw 0 3=some (bw.take 3):=by
 unfold cut
 rw[ai ⟨by omega,by omega,by omega⟩]
 rfl
theorem Oo (N:Nat) (e:16<=N) (bw:List UInt8) (n:Int) (f:0<=n) (g:n<=1000):Bz N bw n=some (lj n bw):=by
 rw[abt]
 unfold Bz
 by_cases a:7<=bw.length
 .rw [an (by omega:¬(bw.length:Int)<7),aj,abr a,ag,aq a,cl]
  have b:=aci N e bw a n f g
  by_cases c:bw.take 3=[103,101,110]
  .rw [aq c,bf,aj,ly,cl]
   exact b
  .rw [an c,dH,ao,ag,fL]
   by_cases d:bw.take 3=[115,101,103]
   .rw [aq d,bf,aj,cl]
    exact b
   .rw [an d,dH,ao,pf]
 .rw [aq (by omega:(bw.length:Int)<7),ao,an a]
  rfl
theorem BB (n:Int) (f:bu) (d:List bu):j1 n (d++ [f])=j1 n d++(bif lj n f.1 then []else [f]):=by
 unfold j1
 rw[jP]
 congr 1
 cases h:lj n f.1 with
 |true=>rw[tM (by rw[h];decide)];rfl
 |false=>rw[tL (by rw[h];rfl)];rfl
theorem q6 {α:Type} {l:List α} {n:Nat} (h:n<l.length):l.take (n+1)=l.take n++ [l[n]]:=by
 rw[List.take_add_one,bG h]
 rfl
theorem acz (N:Nat) (c:16<=N) (d:N<=16777216) (s:List bu) (p:s.length<N) (n:Int) (f:0<=n) (h:n<=1000):Def (Bx N s n) fun r=>r.2=s/\((r.1=-1/\j1 n s=s)\/ ∃i:Nat,r.1=(i:Int)/\i<s.length/\j1 n (s.take (i+1))=s.take i):=by
 unfold Bx
 refine Def.iter (fun g=>∃k:Nat,g=(s,n,(s.length:Int),(k:Int))/\k<=s.length/\j1 n (s.take k)=s.take k) (fun g=>((s.length:Int)-g.2.2.2).toNat) (fun go g j l=>?_) N _ ⟨0,rfl,bg _,rfl⟩ (by show((s.length:Int)-0).toNat<N;omega)
 obtain⟨k,rfl,t,b⟩:=j
 dsimp only
 by_cases a:k<s.length
 .have o:sJ N s[k].1 s[k].2 n=some (lj n s[k].1):=by
   unfold sJ
   rw[Oo N c _ n f h,ag]
  rw[aq (by omega:(k:Int)<s.length),ao,ai ⟨by omega,by omega⟩,eg,bG a,ag,o,ag]
  refine Def.bif (fun e=>Def.ret ⟨rfl,.inr ⟨k,rfl,a,?_⟩⟩) (fun e=>Def.ite (aO (by omega)) (l _ ⟨k+1,by rw[aS],by omega,?_⟩ (by dsimp only;omega)))
  .rw [q6 a,BB,e,b,ao,fe]
  .rw [q6 a,BB,e,b,aj]
 .rw [an (by omega:¬(k:Int)<s.length),aj]
  refine Def.ret ⟨rfl,.inl ⟨rfl,?_⟩⟩
  rwa[jS (by omega)]at b
theorem abw (N:Nat) (x:16<=N) (k:N<=16777216) (s:List bu) (G:s.length<N) (n:Int) (y:0<=n) (z:n<=1000):xY N s n=some (j1 n s):=by
 refine Def.get ?_
 unfold xY
 refine Def.bind (acz N x k s G n y z) fun r ⟨A,h⟩=>?_
 rcases h with⟨o,p⟩|⟨i,o,hi,p⟩
 .rw [o,aq rfl,ao,A]
  exact Def.ret p.symm
 .rw [A,o,an (by omega:¬(i:Int)=-1),aj]
  refine Def.ite (aO (by omega)) ?_
  refine Def.iter (fun g=>∃(a b:Nat) (t:List bu),g=(t,n,(a:Int),(b:Int))/\a<b/\b<=s.length/\t.length=s.length/\t.take a=j1 n (s.take b)/\t.drop b=s.drop b) (fun g=>((s.length:Int)-g.2.2.2).toNat) (fun go g H B=>?_) N _ ⟨i,i+1,s,by rw[aS],by omega,hi,rfl,p.symm,rfl⟩ (by show((s.length:Int)-((i:Int)+1)).toNat<N;omega)
  obtain⟨a,b,t,rfl,I,L,C,u,j⟩:=H
  dsimp only
  by_cases c:b<s.length
  .have d:b<t.length:=by omega
   have F:t[b]=s[b]:=by
    have v:=congrArg (fun l:List bu=>l[0]?) j
    simp only[hV,lC]at v
    rw[bG d,bG c]at v
    exact Option.some.inj v
   have J:sJ N t[b].1 t[b].2 n=some (lj n s[b].1):=by
    unfold sJ
    rw[F,Oo N x _ n y z,ag]
   rw[aq (by omega:(b:Int)<t.length),ao,ai ⟨by omega,by omega⟩,eg,bG d,ag,J,ag]
   have f:t.drop (b+1)=s.drop (b+1):=by
    have:=congrArg (List.drop 1) j
    rwa[qm,qm]at this
   refine Def.bif (fun e=>?_) (fun e=>?_)
   .rw [nZ]at e
    rw[ai ⟨by omega,by omega⟩,eg,bG (by omega:a<t.length),ag]
    refine Def.ite (aO (by omega)) (Def.ite (aO (by omega)) (B _ ⟨a+1,b+1,t.set a t[b],by rw[aS,aS],by omega,c,by rw[pb];exact C,?_,?_⟩ (by dsimp only;omega)))
    .rw [q6 c,BB,e,aj,<-u,q6 (by rw[pb];omega:a<(t.set a t[b]).length),List.getElem_set_self,List.take_set_of_le (bE _),F]
    .rw [List.drop_set_of_lt (by omega)]
     exact f
   .rw [Bool.not_eq_false']at e
    refine Def.ite (aO (by omega)) (B _ ⟨a,b+1,t,by rw[aS],by omega,c,C,?_,f⟩ (by dsimp only;omega))
    rw[q6 c,BB,e,ao,fe]
    exact u
  .have K:b=s.length:=by omega
   subst K
   rw[an (by omega:¬(s.length:Int)<(t.length:Int)),aj]
   refine Def.cut (by omega) (by omega) (by omega) (Def.cut (by omega) (by omega) (by rw[bh,bh,bN];omega) (Def.ret ?_))
   rw[eg,show Int.toNat 0=0 from rfl,rP,e5,List.take_append_of_le_length (by rw[bN];omega),List.take_take,Nat.min_self,u,jS (bE _)]
theorem abB {g:bu} {d:List bu} (h:kT (g::d)):(∀x,x∈d->Op.bytesLess g.1 x.1=true)/\kT d:=en.1 h
theorem Ol (f:bu):∀(d:List bu),kT d->∀(k:Nat) (g:bu),d[k]? =some g->g.1=f.1->hS f d=d.set k f
 | [],_,k,g,b,_=>by simp at b
 |x::d,h,0,g,b,e=>by
  obtain rfl:x=g:=by simpa using b
  unfold hS
  rw[ai e]
  rfl
 |x::d,h,k+1,g,b,e=>by
  obtain⟨j,l⟩:=abB h
  have c:d[k]? =some g:=by simpa using b
  have a:=j g (fY c)
  rw[e]at a
  have i:x.1≠f.1:=fun o=>by rw[o,ui]at a;cases a
  unfold hS
  rw[aC i,ai a,Ol f d l k g c e]
  rfl
theorem Ot (f:bu):∀d:List bu,(∀g,g∈d->g.1≠f.1)->(hS f d).Perm (d++ [f])
 | [],_=>List.Perm.refl _
 |x::d,h=>by
  have a:=Ot f d fun g b=>h g (ch _ b)
  unfold hS
  rw[aC (h x cb)]
  split
  .exact a.cons x
  .exact List.perm_append_singleton f (x::d)|>.symm
theorem aco (N:Nat) (x y:List UInt8):q9 N x y=some (if Op.bytesLess x y then-1 else if Op.bytesLess y x then 1 else 0):=by
 unfold q9
 have h:∀z:List UInt8,sT N z=some false:=fun z=>by unfold sT;simp
 rw[h,h]
 simp only[ag,aj]
 rw[Rb]
 cases a:Op.bytesLess x y
 .cases b:Op.bytesLess y x<;>simp
 .simp
theorem Oj {α β:Type} (f:α->β):∀ {l:List α},l.Pairwise (fun x y=>f x≠f y)->∀ {x y:α},x∈l->y∈l->f x=f y->x=y
 | [],_,x,y,c,_,_=>by cases c
 |z::l,h,x,y,c,hy,e=>by
  obtain⟨g,i⟩:=en.1 h
  rcases bn.1 c with ex|b
  .rcases bn.1 hy with d|a
   .exact ex.trans d.symm
   .exact absurd (ex▸e) (g y a)
  .rcases bn.1 hy with d|a
   .exact absurd (d▸e.symm) (g x b)
   .exact Oj f i b a e
def vy (a b:bu):Bool:=Op.bytesLess a.1 b.1
theorem abV :ih vy:=⟨fun x y h=>LC h,fun x y z h k=>by
 unfold vy at*
 cases a:Op.bytesLess z.1 x.1 with
 |false=>rfl
 |true=>
  by_cases e:x.1=y.1
  .rw [e]at a;rw[a]at k;cases k
  .have b:Op.bytesLess x.1 y.1=true:=wT h (Ne.symm e)
   rw[qD a b]at k
   cases k⟩
theorem abu (N:Nat) (G:64<=N) (f:N<=16777216) (bw t:List UInt8) (b:List bu) (H:b.length+1<N) (hu:kT b):va N bw t b=some (hS (bw,t) b):=by
 refine Def.get ?_
 unfold va
 refine Def.iter (fun g=>∃k:Nat,g=(bw,t,(b.length:Int),(k:Int),b)/\k<=b.length/\∀g,g∈b.take k->g.1≠bw) (fun g=>((b.length:Int)-g.2.2.2.1).toNat) (fun go g p s=>?_) N _ ⟨0,rfl,bg _,fun g c=>by simp at c⟩ (by show((b.length:Int)-0).toNat<N;omega)
 obtain⟨k,rfl,I,d⟩:=p
 dsimp only
 by_cases a:k<b.length
 .rw [aq (by omega:(k:Int)<b.length),ao,ai ⟨by omega,by omega⟩,eg,bG a,ag]
  by_cases e:b[k].1=bw
  .rw [aq e,ao,ai ⟨by omega,by omega⟩,ag]
   refine Def.ret ?_
   rw[Ol (bw,t) b hu k b[k] (bG a) e,e]
  .rw [an e,aj]
   refine Def.ite (aO (by omega)) (s _ ⟨k+1,by rw[aS],a,fun g c=>?_⟩ (by dsimp only;omega))
   rw[q6 a,cE,du]at c
   rcases c with c|rfl
   .exact d g c
   .exact e
 .have u:k=b.length:=by omega
  subst u
  rw[jS (bE _)]at d
  rw[an (by omega:¬(b.length:Int)<(b.length:Int)),aj]
  refine Def.ite (bW (by rw[bS];omega) (by rw[bS];omega)) ?_
  refine Def.bind (arx vy abV N f (by omega) (b++ [(bw,t)]) () ⟨fun x _ y _=>?_⟩ (by rw[bh,bS];omega)) fun r ⟨l,v⟩=>Def.ret ?_
  .have z:j4 N () x y=some (if Op.bytesLess x.1 y.1 then-1 else if Op.bytesLess y.1 x.1 then 1 else 0):=by
    show BA N x.1 x.2 y.1 y.2=_
    unfold BA
    rw[aco,ag]
   refine⟨_,z,?_⟩
   unfold vy
   cases A:Op.bytesLess x.1 y.1 with
   |true=>rfl
   |false=>cases Op.bytesLess y.1 x.1<;>rfl
  .have o:=Ot (bw,t) b d
   have B:=EZ (bw,t) b hu
   have C:(b++ [(bw,t)]).Pairwise fun x y=>x.1≠y.1:=by
    rw[List.pairwise_append]
    refine⟨hu.imp (fun {x y} h e=>by rw[e,ui]at h;cases h),List.pairwise_singleton _ _,fun x i y hy=>?_⟩
    rw[du]at hy
    rw[hy]
    exact d x i
   refine List.Perm.eq_of_pairwise (le:=fun x y=>vy y x=false) (fun x y i hy j F=>?_) v (B.imp fun {x y} h=>LC h) (l.trans o.symm)
   have e:x.1=y.1:=by
    by_cases e:x.1=y.1
    .exact e
    .have:=wT F e
     unfold vy at j
     rw[this]at j
     cases j
   exact Oj (fun x:bu=>x.1) C (l.mem_iff.1 i) (o.mem_iff.1 hy) e
theorem abA (o:Option (List UInt8)):(tf o).2=o.isSome:=by cases o<;>rfl
theorem Of (n:Int):∀(ls:List b9) (k i:Nat) (h:i<ls.length),fH n k (ls.drop i)=(fk n (k:Int),fa ls[i].1.1 ls[i].2)::fH n (k+1) (ls.drop (i+1)):=fun ls k i h=>by
 rw[eY h]
 rfl
theorem OA {n k:Int} (a:0<=n) (b:n<=1000) (c:0<=k) (d:k<=1000):(fk n k).length<=44:=by
 have e:=kc (n:=1000+n) (by omega) (by omega)
 have f:=kc (n:=k) (by omega) (by omega)
 unfold fk
 simp only[bh,ba,bH]
 omega
theorem OC {f:bu} (h:f.1.length<=44):(lV f++ [10]).length<=70:=by
 have a:=FL f.2
 have b:=kc (n:=(mu f.2:Int)) (by omega) (by omega)
 unfold lV
 simp only[bh,ba,bH]
 omega
def rk (a:List bu):List UInt8:=ji (a.map lV)
theorem OB (f:bu) (a:List bu):rk (f::a)=(lV f++ [10])++rk a:=by
 unfold rk
 rw[cw,yx,e5]
 rfl
theorem OD {c:aK} {l:b9} (h:cf (c,[l])=true):(fa l.1.1 l.2).length<=1048576:=(yL h).small
theorem OH (w:Int) (a:List bu) {i:Nat} (hi:i<a.length):fp w (a.take (i+1))=fp w (a.take i)++(bif decide (w<0)||decide ((i:Int)<w)then [a[i]]else []):=by
 unfold fp
 cases hw:decide (w<0)with
 |true=>rw[ao,ao,ly,ao,q6 hi]
 |false=>
  rw[decide_eq_false_iff_not]at hw
  rw[aj,aj,fL,List.take_take,List.take_take]
  by_cases h:(i:Int)<w
  .rw [aq h,ao,Nat.min_eq_right (by omega),Nat.min_eq_right (by omega),q6 hi]
  .rw [an h,aj,pg (by omega),pg (by omega),fe]
theorem OI :∀(a d:List bu),kT d->kT (writeAll a d)
 | [],_,h=>h
 |f::a,d,h=>by rw[zr];exact OI a _ (EZ f d h)
theorem acf (w:Int) (a:List bu):(fp w a).length<=a.length:=by
 unfold fp
 cases decide (w<0)with
 |true=>exact bE _
 |false=>rw[aj,bN];omega
theorem OE (w:Int) (a d:List bu) (i:Nat) (c:a.length<=6) (e:d.length<=24):(writeAll (fp w (a.take i)) d).length<=30:=by
 have f:=VI (fp w (a.take i)) d
 have b:=acf w (a.take i)
 rw[bN]at b
 omega
theorem acI (w:Int) (a d:List bu) (b:a.length<=6) (c:d.length<=24):(writeAll (fp w a) d).length<=30:=by
 have:=OE w a d a.length b c
 rwa[jS (bE _)]at this
theorem OQ (n:Int) (d:List bu):(j1 n d).length<=d.length:=ho _ _
def uw (d:List bu) (x:b8) (w:Int):List bu×Int:=bif l1 d&&cf x then kX d x w else([],-1)
theorem HI {d:List bu} {x:b8} {w:Int} (h:(decide (99<ei d+1)||decide (24<d.length+6))=true):kX d x w=(d,0):=by unfold kX;rw[h];rfl
theorem OS {d:List bu} {x:b8} {w:Int} (h:(decide (99<ei d+1)||decide (24<d.length+6))=false):kX d x w=(bif decide (w<0)||decide (((e7 x (ei d+1:Nat)).length:Int)<w)then j1 (ei d+1:Nat) (writeAll (fp w (e7 x (ei d+1:Nat))) d)else writeAll (fp w (e7 x (ei d+1:Nat))) d,((ei d+1:Nat):Int)):=by unfold kX;rw[h];rfl
theorem acs {c:aK} {l:b9} (h:cf (c,[l])=true):nI c l=fa l.1.1 l.2:=by
 unfold nI
 rw[h]
 rfl
set_option maxHeartbeats 1000000 in
theorem Xy {N:Nat} (ow:1048600<=N) (c:N<=16777216) (d:List bu) (X:n4 d) {x:b8} (F:dC N x) (w:Int):xH N d x.1.1 x.1.2 x.2 w=some (uw d x w):=by
 have Y:bC<N:=by show 1048576<N;omega
 unfold xH uw
 rw[Mj N (by omega) c d X,ag]
 cases z:l1 d with
 |false=>rfl
 |true=>
  rw[bf,aj,sF F,ag]
  cases Q:cf x with
  |false=>rfl
  |true=>
   have P:=JQ z
   have o:d.length<=24:=P.c7
   have Z:x.2.length<=5:=(gu Q).2.1
   have Y5:kT d:=P.up
   have c8:=F.c8
   have aqr:room ([]:List bu).length d.length 32:=bW (by rw[show([]:List bu).length=0 from rfl,gV];omega) (by rw[show([]:List bu).length=0 from rfl,gV];omega)
   rw[bf,aj,fD,ao,ai aqr,fE]
   refine Def.get ?_
   refine Def.iter (fun g=>∃k:Nat,g=(w,((k+1:Nat):Int),d,x.1.1,x.1.2,x.2,d,((oG d k+1:Nat):Int))/\k<=99) (fun g=>(100-g.2.1).toNat) (fun go g p S=>?_) N _ ⟨0,rfl,bg _⟩ (by show((100:Int)-1).toNat<N;omega)
   obtain⟨k,rfl,T⟩:=p
   dsimp only
   by_cases ZQ:k<99
   .rw [aq (by omega:((k+1:Nat):Int)<=99),ao,Gu N _ (by omega) (by omega),ag,Gj N d _ (by omega) c,ag,abA]
    have hm:oG d (k+1)=bif(fi d (fP ((k+1:Nat):Int))).isSome then k+1 else oG d k:=rfl
    cases U:(fi d (fP ((k+1:Nat):Int))).isSome with
    |true=>
     rw[U,ao]at hm
     rw[ao]
     exact Def.ite (by unfold fits;omega) (Def.ite (by unfold fits;omega) (S _ ⟨k+1,by simp only[hm,aS],by omega⟩ (by dsimp only;omega)))
    |false=>
     rw[U,aj]at hm
     rw[aj]
     exact Def.ite (by unfold fits;omega) (S _ ⟨k+1,by simp only[hm,aS],by omega⟩ (by dsimp only;omega))
   .have uB:k=99:=by omega
    subst uB
    have A:ei d<=99:=HJ d 99
    rw[an (by omega:¬((99+1:Nat):Int)<=99),aj,show oG d 99=ei d from rfl]
    by_cases s:99<ei d+1
    .rw [aq (by omega:(99:Int)<((ei d+1:Nat):Int)),ao,HI (by rw[aq s];rfl)]
     exact Def.ret rfl
    .rw [an (by omega:¬(99:Int)<((ei d+1:Nat):Int)),aj,ai (by unfold fits;omega),ai (by unfold fits;omega)]
     by_cases t:24<d.length+6
     .rw [aq (by omega:(24:Int)<d.length+5+1),ao,HI (by rw[aq t,Bool.or_true])]
      exact Def.ret rfl
     .rw [an (by omega:¬(24:Int)<d.length+5+1),aj,OS (by rw[an s,an t];rfl)]
      obtain⟨n,bj⟩:∃n:Int,n=((ei d+1:Nat):Int):=⟨_,rfl⟩
      rw[<-bj]
      have B:0<=n:=by omega
      have C:n<=1000:=by omega
      refine Def.iter (fun g=>∃(i:Nat) (out:List bu) (gen:List UInt8),g=(w,out,gen,x.2,(x.2.length:Int),(i:Int),x.1.1,x.1.2,x.2,d,n)/\i<=x.2.length/\out.length=i/\gen.length<=70*i/\out++fH n i (x.2.drop i)=fH n 0 x.2/\gen++rk (fH n i (x.2.drop i))=rk (fH n 0 x.2)) (fun g=>((x.2.length:Int)-g.2.2.2.2.2.1).toNat) (fun go2 g p G=>?_) N _ ⟨0,[],[],rfl,bg _,rfl,bg _,rfl,rfl⟩ (by show((x.2.length:Int)-0).toNat<N;omega)
      obtain⟨i,out,gen,rfl,hi,cC,bU,u,v⟩:=p
      dsimp only
      by_cases b:i<x.2.length
      .have h:cf (x.1,[x.2[i]])=true:=H4 Q (br b)
       have kQ:dC N (x.1,[x.2[i]]):=MH Y c c8 (xs:=[x.2[i]]) (by simp) (fun l V=>by rw[du]at V;rw[V];exact h)
       have az:=OD h
       have bF:=FL (fa x.2[i].1.1 x.2[i].2)
       have W:=oF N (1000+n) (by omega) (by omega)
       have a2:=oF N (i:Int) (by omega) (by omega)
       have a3:=oF N (mu (fa x.2[i].1.1 x.2[i].2):Int) (by omega) (by omega)
       have ew:=kc (n:=1000+n) (by omega) (by omega)
       have a8:=kc (n:=(i:Int)) (by omega) (by omega)
       have fF:=kc (n:=(mu (fa x.2[i].1.1 x.2[i].2):Int)) (by omega) (by omega)
       have Wz:=OA B C (k:=(i:Int)) (by omega) (by omega)
       have cp:sz N x.1.1 x.1.2 x.2[i].1.1 x.2[i].1.2 x.2[i].2=some (fa x.2[i].1.1 x.2[i].2):=by rw[R8 kQ,acs h]
       unfold jC at W a2 a3
       have c1:([115,101,103]++Lib.itoa (1000+n))++ [120]++Lib.itoa (i:Int)=fk n (i:Int):=rfl
       rw[aq (by omega:(i:Int)<x.2.length),ao,aP b,ag]
       refine Def.ite (by unfold fits;omega) ?_
       rw[W,ag]
       refine Def.ite (by simp only[ba,bH];omega) (Def.ite (by simp only[bh,ba,bH];omega) ?_)
       rw[a2,ag]
       refine Def.ite (by simp only[bh,ba,bH];omega) ?_
       rw[cp,ag,c1]
       refine Def.ite (bW (by rw[bS];omega) (by rw[bS];omega)) (Def.ite (by simp only[ba,bH];omega) ?_)
       rw[L5 N (by omega) _ (by omega) (by omega),ag,a3,ag]
       refine Def.ite (by simp only[bh,ba,bH];omega) (Def.ite (by simp only[bh,ba,bH];omega) (Def.ite (by simp only[bh,ba,bH];omega) (Def.ite (aO (by omega)) (G _ ⟨i+1,out++ [(fk n (i:Int),fa x.2[i].1.1 x.2[i].2)],gen++(lV (fk n (i:Int),fa x.2[i].1.1 x.2[i].2)++ [10]),?_,b,by rw[bh,cC];rfl,?_,?_,?_⟩ (by dsimp only;omega)))))
       .rw [aS]
        rfl
       .have:=OC (f:=(fk n (i:Int),fa x.2[i].1.1 x.2[i].2)) Wz
        rw[bh]
        omega
       .rw [<-u,Of n x.2 i i b,e5]
        rfl
       .rw [<-v,Of n x.2 i i b,OB,e5]
      .rw [mf (by omega)]at u v
       have u:out=fH n 0 x.2:=by rw[<-u];exact(fe _).symm
       have v:gen=rk (fH n 0 x.2):=by rw[<-v];exact(fe _).symm
       rw[an (by omega:¬(i:Int)<x.2.length),aj,Gu N n B C,ag]
       refine Def.ite (by simp only[ba,bH];omega) (Def.ite (bW (by rw[bS];omega) (by rw[bS];omega)) ?_)
       have H:out++ [(fP n,gen++ [101,110,100])]=e7 x n:=by rw[u,v];rfl
       rw[H]
       have I:(e7 x n).length<=6:=by rw[Ap];omega
       generalize e7 x n=a at*
       refine Def.iter (fun g=>∃i:Nat,g=(w,a,a,(a.length:Int),(i:Int),writeAll (fp w (a.take i)) d,n)/\i<=a.length) (fun g=>((a.length:Int)-g.2.2.2.2.1).toNat) (fun J g p y=>?_) N _ ⟨0,by unfold fp;cases decide (w<0)<;>simp[writeAll],bg _⟩ (by show((a.length:Int)-0).toNat<N;omega)
       obtain⟨i,rfl,hi⟩:=p
       have K:=OE w a d i I o
       have L:=OI (fp w (a.take i)) d Y5
       dsimp only
       by_cases b:i<a.length
       .have wr:(decide (w<0)||decide ((i:Int)<w))=true->Def (Option.bind (va N a[i].1 a[i].2 (writeAll (fp w (a.take i)) d)) fun M=>if fits ((i:Int)+1)then J (w,a,a,(a.length:Int),(i:Int)+1,M,n)else none) fun r=>r=(bif decide (w<0)||decide ((a.length:Int)<w)then j1 n (writeAll (fp w a) d)else writeAll (fp w a) d,n):=fun e=>by
         rw[abu N (by omega) c _ _ _ (by omega) L,ag]
         refine Def.ite (aO (by omega)) (y _ ⟨i+1,?_,b⟩ (by dsimp only;omega))
         rw[OH w a b,e,ao,abq,aS]
         rfl
        rw[aq (by omega:(i:Int)<a.length),ao,aP b,ag]
        refine Def.bif (fun hw=>wr (by rw[hw];rfl)) (fun hw=>Def.bif (fun j=>wr (by rw[j,Bool.or_true])) (fun j=>?_))
        refine Def.ite (aO (by omega)) (y _ ⟨i+1,?_,b⟩ (by dsimp only;omega))
        rw[OH w a b,hw,j,Bool.or_false,aj,fe,aS]
       .have dr:fp w (a.take i)=fp w a:=by rw[jS (by omega)]
        rw[an (by omega:¬(i:Int)<a.length),aj]
        rw[dr]at K⊢
        have sq:=OQ n (writeAll (fp w a) d)
        have O:room ([]:List bu).length (j1 n (writeAll (fp w a) d)).length 32:=bW (by rw[show([]:List bu).length=0 from rfl,gV];omega) (by rw[show([]:List bu).length=0 from rfl,gV];omega)
        rw[abw N (by omega) c _ (by omega) n B C,ag,ai O,fE]
        cases decide (w<0)with
        |true=>exact Def.ret rfl
        |false=>cases decide ((a.length:Int)<w)<;>exact Def.ret rfl
end Go.Proofs.YtnkagklajgimlaaGreatDoor
