
import Derived.Test.YtnkagklajgimlaaGreatDoorKZ
import Derived.Test.YtnkagklajgimlaaGreatDoorSC1
import Derived.Test.YtnkagklajgimlaaGreatDoorSE1
import Derived.Test.YtnkagklajgimlaaGreatDoorFS
set_option linter.unusedVariables false
set_option linter.unusedSimpArgs false
namespace Go.Proofs.YtnkagklajgimlaaGreatDoor
open Go.RowKit
structure pN (d:aC):Prop where
 z8:1<=d.1
 rI:d.1<=9999
 eU:d.2.1.length<=3
 gR:d.2.2.length<=3
 f:∀f,f∈d.2.1->okW f.1=true/\fz f.2=true
 a:∀a,a∈d.2.2->okW a.1=true/\0<=a.2/\a.2<=999999999
theorem EY {d:aC} (h:hg d=true):pN d:=by
 unfold hg at h
 simp only[bk,bz]at h
 obtain⟨⟨⟨⟨⟨e,g⟩,r⟩,s⟩,i⟩,j⟩:=h
 refine⟨e,g,by omega,by omega,fun f o=>?_,fun a p=>?_⟩
 .obtain ⟨n,b,rfl⟩:=fe.1 o
  have:=mv i b
  unfold okF at this
  rw[bk,bk,<-oN b]at this
  exact this.1
 .obtain ⟨n,b,rfl⟩:=fe.1 p
  have:=mv j b
  unfold sb at this
  rw[bk,bk,bk,bz,bz,<-vA b]at this
  exact this.1
theorem B8 {s:List UInt8} (h:okW s=true) {c:UInt8} (b:gv (c.toNat:Int)=false):c∉s:=fun hm=>by
 have:=((h7 s).1 h).1 c hm
 rw[b]at this
 cases this
theorem akZ {s:List UInt8} (h:fz s=true):(10:UInt8)∉s:=fun hm=>by
 obtain⟨n,b,e⟩:=fe.1 hm
 unfold fz at h
 rw[bk]at h
 have:=mv h.1 b
 have g:gb s n=10:=by
  unfold gb
  rw[bH b,e]
  rfl
 rw[g]at this
 exact absurd this (by decide)
def eT (d:aC):List UInt8:=[100,111,99,32]++Lib.itoa d.1
def h1 (f:ei):List UInt8:=[102,105,101,108,100,32]++f.1++ [32]++f.2
def h6 (a:gl):List UInt8:=[110,117,109,32]++a.1++ [32]++Lib.itoa a.2
def kB (n:Int):List UInt8:=[100,101,97,100,32]++Lib.itoa n
def kb (d:aC):List (List UInt8):=eT d::(d.2.1.map h1++d.2.2.map h6)
def lp (ad:List aC) (dead:List Int):List (List UInt8):=ad.flatMap kb++dead.map kB
def gd (d:aC):List UInt8:=hC (kb d)
def dn (ad:List aC) (dead:List Int):List UInt8:=hC (lp ad dead)
theorem Ac {n:Int} (e:0<=n):∀c,c∈Lib.itoa n->e1 c=true:=fun c b=>by
 unfold Lib.itoa at b
 rw[aA (by omega)]at b
 exact Ej _ n.toNat (bC _) c b
theorem qk {n:Int} (e:0<=n) {x:UInt8} (b:e1 x=false):x∉Lib.itoa n:=fun h=>by
 rw[Ac e x h]at b
 cases b
theorem vD {n:Int} (b:0<=n) (e:n<1000000000000000000):hM (Lib.itoa n)=n:=by
 unfold Lib.itoa
 rw[aA (by omega),T2 _ (by omega)]
 omega
theorem U8 {d:aC} (g:pN d):(10:UInt8)∉eT d:=by
 unfold eT
 rw[cp,not_or]
 exact⟨by decide,qk (by have:=g.z8;omega) (by decide)⟩
theorem VC {f:ei} (h:okW f.1=true/\fz f.2=true):(10:UInt8)∉h1 f:=by
 unfold h1
 rw[cp,cp,cp,not_or,not_or,not_or]
 exact⟨⟨⟨by decide,B8 h.1 (by decide)⟩,by decide⟩,akZ h.2⟩
theorem akP {a:gl} (h:okW a.1=true/\0<=a.2/\a.2<=999999999):(10:UInt8)∉h6 a:=by
 unfold h6
 rw[cp,cp,cp,not_or,not_or,not_or]
 exact⟨⟨⟨by decide,B8 h.1 (by decide)⟩,by decide⟩,qk h.2.1 (by decide)⟩
theorem UX {n:Int} (h:0<=n):(10:UInt8)∉kB n:=by
 unfold kB
 rw[cp,not_or]
 exact⟨by decide,qk h (by decide)⟩
theorem U7 {d:aC} (g:pN d):∀l,l∈kb d->(10:UInt8)∉l:=fun l b=>by
 unfold kb at b
 rw[bm,cp]at b
 rcases b with rfl|b|b
 .exact U8 g
 .obtain ⟨f,e,rfl⟩:=cd.1 b
  exact VC (g.f f e)
 .obtain ⟨a,h,rfl⟩:=cd.1 b
  exact akP (g.a a h)
theorem aki {ad:List aC} {dead:List Int} (e:∀d,d∈ad->pN d) (g:∀n,n∈dead->0<=n):∀l,l∈lp ad dead->(10:UInt8)∉l:=fun l b=>by
 unfold lp at b
 rw[cp]at b
 rcases b with b|b
 .obtain ⟨d,hm,b⟩:=iY.1 b
  exact U7 (e d hm) l b
 .obtain ⟨n,hm,rfl⟩:=cd.1 b
  exact UX (g n hm)
def iB (d:aC) (line:List UInt8):aC:=
 let k:=ek 32 line
 let m:=ek 32 k.2.1
 bif decide (k.1=[100,111,99])then(hM k.2.1,d.2)else bif decide (k.1=[102,105,101,108,100])then(d.1,d.2.1++ [(m.1,m.2.1)],d.2.2)else bif decide (k.1=[110,117,109])then(d.1,d.2.1,d.2.2++ [(m.1,hM m.2.1)])else d
def mY (ls:List (List UInt8)):aC:=ls.foldl iB (0,[],[])
theorem alG {d:aC} (g:pN d) (e:aC):iB e (eT d)=(d.1,e.2):=by
 have b:ek 32 (eT d)=([100,111,99],Lib.itoa d.1,true):=rh (p:=[100,111,99]) (by decide)
 unfold iB
 rw[b]
 dsimp only
 rw[aq rfl,ao,vD (by have:=g.z8;omega) (by have:=g.rI;omega)]
theorem alH {f:ei} (h:okW f.1=true/\fz f.2=true) (e:aC):iB e (h1 f)=(e.1,e.2.1++ [f],e.2.2):=by
 have b:ek 32 (h1 f)=([102,105,101,108,100],f.1++32::f.2,true):=by
  have g:h1 f=[102,105,101,108,100]++32::(f.1++32::f.2):=by unfold h1;simp
  rw[g,rh (by decide)]
 have i:ek 32 (f.1++32::f.2)=(f.1,f.2,true):=rh (B8 h.1 (by decide))
 unfold iB
 rw[b]
 dsimp only
 rw[i,ak (by decide),aj,aq rfl,ao]
theorem alJ {a:gl} (h:okW a.1=true/\0<=a.2/\a.2<=999999999) (e:aC):iB e (h6 a)=(e.1,e.2.1,e.2.2++ [a]):=by
 have b:ek 32 (h6 a)=([110,117,109],a.1++32::Lib.itoa a.2,true):=by
  have g:h6 a=[110,117,109]++32::(a.1++32::Lib.itoa a.2):=by unfold h6;simp
  rw[g,rh (by decide)]
 have i:ek 32 (a.1++32::Lib.itoa a.2)=(a.1,Lib.itoa a.2,true):=rh (B8 h.1 (by decide))
 unfold iB
 rw[b]
 dsimp only
 rw[i,ak (by decide),aj,ak (by decide),aj,aq rfl,ao,vD h.2.1 (by omega)]
theorem alI (e:aC):iB e []=e:=by
 have b:ek 32 []=([],[],false):=Kw (by decide)
 unfold iB
 rw[b]
 rfl
theorem Rj :∀(b:List ei) (e:aC),(∀f,f∈b->okW f.1=true/\fz f.2=true)->(b.map h1).foldl iB e=(e.1,e.2.1++b,e.2.2)
 | [],e,_=>by simp
 |f::b,e,h=>by
  rw[cv,eR,alH (h f b6),Rj b _ fun x g=>h x (b7 _ g)]
  simp
theorem Rk :∀(gR:List gl) (e:aC),(∀a,a∈gR->okW a.1=true/\0<=a.2/\a.2<=999999999)->(gR.map h6).foldl iB e=(e.1,e.2.1,e.2.2++gR)
 | [],e,_=>by simp
 |a::gR,e,h=>by
  rw[cv,eR,alJ (h a b6),Rk gR _ fun x b=>h x (b7 _ b)]
  simp
theorem Rf {d:aC} (g:pN d):mY (kb d)=d/\mY (kb d++ [[]])=d:=by
 have h:mY (kb d)=d:=by
  unfold mY kb
  rw[eR,alG g,hU,Rj _ _ g.f,Rk _ _ g.a]
  simp
 refine⟨h,?_⟩
 unfold mY at h⊢
 rw[hU,h]
 exact alI d
def kC :List UInt8:=[100,101,97,100,32]
def tn :List UInt8:=[100,111,99,32]
def gr (l:List UInt8):Bool:= !tn.isPrefixOf l&& !kC.isPrefixOf l
def fH :List (List UInt8)->List aC×List Int
 | []=>([],[])
 |l::ls=>bif kC.isPrefixOf l then((fH ls).1,hM (l.drop 5)::(fH ls).2)else
   (bif !decide (l=[])then mY (l::ls.takeWhile gr)::(fH (ls.dropWhile gr)).1 else(fH (ls.dropWhile gr)).1,(fH (ls.dropWhile gr)).2)
termination_by ls => ls.length
decreasing_by
 all_goals simp_wf
 all_goals first
  |exact Nat.lt_succ_of_le (List.dropWhile_sublist _).length_le
  |omega
theorem KB (n:Int):kC.isPrefixOf (kB n)=true/\(kB n).drop 5=Lib.itoa n/\gr (kB n)=false:=by
 have h:kB n=100::101::97::100::32::Lib.itoa n:=rfl
 rw[h]
 refine⟨by simp[kC,List.isPrefixOf],rfl,by simp[gr,kC,tn,List.isPrefixOf]⟩
theorem KI (d:aC):kC.isPrefixOf (eT d)=false/\eT d≠ []/\gr (eT d)=false:=by
 have h:eT d=100::111::99::32::Lib.itoa d.1:=rfl
 rw[h]
 refine⟨by simp[kC,List.isPrefixOf],by simp,by simp[gr,kC,tn,List.isPrefixOf]⟩
theorem Qj (d:aC):∀l,l∈d.2.1.map h1++d.2.2.map h6->gr l=true:=fun l b=>by
 rw[cp]at b
 rcases b with b|b
 .obtain ⟨f,_,rfl⟩:=cd.1 b
  have h:h1 f=102::105::101::108::100::32::(f.1++ [32]++f.2):=by unfold h1;simp
  rw[h]
  simp[gr,kC,tn,List.isPrefixOf]
 .obtain ⟨a,_,rfl⟩:=cd.1 b
  have h:h6 a=110::117::109::32::(a.1++ [32]++Lib.itoa a.2):=by unfold h6;simp
  rw[h]
  simp[gr,kC,tn,List.isPrefixOf]
theorem Jr {ms rest:List (List UInt8)} (h:∀l,l∈ms->gr l=true) (b:∀l ls,rest=l::ls->gr l=false):(ms++rest).takeWhile gr=ms/\(ms++rest).dropWhile gr=rest:=by
 induction ms with
 |nil=>
  cases rest with
  |nil=>exact⟨rfl,rfl⟩
  |cons l ls=>
   have:=b l ls rfl
   simp[this]
 |cons m ms e=>
  have:=e fun l g=>h l (b7 _ g)
  have hm:=h m b6
  rw[jZ,List.takeWhile_cons,List.dropWhile_cons,hm]
  simp[this.1,this.2]
theorem Ri :fH [[]]=([],[]):=by
 rw[fH]
 have h:kC.isPrefixOf ([]:List UInt8)=false:=rfl
 rw[h,aj]
 rw[show([]:List (List UInt8)).dropWhile gr=[]from rfl,fH]
 rfl
theorem Rg :∀dead:List Int,(∀n,n∈dead->0<=n/\n<=999999999)->fH (dead.map kB++ [[]])=([],dead)
 | [],_=>Ri
 |n::dead,h=>by
  obtain⟨b,e,_⟩:=KB n
  have g:=h n b6
  rw[cv,jZ,fH,b,ao,e,Rg dead fun x i=>h x (b7 _ i),vD g.1 (by omega)]
theorem Rh :∀(ad:List aC) (dead:List Int),(∀d,d∈ad->pN d)->(∀n,n∈dead->0<=n/\n<=999999999)->fH (lp ad dead++ [[]])=(ad,dead)
 | [],dead,_,j=>Rg dead j
 |d::ad,dead,p,j=>by
  have g:=p d b6
  obtain⟨s,u,z⟩:=KI d
  have b:=Rh ad dead (fun x v=>p x (b7 _ v)) j
  have e:lp (d::ad) dead++ [[]]=eT d::((d.2.1.map h1++d.2.2.map h6)++(lp ad dead++ [[]])):=by
   unfold lp
   rw[lG]
   unfold kb
   simp
  rw[e,fH,s,aj,ak u,dt,ao]
  by_cases r:lp ad dead=[]
  .rw [r,fj]at b⊢
   have hm:∀l,l∈(d.2.1.map h1++d.2.2.map h6)++ [[]]->gr l=true:=fun l i=>by
    rw[cp,c1]at i
    rcases i with i|rfl
    .exact Qj d l i
    .rfl
   have w:=Jr (rest:=[]) hm (fun l ls h=>by cases h)
   rw[e5]at w
   rw[w.1,w.2]
   have o:eT d::((d.2.1.map h1++d.2.2.map h6)++ [[]])=kb d++ [[]]:=rfl
   rw[o,(Rf g).2]
   rw[Ri]at b
   obtain⟨i1,i2⟩:=Prod.mk.inj b
   rw[fH,<-i1,<-i2]
  .have y:∀l ls,lp ad dead++ [[]]=l::ls->gr l=false:=fun l ls h=>by
    cases ad with
    |cons d2 ad=>
     have:l=eT d2:=by
      unfold lp at h
      rw[lG]at h
      unfold kb at h
      simp only[jZ]at h
      exact(List.cons.inj h).1.symm
     rw[this]
     exact(KI d2).2.2
    |nil=>
     cases dead with
     |nil=>exact absurd rfl r
     |cons n dead=>
      have:l=kB n:=by
       have h:kB n::(dead.map kB++ [[]])=l::ls:=h
       exact(List.cons.inj h).1.symm
      rw[this]
      exact(KB n).2.2
   have w:=Jr (Qj d) y
   rw[w.1,w.2,b]
   have o:eT d::(d.2.1.map h1++d.2.2.map h6)=kb d:=rfl
   rw[o,(Rf g).1]
def qz (s:List UInt8):Int:=bif s.all e1&&(decide (s.length<=9)&&(decide (s≠ [])&& !(decide (1<s.length)&&decide (s.head? =some 48))))then(eL 0 s:Int)else-1
theorem y1 :∀(k u:Nat),1<=k->u<10^k->(Lib.decDigits u).length<=k
 |k,u,b,h=>by
  rw[lT]
  by_cases hu:u<10
  .rw [ai hu]
   exact b
  .rw [aA hu,a1,bS]
   match k,b with
   |1,_=>rw[Nat.pow_one]at h;omega
   |k+2,_=>
    have:=y1 (k+1) (u/10) (by omega) (by rw[Nat.pow_succ]at h;omega)
    omega
abbrev TG :Type:=List aC×List Int×List UInt8
theorem TP {c:aL} {l:b0} (h:gG c l=true):0<(alive l).length:=by
 rw[<-Qy]at h
 simp only[bk,bz]at h
 exact h.2.2.2
def mW (c:aL) (l:b0):List UInt8:=bif ct (c,[l])then dn l.1.1 l.2 else []
def jn (c:aL) (ad:List aC):cB:=bif dQ c&&eM ad then(ad,eo c ad)else([],[])
def mB (c:aL) (s:List UInt8):Option b0:=
 let r:=fH (cutAt 10 s)
 let l:b0:=(jn c r.1,r.2)
 bif !decide (s=[])&&decide (mW c l=s)then some l else none
structure k3 (c:aL) (l:b0):Prop where
 Ko:dQ c=true
 ad:eM l.1.1=true
 fg:l.1.2=eo c l.1.1
 some:0<l.1.1.length
 cS:l.1.1.length<=16
 dead:l.2.length<=60
 uI:∀n,n∈l.2->0<=n/\n<=999999999
theorem xD {c:aL} {l:b0} (h:ct (c,[l])=true):k3 c l:=by
 obtain⟨g,p,i,r⟩:=gg h
 have b:gG c l=true:=cA.1 i l b6
 obtain⟨e,j,o,_⟩:=sc b
 have s:=TP b
 have hle:(alive l).length<=l.1.1.length:=by unfold alive;exact hK _ _
 have hu:hF l.2=true:=by
  unfold gG at b
  rw[bk,bk]at b
  exact b.2.1
 exact⟨g,uL e,(iy e).2.2,by omega,j,o,(pz hu).2.2⟩
theorem p5 {α β:Type} (f:α->List β) (k:Nat):∀l:List α,(∀x,x∈l->(f x).length<=k)->(l.flatMap f).length<=l.length*k
 | [],_=>by simp
 |x::l,h=>by
  have b:=h x b6
  have e:=p5 f k l fun y hy=>h y (b7 _ hy)
  rw[lG,a1,aZ,ey]
  omega
theorem k3.p7 {c:aL} {l:b0} (h:k3 c l):∀d,d∈l.1.1->pN d:=fun d b=>EY (n4 h.ad d b)
theorem k3.cut {c:aL} {l:b0} (h:k3 c l):cutAt 10 (dn l.1.1 l.2)=lp l.1.1 l.2++ [[]]:=Ky (aki h.p7 fun n b=>(h.uI n b).1)
theorem k3.alF {c:aL} {l:b0} (h:k3 c l):fH (cutAt 10 (dn l.1.1 l.2))=(l.1.1,l.2):=by rw[h.cut,Rh _ _ h.p7 h.uI]
theorem k3.ne {c:aL} {l:b0} (h:k3 c l):dn l.1.1 l.2≠ []:=by
 have b:=h.some
 obtain⟨⟨ad,fg⟩,dead⟩:=l
 cases ad with
 |nil=>simp at b
 |cons d ad=>
  unfold dn lp
  rw[lG]
  unfold kb
  rw[jZ,jZ,uw]
  simp
theorem k3.cQ {c:aL} {l:b0} (h:k3 c l):jn c l.1.1=l.1:=by
 unfold jn
 rw[h.Ko,h.ad,pB,ao,<-h.fg]
theorem Lm {c:aL} {s:List UInt8} {l:b0} (h:mB c s=some l):ct (c,[l])=true/\dn l.1.1 l.2=s:=by
 unfold mB at h
 dsimp only at h
 cases e: !decide (s=[])&&decide (mW c (jn c (fH (cutAt 10 s)).1,(fH (cutAt 10 s)).2)=s)with
 |false=>rw[e]at h;cases h
 |true=>
  rw[e,ao,ic]at h
  rw[h,bk,bz]at e
  obtain⟨g,b⟩:=e
  unfold mW at b
  cases i:ct (c,[l])with
  |true=>
   rw[i,ao]at b
   exact⟨rfl,b⟩
  |false=>
   rw[i,aj]at b
   rw[<-b]at g
   exact absurd g (by decide)
theorem V4 {c:aL} {l:b0} (h:ct (c,[l])=true):mB c (dn l.1.1 l.2)=some l:=by
 have o:=xD h
 unfold mB
 dsimp only
 rw[o.alF]
 dsimp only
 have e:((jn c l.1.1,l.2):b0)=l:=by rw[o.cQ]
 rw[e]
 unfold mW
 rw[h,ao,aq rfl,ak o.ne]
 rfl
theorem KE :∀u:Nat,u<10->bytesOf [IntKind.u8.wrap (48+(u:Int))]=[UInt8.ofNat (48+u)]:=by decide
theorem U1 (u:Nat):Lib.decDigits u=if u<10 then [UInt8.ofNat (48+u)]else Lib.decDigits (u/10)++ [UInt8.ofNat (48+u%10)]:=by
 rw[Lib.decDigits]
 by_cases h:u<10
 .rw [dif_pos h,ai h]
 .rw [dif_neg h,aA h]
theorem Ee (N:Nat):∀(D u:Nat),D<=100000000->u<10^(D+1)->(u:Int)<=9223372036854775807->kR N (D+1) (u:Int)=some (Lib.decDigits u)/\(Lib.decDigits u).length<=D+1
 |D,u,r,b,s=>by
  rw[U1,kR,ak (by omega:¬(u:Int)< -9223372036854775807),aj,ak (by omega:¬(u:Int)<0),aj]
  by_cases h:u<10
  .rw [aq (by omega:(u:Int)<10),ao,ai h,ai (by unfold fits;omega),KE u h]
   exact⟨rfl,by simp⟩
  .rw [ak (by omega:¬(u:Int)<10),aj,aA h]
   have g:D≠0:=fun e=>by
    subst e
    rw[Nat.pow_succ,Nat.pow_zero]at b
    omega
   obtain⟨E,rfl⟩:∃E,D=E+1:=⟨D-1,by omega⟩
   have i:(u:Int).tdiv 10=((u/10:Nat):Int):=rfl
   have j:(u:Int).tmod 10=((u%10:Nat):Int):=rfl
   have hm:u%10<10:=mn _ (by decide)
   obtain⟨o,v⟩:=Ee N E (u/10) (by omega) (by rw[Nat.pow_succ]at b;omega) (by omega)
   have p:(Lib.decDigits (u/10)).length+1<=E+1+1:=by omega
   rw[i,j,ai (by decide:(10:Nat)≠0),ai (by unfold fits;omega),o,af,ai (by decide:(10:Nat)≠0),ai (by unfold fits;omega),KE _ hm,ai (by rw[bS];omega)]
   exact⟨rfl,by rw[a1,bS];exact p⟩
theorem UZ :Lib.itoa (-9223372036854775808)=[45,57,50,50,51,51,55,50,48,51,54,56,53,52,55,55,53,56,48,56]:=by
 unfold Lib.itoa
 rw[ai (by decide)]
 simp[Lib.decDigits]
theorem rj (N D:Nat) (o:25<=D) (h:D<=16777216) (n:Int) (p: -9223372036854775808<=n) (r:n<=9223372036854775807):kR N D n=some (kh n):=by
 obtain⟨E,rfl⟩:∃E,D=E+2:=⟨D-2,by omega⟩
 have s:(10:Nat)^19<=10^(E+1):=yj (by decide) (by omega)
 have i:(10:Nat)^(E+1)<=10^(E+2):=yj (by decide) (by omega)
 have u:(10:Nat)^19=10000000000000000000:=by decide
 unfold kh
 by_cases g:n<0
 .rw [kR]
  by_cases hm:n< -9223372036854775807
  .obtain rfl:n=-9223372036854775808:=by omega
   rw[aq hm,ao,UZ]
  .have e:(0:Int)-n=((n.natAbs:Nat):Int):=by omega
   obtain⟨b,j⟩:=Ee N E n.natAbs (by omega) (by omega) (by omega)
   rw[ak hm,aj,aq g,ao,ai (by unfold fits;omega),e,b,af,ai (by rw[bS];omega)]
   unfold Lib.itoa
   rw[ai g]
   rfl
 .have e:n=((n.toNat:Nat):Int):=by omega
  obtain⟨b,j⟩:=Ee N (E+1) n.toNat (by omega) (by omega) (by omega)
  unfold Lib.itoa
  rw[aA g]
  rw[<-e]at b
  exact b
theorem ql (N:Nat) (n:Int) (b: -9223372036854775808<=n) (e:n<=9223372036854775807):mO N n=some (kh n):=by
 unfold mO wR
 rw[ai ⟨b,e⟩]
theorem anF :∀u:Nat,u<10->IntKind.i64.wrap (IntKind.u8.wrap (u:Int))=(u:Int):=by decide
theorem Qr :∀(l:List UInt8) (acc:Nat),(∀c,c∈l->e1 c=true)->eL acc l<(acc+1)*10^l.length
 | [],acc,_=>by show acc<(acc+1)*1;omega
 |c::l,acc,h=>by
  have b:=h c b6
  unfold e1 at b
  rw[bk,bz,bz]at b
  have e:eL acc (c::l)=eL (acc*10+(c.toNat-48)) l:=rfl
  have g:=Qr l (acc*10+(c.toNat-48)) fun x i=>h x (b7 _ i)
  rw[e,aZ,Nat.pow_succ,k0 (10^l.length) 10,<-Nat.mul_assoc]
  exact kZ g (eh _ (by omega))
theorem akQ (N:Nat) (s:List UInt8) (H:s.length<N):uW N s=some (qz s):=by
 unfold uW
 refine Def.get ?_
 refine Def.iter (fun g=>∃i:Nat,g=(s,(eL 0 (s.take i):Int),(i:Int))/\i<=s.length/\i<=9/\∀c,c∈s.take i->e1 c=true) (fun g=>s.length-g.2.2.toNat) (fun go g z A=>?_) N _ ⟨0,rfl,bg _,bg _,fun c h=>by simp at h⟩ (by dsimp only;omega)
 obtain⟨i,rfl,o,I,j⟩:=z
 dsimp only
 by_cases hi:i<s.length
 .rw [aq (by omega:(i:Int)<s.length),ao,aO hi,af]
  cases b:e1 s[i]with
  |false=>
   have y:(-1:Int)=qz s:=by
    have p:s.all e1=false:=by
     rw[List.all_eq_false]
     exact⟨s[i],bA hi,by rw[b];decide⟩
    unfold qz
    rw[p]
    rfl
   unfold e1 at b
   refine Def.bL (fun _=>Def.ret y) (fun J=>?_)
   rw[af]
   refine Def.bL (fun _=>Def.ret y) (fun K=>?_)
   rw[aq (by omega),aq (by omega)]at b
   cases b
  |true=>
   have r:=b
   unfold e1 at b
   rw[bk,bz,bz]at b
   rw[ak (by omega:¬((s[i]).toNat:Int)<48),aj,af,ak (by omega:¬(57:Int)<((s[i]).toNat:Int)),aj]
   by_cases L:i=9
   .rw [aq (by omega:(9:Int)<=(i:Int)),ao]
    refine Def.ret ?_
    unfold qz
    rw[ak (by omega:¬s.length<=9),ov,pE]
    rfl
   .rw [ak (by omega:¬(9:Int)<=(i:Int)),aj]
    have B:=Qr (s.take i) 0 j
    have M:(10:Nat)^(s.take i).length<=10^9:=yj (by decide) (by rw[bX];omega)
    have C:(10:Nat)^9=1000000000:=by decide
    have hw:IntKind.i64.wrap (IntKind.u8.wrap (((s[i]).toNat:Int)-48))=(((s[i]).toNat-48:Nat):Int):=by
     rw[show((s[i]).toNat:Int)-48=(((s[i]).toNat-48:Nat):Int)from by omega]
     exact anF _ (by omega)
    rw[ai (by unfold fits;omega),af,hw,ai (by unfold fits;omega),ai (aN (by omega))]
    refine A _ ⟨i+1,?_,hi,by omega,fun c h=>?_⟩ ?_
    .rw [ec hi,Qq,aR]
     have:eL (eL 0 (s.take i)) [s[i]]=eL 0 (s.take i)*10+((s[i]).toNat-48):=rfl
     rw[this]
     simp only[Prod.mk.injEq,true_and,and_true]
     omega
    .rw [ec hi,cp,c1]at h
     rcases h with h|rfl
     .exact j c h
     .exact r
    .dsimp only
     omega
 .rw [ak (by omega:¬(i:Int)<s.length),aj]
  have e:i=s.length:=by omega
  rw[e,cl]at j⊢
  have p:s.all e1=true:=cA.2 j
  have F:s.length<=9:=by omega
  cases s with
  |nil=>
   refine Def.ret ?_
   rfl
  |cons x l=>
   have u:(x::l:List UInt8)≠ []:=by simp
   rw[ak (by rw[aZ];omega:¬(((x::l).length:Nat):Int)=0),aj]
   unfold qz
   rw[p,aq F,aq u,ck,ck,ck]
   by_cases o:1<(x::l).length
   .rw [aq (by omega:(1:Int)<(((x::l).length:Nat):Int)),ao,aq o,ck]
    have G:idx (x::l) 0=some x:=rfl
    rw[G,af]
    by_cases v:x=48
    .subst v
     exact Def.ret rfl
    .rw [ak (fun e=>v (UInt8.toNat_inj.1 (by have:(48:UInt8).toNat=48:=rfl;omega))),aj,ak (by simpa using v)]
     exact Def.ret rfl
   .rw [ak (by omega:¬(1:Int)<(((x::l).length:Nat):Int)),aj,ak o]
    exact Def.ret rfl
theorem qF {α h ρ:Type} (f:α->List UInt8) (l:List α) {N:Nat} (j:l.length<N) (F:(h->Option ρ)->h->Option ρ) (st:List UInt8->Int->h) (pre:List UInt8) (res:Option ρ) (g:∀go,F go (st (pre++l.flatMap f) (l.length:Int))=res)
  (b:∀go (m:Nat) (hm:m<l.length),F go (st (pre++(l.take m).flatMap f) (m:Int))=go (st ((pre++(l.take m).flatMap f)++f l[m]) ((m:Int)+1))):iter F N (st pre 0)=res:=by
 have e:st pre 0=st (pre++(l.take 0).flatMap f) ((0:Nat):Int):=by simp
 rw[e]
 refine(dB F l.length (fun m=>st (pre++(l.take m).flatMap f) (m:Int)) (fun _=>res) (fun go=>?_) (fun go m hm i=>?_) N 0 (bg _) (by omega)).trans rfl
 .rw [cl]
  exact g go
 .rw [b go m hm,<-i,ec hm,List.flatMap_append,dJ,aR]
  simp
theorem zb {α:Type} (f:α->List UInt8) (k B:Nat) (l:List α) (h:∀x,x∈l->(f x).length<=k) (e:l.length*k<=B) (m:Nat):((l.take m).flatMap f).length<=B:=by
 have g:=p5 f k (l.take m) fun x b=>h x (fK b)
 have i:(l.take m).length*k<=l.length*k:=eh _ (by rw[bX];omega)
 omega
theorem gU {n:Int} (b: -9223372036854775808<=n) (e:n<=9223372036854775807):(Lib.itoa n).length<=20:=by
 have g:(10:Nat)^19=10000000000000000000:=by decide
 unfold Lib.itoa
 split
 .have:=y1 19 n.natAbs (by decide) (by omega)
  rw[aZ]
  omega
 .have:=y1 19 n.toNat (by decide) (by omega)
  omega
def gn (f:ei):List UInt8:=h1 f++ [10]
def iQ (a:gl):List UInt8:=h6 a++ [10]
def iI (n:Int):List UInt8:=kB n++ [10]
theorem HG {α:Type} (f:α->List UInt8) (l:List α):hC (l.map f)=l.flatMap fun x=>f x++ [10]:=by
 unfold hC
 rw[List.flatMap_map]
theorem y3 (d:aC):gd d=(eT d++ [10]++d.2.1.flatMap gn)++d.2.2.flatMap iQ:=by
 unfold gd kb
 rw[uw,P2,HG,HG]
 show _=(eT d++ [10]++d.2.1.flatMap fun x=>h1 x++ [10])++d.2.2.flatMap fun x=>h6 x++ [10]
 simp
theorem BW (ad:List aC) (dead:List Int):dn ad dead=ad.flatMap gd++dead.flatMap iI:=by
 unfold dn lp
 rw[P2,HG]
 have e:hC (ad.flatMap kb)=ad.flatMap gd:=by
  unfold hC gd
  rw[List.flatMap_assoc]
  rfl
 rw[e]
 rfl
structure jb (d:aC):Prop where
 id: -9223372036854775808<=d.1/\d.1<=9223372036854775807
 eU:d.2.1.length<=1048576
 gR:d.2.2.length<=1048576
 f:∀f,f∈d.2.1->f.1.length<=1048576/\f.2.length<=1048576
 a:∀a,a∈d.2.2->a.1.length<=1048576/\ -9223372036854775808<=a.2/\a.2<=9223372036854775807
theorem jb.of {d:aC} (h:cz bF fE d):jb d:=
 ⟨h.1,h.2.1.1,h.2.2.1,fun f e=>h.2.1.2 f e,fun a b=>⟨(h.2.2.2 a b).1,(h.2.2.2 a b).2⟩⟩
theorem jb.Vy {d:aC} (h:jb d):∀f,f∈d.2.1->(gn f).length<=2097160:=fun f b=>by
 have:=h.f f b
 unfold gn h1
 simp only[a1,aZ,bE]
 omega
theorem jb.ne {d:aC} (h:jb d):∀a,a∈d.2.2->(iQ a).length<=2097160:=fun a e=>by
 have b:=h.a a e
 have g:=gU b.2.1 b.2.2
 unfold iQ h6
 simp only[a1,aZ,bE]
 omega
theorem jb.vR {d:aC} (h:jb d) (m:Nat):((d.2.1.take m).flatMap gn).length<=2199031644160:=zb gn 2097160 _ _ h.Vy (by have:=eh 2097160 h.eU;omega) m
theorem jb.uD {d:aC} (h:jb d) (m:Nat):((d.2.2.take m).flatMap iQ).length<=2199031644160:=zb iQ 2097160 _ _ h.ne (by have:=eh 2097160 h.gR;omega) m
theorem jb.head {d:aC} (h:jb d):(eT d++ [10]).length<=25:=by
 have b:=gU h.id.1 h.id.2
 unfold eT
 simp only[a1,aZ,bE]
 omega
theorem jb.len {d:aC} (h:jb d):(gd d).length<=4398063288400:=by
 have g:=h.head
 have b:=h.vR d.2.1.length
 have e:=h.uD d.2.2.length
 rw[cl]at b e
 rw[y3,a1,a1]
 omega
theorem alq (N:Nat) (A:1048576<N) (r:N<=16777216) (d:aC) (h:jb d):CS N d.1 d.2.1 d.2.2=some (gd d):=by
 have s:=rj N N (by omega) (by omega) d.1 h.id.1 h.id.2
 have B:=h.head
 have u:=h.eU
 have v:=h.gR
 have x:=gU h.id.1 h.id.2
 have j:=h.vR d.2.1.length
 rw[cl]at j
 unfold CS
 rw[s,af]
 unfold kh
 rw[ai (by simp only[a1,aZ,bE];omega),ai (by simp only[a1,aZ,bE];omega)]
 have y:([100,111,99,32]++Lib.itoa d.1++ [10]:List UInt8)=eT d++ [10]:=rfl
 rw[y]
 refine qF gn d.2.1 (by omega) _ (fun out i=>(out,i,d.1,d.2.1,d.2.2)) (eT d++ [10]) _ (fun go=>?_) (fun go m hm=>?_)
 .dsimp only
  rw[ak (bp _),aj]
  refine qF iQ d.2.2 (by omega) _ (fun out i=>(out,i,d.1,d.2.1,d.2.2)) (eT d++ [10]++d.2.1.flatMap gn) _ (fun go=>?_) (fun go m hm=>?_)
  .dsimp only
   rw[ak (bp _),aj,y3]
  .have e:=h.a _ (bA hm)
   have o:=h.uD m
   have z:=gU e.2.1 e.2.2
   have g:=rj N N (by omega) (by omega) _ e.2.1 e.2.2
   unfold kh at g
   have b:(eT d++ [10]++d.2.1.flatMap gn++(d.2.2.take m).flatMap iQ).length<=5000000000000:=by
    rw[a1,a1]
    omega
   have p:eT d++ [10]++d.2.1.flatMap gn++(d.2.2.take m).flatMap iQ++iQ d.2.2[m]=eT d++ [10]++d.2.1.flatMap gn++(d.2.2.take m).flatMap iQ++ [110,117,109,32]++d.2.2[m].1++ [32]++Lib.itoa d.2.2[m].2++ [10]:=by
    unfold iQ h6
    simp only[dJ]
   rw[p]
   generalize eT d++ [10]++d.2.1.flatMap gn++(d.2.2.take m).flatMap iQ=out at b⊢
   dsimp only
   rw[aq (by omega:(m:Int)<d.2.2.length),ao,aO hm,af,af,g,af]
   rw[ai (by simp only[a1,aZ,bE];omega),ai (by simp only[a1,aZ,bE];omega),ai (by simp only[a1,aZ,bE];omega),ai (by simp only[a1,aZ,bE];omega),ai (by simp only[a1,aZ,bE];omega),ai (aN (n:=m) (by omega))]
 .have e:=h.f _ (bA hm)
  have o:=h.vR m
  have b:(eT d++ [10]++(d.2.1.take m).flatMap gn).length<=5000000000000:=by
   rw[a1]
   omega
  have p:eT d++ [10]++(d.2.1.take m).flatMap gn++gn d.2.1[m]=eT d++ [10]++(d.2.1.take m).flatMap gn++ [102,105,101,108,100,32]++d.2.1[m].1++ [32]++d.2.1[m].2++ [10]:=by
   unfold gn h1
   simp only[dJ]
  rw[p]
  generalize eT d++ [10]++(d.2.1.take m).flatMap gn=out at b⊢
  dsimp only
  rw[aq (by omega:(m:Int)<d.2.1.length),ao,aO hm,af,af]
  rw[ai (by simp only[a1,aZ,bE];omega),ai (by simp only[a1,aZ,bE];omega),ai (by simp only[a1,aZ,bE];omega),ai (by simp only[a1,aZ,bE];omega),ai (by simp only[a1,aZ,bE];omega),ai (aN (n:=m) (by omega))]
theorem alp (N:Nat) (B:1048576<N) (r:N<=16777216) (d:aC) (h:jb d) (s:oW N d.1 d.2.1 d.2.2=some true):zT N d.1 d.2.1 d.2.2=some (gd d):=by
 have u:=ql N d.1 h.id.1 h.id.2
 have C:=h.head
 have v:=h.eU
 have x:=h.gR
 have y:=gU h.id.1 h.id.2
 have j:=h.vR d.2.1.length
 rw[cl]at j
 unfold zT
 rw[s,af,bn,aj,u,af]
 unfold kh
 rw[ai (by simp only[a1,aZ,bE];omega),ai (by simp only[a1,aZ,bE];omega)]
 have z:([100,111,99,32]++Lib.itoa d.1++ [10]:List UInt8)=eT d++ [10]:=rfl
 rw[z]
 refine qF gn d.2.1 (by omega) _ (fun out i=>(out,d.2.1,(d.2.1.length:Int),i,d.1,d.2.1,d.2.2)) (eT d++ [10]) _ (fun go=>?_) (fun go m hm=>?_)
 .dsimp only
  rw[ak (bp _),aj]
  refine qF iQ d.2.2 (by omega) _ (fun out i=>(out,d.2.2,(d.2.2.length:Int),i)) (eT d++ [10]++d.2.1.flatMap gn) _ (fun go=>?_) (fun go m hm=>?_)
  .dsimp only
   rw[ak (bp _),aj,y3]
  .have e:=h.a _ (bA hm)
   have o:=h.uD m
   have A:=gU e.2.1 e.2.2
   have g:=ql N _ e.2.1 e.2.2
   unfold kh at g
   have b:(eT d++ [10]++d.2.1.flatMap gn++(d.2.2.take m).flatMap iQ).length<=5000000000000:=by
    rw[a1,a1]
    omega
   have p:iQ d.2.2[m]=[110,117,109,32]++d.2.2[m].1++ [32]++Lib.itoa d.2.2[m].2++ [10]:=rfl
   rw[p]
   generalize eT d++ [10]++d.2.1.flatMap gn++(d.2.2.take m).flatMap iQ=out at b⊢
   dsimp only
   rw[aq (by omega:(m:Int)<d.2.2.length),ao,aO hm,af]
   rw[ai (by simp only[a1,aZ,bE];omega),ai (by simp only[a1,aZ,bE];omega),g,af,ai (by simp only[a1,aZ,bE];omega),ai (by simp only[a1,aZ,bE];omega),ai (by simp only[a1,aZ,bE];omega),ai (aN (n:=m) (by omega))]
 .have e:=h.f _ (bA hm)
  have o:=h.vR m
  have b:(eT d++ [10]++(d.2.1.take m).flatMap gn).length<=5000000000000:=by
   rw[a1]
   omega
  have p:gn d.2.1[m]=[102,105,101,108,100,32]++d.2.1[m].1++ [32]++d.2.1[m].2++ [10]:=rfl
  rw[p]
  generalize eT d++ [10]++(d.2.1.take m).flatMap gn=out at b⊢
  dsimp only
  rw[aq (by omega:(m:Int)<d.2.1.length),ao,aO hm,af]
  rw[ai (by simp only[a1,aZ,bE];omega),ai (by simp only[a1,aZ,bE];omega),ai (by simp only[a1,aZ,bE];omega),ai (by simp only[a1,aZ,bE];omega),ai (by simp only[a1,aZ,bE];omega),ai (aN (n:=m) (by omega))]
theorem Ed {n:Int} (b: -9223372036854775808<=n) (e:n<=9223372036854775807):(iI n).length<=26:=by
 have:=gU b e
 unfold iI kB
 simp only[a1,aZ,bE]
 omega
structure pP (ad:List aC) (dead:List Int):Prop where
 d:∀d,d∈ad->jb d
 cS:ad.length<=100000
 n:∀n,n∈dead-> -9223372036854775808<=n/\n<=9223372036854775807
 small:dead.length<=1048576
theorem pP.yZ {ad:List aC} {dead:List Int} (h:pP ad dead) (m:Nat):((ad.take m).flatMap gd).length<=439806328840000000:=zb gd 4398063288400 _ _ (fun d b=>(h.d d b).len) (by have:=eh 4398063288400 h.cS;omega) m
theorem pP.uD {ad:List aC} {dead:List Int} (h:pP ad dead) (m:Nat):((dead.take m).flatMap iI).length<=100000000:=zb iI 26 _ _ (fun n b=>Ed (h.n n b).1 (h.n n b).2) (by have:=eh 26 h.small;omega) m
theorem amh (N:Nat) (r:1048576<N) (o:N<=16777216) (l:b0) (h:pP l.1.1 l.2):CJ N l.1.1 l.1.2 l.2=some (dn l.1.1 l.2):=by
 have p:=h.cS
 have s:=h.small
 unfold CJ
 refine qF gd l.1.1 (by omega) _ (fun out i=>(out,i,l.1.1,l.1.2,l.2)) [] _ (fun go=>?_) (fun go m hm=>?_)
 .dsimp only
  rw[ak (bp _),aj]
  refine qF iI l.2 (by omega) _ (fun out i=>(out,i,l.1.1,l.1.2,l.2)) ([]++l.1.1.flatMap gd) _ (fun go=>?_) (fun go m hm=>?_)
  .dsimp only
   rw[ak (bp _),aj,BW,fj]
  .have e:=h.n _ (bA hm)
   have g:=h.yZ l.1.1.length
   rw[cl]at g
   have u:=h.uD m
   have v:=gU e.1 e.2
   have j:=rj N N (by omega) (by omega) _ e.1 e.2
   unfold kh at j
   have b:([]++l.1.1.flatMap gd++(l.2.take m).flatMap iI).length<=500000000000000000:=by
    rw[a1,fj]
    omega
   have x:[]++l.1.1.flatMap gd++(l.2.take m).flatMap iI++iI l.2[m]=[]++l.1.1.flatMap gd++(l.2.take m).flatMap iI++ [100,101,97,100,32]++Lib.itoa l.2[m]++ [10]:=by
    unfold iI kB
    simp only[dJ]
   rw[x]
   generalize []++l.1.1.flatMap gd++(l.2.take m).flatMap iI=out at b⊢
   dsimp only
   rw[aq (by omega:(m:Int)<l.2.length),ao,ai (by simp only[a1,aZ,bE];omega),aO hm,af,j,af,ai (by simp only[a1,aZ,bE];omega),ai (by simp only[a1,aZ,bE];omega),ai (aN (n:=m) (by omega))]
 .have e:=h.d _ (bA hm)
  have g:=h.yZ m
  have y:=e.len
  have b:([]++(l.1.1.take m).flatMap gd).length<=500000000000000000:=by
   rw[fj]
   omega
  generalize []++(l.1.1.take m).flatMap gd=out at b⊢
  dsimp only
  rw[aq (by omega:(m:Int)<l.1.1.length),ao,aO hm,af,alq N r o _ e,af,ai (by omega),ai (aN (n:=m) (by omega))]
theorem ea.RU {N:Nat} {c:aL} {l:b0} (h:ea N (c,[l])) (e:ct (c,[l])=true):pP l.1.1 l.2:=by
 have o:=xD e
 have i:=o.cS
 have b:=o.dead
 have g:=o.uI
 exact⟨fun d b=>.of ((h.each l b6).1 d b),by omega,fun n hm=>by have:=g n hm;omega,by omega⟩
theorem P3 {N:Nat} {c:aL} {l:b0} (h:ea N (c,[l])):rE N c.1 c.2 l.1.1 l.1.2 l.2=some (mW c l):=by
 have A:1048576<N:=h.dk
 have r:=h.top
 have hi:=Aa h
 unfold rE
 have e:oX N c.1 c.2 [((l.1.1,l.1.2),l.2)]=some (ct (c,[l])):=hi
 rw[e,af]
 unfold mW
 cases x:ct (c,[l])with
 |false=>rfl
 |true=>
  have z:=h.RU x
  have o:=xD x
  have y:=z.cS
  have B:=z.small
  rw[bn,aj,ao]
  refine qF gd l.1.1 (by omega) _ (fun out i=>(out,l.1.1,(l.1.1.length:Int),i,l.1.1,l.1.2,l.2)) [] _ (fun go=>?_) (fun go m hm=>?_)
  .dsimp only
   rw[ak (bp _),aj]
   refine qF iI l.2 (by omega) _ (fun out i=>(out,l.2,(l.2.length:Int),i)) ([]++l.1.1.flatMap gd) _ (fun go=>?_) (fun go m hm=>?_)
   .dsimp only
    rw[ak (bp _),aj,BW,fj]
   .have g:=z.n _ (bA hm)
    have j:=z.yZ l.1.1.length
    rw[cl]at j
    have C:=z.uD m
    have F:=gU g.1 g.2
    have p:=ql N _ g.1 g.2
    unfold kh at p
    have b:([]++l.1.1.flatMap gd++(l.2.take m).flatMap iI).length<=500000000000000000:=by
     rw[a1,fj]
     omega
    have G:iI l.2[m]=[100,101,97,100,32]++Lib.itoa l.2[m]++ [10]:=rfl
    rw[G]
    generalize []++l.1.1.flatMap gd++(l.2.take m).flatMap iI=out at b⊢
    dsimp only
    rw[aq (by omega:(m:Int)<l.2.length),ao,aO hm,af,p,af,ai (by simp only[a1,aZ,bE];omega),ai (by simp only[a1,aZ,bE];omega),ai (by simp only[a1,aZ,bE];omega),ai (aN (n:=m) (by omega))]
  .have g:=z.d _ (bA hm)
   have s:hg l.1.1[m]=true:=n4 o.ad _ (bA hm)
   have u:=(h.each l b6).1 _ (bA hm)
   have v:oW N l.1.1[m].1 l.1.1[m].2.1 l.1.1[m].2.2=some true:=by
    have:=y2 N h.dk (by omega) l.1.1[m].1 l.1.1[m].2.1 l.1.1[m].2.2 u
    rw[this]
    exact congrArg some s
   have j:=z.yZ m
   have H:=g.len
   have b:([]++(l.1.1.take m).flatMap gd).length<=500000000000000000:=by
    rw[fj]
    omega
   generalize []++(l.1.1.take m).flatMap gd=out at b⊢
   dsimp only
   rw[aq (by omega:(m:Int)<l.1.1.length),ao,aO hm,af,alp N A r _ g v,af,ai (by omega),ai (aN (n:=m) (by omega))]
theorem yW (b:UInt8) (s:List UInt8):(ek b s).1.length<=s.length/\(ek b s).2.1.length<=s.length:=by
 rcases EL b s with h|⟨p,r,h,rfl⟩
 .rw [Kw h]
  exact⟨bC _,bg _⟩
 .rw [rh h]
  simp only[a1,aZ]
  omega
theorem Ea {s:List UInt8} (h:s.length<=1048576):vK s [32]=some (ek 32 s):=by
 unfold vK
 rw[ai (by omega)]
 rfl
theorem yJ {s:List UInt8} (h:s.length<=1048576):vC s=some (hM s):=by
 unfold vC
 rw[ai (by omega)]
theorem DV (s:List UInt8): -9223372036854775808<=hM s/\hM s<=9223372036854775807:=by
 unfold hM
 cases h:Lib.atoiAll s with
 |range=>
  dsimp only
  unfold Lib.atoiSat
  split<;>omega
 |ok v=>
  dsimp only
  cases s with
  |nil=>cases h
  |cons c r=>
   unfold Lib.atoiAll at h
   dsimp only at h
   split at h
   .cases h
   .cases h
   .split at h
    .cases h
    .split at h
     .cases h
     .simp only [Lib.NumEnd.ok.injEq]at h
      subst h
      split<;>omega
 |_=>dsimp only;omega
theorem Fa (N:Nat) (s p:List UInt8):uu N s p=some (p.isPrefixOf s):=by
 have e:r3 N s p=some (p.isPrefixOf s):=by
  unfold r3
  by_cases h:p.length<=s.length
  .rw [aq (by omega:(p.length:Int)<=(s.length:Int)),ao,vL s p.length h,af]
   congr 1
   rw[np,bz,Dz,List.prefix_iff_eq_take]
   exact eq_comm
  .rw [ak (by omega:¬(p.length:Int)<=(s.length:Int)),aj]
   congr 1
   rw[np]
   constructor
   .intro h;cases h
   .intro b
    rw[Dz]at b
    exact absurd b.length_le h
 unfold uu
 rw[e,af]
theorem UQ (N:Nat) (s p:List UInt8):BN N s p=some (bif p.isPrefixOf s then(s.drop p.length,true)else(s,false)):=by
 have e:=Fa N s p
 unfold uu at e
 have g:r3 N s p=some (p.isPrefixOf s):=by
  cases h:r3 N s p with
  |none=>rw[h]at e;cases e
  |some r=>rw[h]at e;exact e
 unfold BN Ht
 rw[g,af]
 cases b:p.isPrefixOf s with
 |false=>rfl
 |true=>
  have i:p.length<=s.length:=by
   rw[Dz]at b
   exact b.length_le
  rw[bn,aj,yX s p.length i]
  rfl
def ft :List (List UInt8)->Nat
 | []=>0
 |l::ls=>l.length+1+ft ls
theorem C8 :∀a b:List (List UInt8),ft (a++b)=ft a+ft b
 | [],b=>by simp[ft]
 |l::a,b=>by
  rw[jZ,ft,ft,C8 a b]
  omega
theorem C9 :∀a:List (List UInt8),a.length<=ft a
 | []=>bC _
 |l::a=>by
  have:=C9 a
  rw[aZ,ft]
  omega
theorem Jf :∀ {a:List (List UInt8)} {l:List UInt8},l∈a->l.length+1<=ft a
 |x::a,l,h=>by
  rw[ft]
  rcases bm.1 h with rfl|h
  .omega
  .have:=Jf h
   omega
theorem Je (b:UInt8):∀s:List UInt8,ft (cutAt b s)=s.length+1
 | []=>rfl
 |x::s=>by
  have e:=Je b s
  unfold cutAt
  split
  .rw [ft,e,bE,aZ]
   omega
  .cases h:cutAt b s with
   |nil=>exact absurd h (Kx b s)
   |cons p ps=>
    rw[h,ft]at e
    dsimp only
    rw[ft,aZ,aZ]
    omega
theorem R5 (ls:List (List UInt8)) (n:Nat):ft (ls.take n)<=ft ls:=by
 have h:=C8 (ls.take n) (ls.drop n)
 rw[lD]at h
 omega
structure k4 (d:aC) (n:Nat):Prop where
 id: -9223372036854775808<=d.1/\d.1<=9223372036854775807
 eU:4*d.2.1.length<=n
 gR:4*d.2.2.length<=n
 f:∀f,f∈d.2.1->f.1.length<=1048576/\f.2.length<=1048576
 a:∀a,a∈d.2.2->a.1.length<=1048576/\ -9223372036854775808<=a.2/\a.2<=9223372036854775807
theorem k4.zero :k4 (0,[],[]) 0:=⟨by decide,bC _,bC _,(fun f h=>by cases h),(fun f h=>by cases h)⟩
theorem k4.line {d:aC} {n:Nat} (h:k4 d n) {l:List UInt8} (p:l.length<=1048576):k4 (iB d l) (n+(l.length+1)):=by
 obtain⟨g,r⟩:=yW 32 l
 obtain⟨m1,m2⟩:=yW 32 (ek 32 l).2.1
 have s:=h.eU
 have u:=h.gR
 unfold iB
 dsimp only
 by_cases o:(ek 32 l).1=[100,111,99]
 .rw [aq o,ao]
  exact⟨DV _,by dsimp only;omega,by dsimp only;omega,h.f,h.a⟩
 rw[ak o,aj]
 by_cases i:(ek 32 l).1=[102,105,101,108,100]
 .rw [aq i,ao]
  rw[i]at g
  simp only[aZ,bE]at g
  refine⟨h.id,by dsimp only;rw[a1,bS];omega,by dsimp only;omega,fun f b=>?_,h.a⟩
  rcases cp.1 b with b|b
  .exact h.f f b
  .rw [c1]at b
   subst b
   dsimp only
   omega
 rw[ak i,aj]
 by_cases j:(ek 32 l).1=[110,117,109]
 .rw [aq j,ao]
  rw[j]at g
  simp only[aZ,bE]at g
  refine⟨h.id,by dsimp only;omega,by dsimp only;rw[a1,bS];omega,h.f,fun a e=>?_⟩
  rcases cp.1 e with e|e
  .exact h.a a e
  .rw [c1]at e
   subst e
   have:=DV (ek 32 (ek 32 l).2.1).2.1
   dsimp only
   omega
 rw[ak j,aj]
 exact⟨h.id,by omega,by omega,h.f,h.a⟩
theorem k4.fold :∀(ls:List (List UInt8)) {d:aC} {n:Nat},k4 d n->(∀l,l∈ls->l.length<=1048576)->k4 (ls.foldl iB d) (n+ft ls)
 | [],d,n,h,_=>h
 |l::ls,d,n,h,b=>by
  rw[eR,ft,<-mm]
  exact k4.fold ls (h.line (b l b6)) fun x e=>b x (b7 _ e)
theorem k4.cz {d:aC} {n:Nat} (h:k4 d n) (g:n<=4194304):cz bF fE d:=by
 have i:=h.eU
 have j:=h.gR
 exact⟨h.id,⟨by show d.2.1.length<=1048576;omega,fun f e=>h.f f e⟩,⟨by show d.2.2.length<=1048576;omega,fun a b=>⟨(h.a a b).1,(h.a a b).2⟩⟩⟩
theorem alD {ls:List (List UInt8)} (b:∀l,l∈ls->l.length<=1048576) (e:ft ls<=4194304):cz bF fE (mY ls):=
 (k4.fold ls .zero b).cz (by omega)
theorem anB (p:List UInt8->Bool) (ls:List (List UInt8)):ft (ls.takeWhile p)+ft (ls.dropWhile p)=ft ls:=by rw[<-C8,List.takeWhile_append_dropWhile]
theorem IK :∀(k:Nat) (ls:List (List UInt8)),ls.length<=k->(∀l,l∈ls->l.length<=1048576)->ft ls<=4194304->2*(fH ls).1.length<=ft ls/\2*(fH ls).2.length<=ft ls/\(∀d,d∈(fH ls).1->cz bF fE d)/\∀n,n∈(fH ls).2-> -9223372036854775808<=n/\n<=9223372036854775807
 |_,[],_,_,_=>by
  rw[fH]
  exact⟨bC _,bC _,(fun d h=>by cases h),(fun d h=>by cases h)⟩
 |0,l::ls,h,_,_=>absurd h (by simp)
 |k+1,l::ls,s,b,u=>by
  rw[aZ]at s
  rw[ft]at u
  have i:=b l b6
  rw[fH,ft]
  cases r:kC.isPrefixOf l with
  |true=>
   obtain⟨v,z,e,g⟩:=IK k ls (by omega) (fun x j=>b x (b7 _ j)) (by omega)
   rw[ao]
   have B:5<=l.length:=by
    rw[Dz]at r
    exact r.length_le
   refine⟨by dsimp only;omega,by dsimp only;rw[aZ];omega,e,fun n o=>?_⟩
   rcases bm.1 o with rfl|o
   .exact DV _
   .exact g n o
  |false=>
   have hw:=anB gr ls
   have A:(ls.dropWhile gr).length<=ls.length:=(List.dropWhile_sublist _).length_le
   obtain⟨v,z,e,g⟩:=IK k (ls.dropWhile gr) (by omega) (fun x j=>b x (b7 _ ((List.dropWhile_sublist _).subset j))) (by omega)
   rw[aj]
   cases l with
   |nil=>
    rw[aq rfl,bn,aj]
    exact⟨by dsimp only;omega,by dsimp only;omega,e,g⟩
   |cons x l=>
    rw[ak (by simp),dt,ao]
    refine⟨by dsimp only;rw[aZ,aZ];omega,by dsimp only;omega,fun d p=>?_,g⟩
    rcases bm.1 p with rfl|p
    .refine alD (fun y hy=>?_) (by rw[ft];omega)
     rcases bm.1 hy with rfl|hy
     .exact i
     .exact b y (b7 _ ((List.takeWhile_sublist _).subset hy))
    .exact e d p
theorem alE (N:Nat) (G:1048600<=N) (ls:List (List UInt8)) (x:∀l,l∈ls->l.length<=1048576) (H:ft ls<=1048577):rH N ls=some (mY ls):=by
 have hlen:=C9 ls
 unfold rH
 refine Def.get ?_
 refine Def.iter (fun g=>∃(n:Nat) (D:aC),g=(ls,(ls.length:Int),(n:Int),(0:Int),D.1,D.2.1,D.2.2)/\n<=ls.length/\D=(ls.take n).foldl iB (0,[],[])) (fun g=>ls.length-g.2.2.1.toNat) (fun go g y z=>?_) N _ ⟨0,(0,[],[]),rfl,bg _,rfl⟩ (by dsimp only;omega)
 obtain⟨n,D,rfl,A,j⟩:=y
 dsimp only
 by_cases o:n<ls.length
 .have B:=x _ (bA o)
  have v:=k4.fold (ls.take n) .zero fun l h=>x l (fK h)
  rw[<-j]at v
  have I:=v.eU
  have J:=v.gR
  have K:=R5 ls n
  have e:(ls.take (n+1)).foldl iB (0,[],[])=iB D ls[n]:=by rw[ec o,hU,j];rfl
  have b:∀i:aC,i=iB D ls[n]->Def (go (ls,(ls.length:Int),((n:Int)+1),(0:Int),i.1,i.2.1,i.2.2)) fun r=>r=mY ls:=fun i h=>z _ ⟨n+1,i,by rw[aR],o,by rw[e,h]⟩ (by dsimp only;omega)
  have L:=(yW 32 ls[n]).2
  have M:=(yW 32 (ek 32 ls[n]).2.1).2
  have C:r4 N ls[n] [32]=some (ek 32 ls[n]):=Ea B
  have c2:r4 N (ek 32 ls[n]).2.1 [32]=some (ek 32 (ek 32 ls[n]).2.1):=Ea (by omega)
  have F:mN N (ek 32 ls[n]).2.1=some (hM (ek 32 ls[n]).2.1):=yJ (by omega)
  have a2:mN N (ek 32 (ek 32 ls[n]).2.1).2.1=some (hM (ek 32 (ek 32 ls[n]).2.1).2.1):=yJ (by omega)
  rw[aq (by omega:(n:Int)<ls.length),ao,aO o,af,C,af,c2,af,F,a2,af,af]
  unfold iB at b
  dsimp only at b
  by_cases p:(ek 32 ls[n]).1=[100,111,99]
  .rw [aq p,ao]at b
   rw[aq p,ao]
   exact Def.ite (aN (n:=n) (by omega)) (b _ rfl)
  rw[ak p,aj]at b
  rw[ak p,aj]
  by_cases s:(ek 32 ls[n]).1=[102,105,101,108,100]
  .rw [aq s,ao]at b
   rw[aq s,ao]
   exact Def.ite (b5 (by rw[bS];omega) (by rw[bS];omega)) (Def.ite (aN (n:=n) (by omega)) (b _ rfl))
  rw[ak s,aj]at b
  rw[ak s,aj]
  by_cases u:(ek 32 ls[n]).1=[110,117,109]
  .rw [aq u,ao]at b
   rw[aq u,ao]
   exact Def.ite (b5 (by rw[bS];omega) (by rw[bS];omega)) (Def.ite (aN (n:=n) (by omega)) (b _ rfl))
  rw[ak u,aj]at b
  rw[ak u,aj]
  exact Def.ite (aN (n:=n) (by omega)) (b _ rfl)
 .rw [ak (by omega:¬(n:Int)<ls.length),aj]
  rw[kX (by omega)]at j
  refine Def.ret ?_
  unfold mY
  rw[<-j]
def Cd :Option b0->List aC×List cK×List Int×Bool
 |some l=>(l.1.1,l.1.2,l.2,true)
 |none=>([],[],[],false)
theorem V3 {c:aL} {s:List UInt8} (b:dQ c=false):mB c s=none:=by
 cases h:mB c s with
 |none=>rfl
 |some l=>
  have:=(gg (Lm h).1).1
  rw[b]at this
  cases this
theorem amd (c:aL) (ad:List aC):(jn c ad).1=ad\/(jn c ad).1=[]:=by
 unfold jn
 cases dQ c&&eM ad
 .exact .inr rfl
 .exact .inl rfl
theorem Vg {α:Type} (l:List α) {a e:Nat} (h:a<=e) (he:e<=l.length):l.drop a=(l.take e).drop a++l.drop e:=by
 have g:l.take e++l.drop e=l:=lD e l
 have b:(l.take e++l.drop e).drop a=(l.take e).drop a++l.drop e:=by rw[List.drop_append_of_le_length (by rw[bX];omega)]
 rw[g]at b
 exact b
theorem VK {N:Nat} (i:bF<N) (j:N<=16777216) {c:aL} (cV:cz bF gm c) {ad:List aC} {dead:List Int} (o:∀d,d∈ad->cz bF fE d) (p:ad.length<=1048576) (b:dead.length<=1048576):ea N (c,[(jn c ad,dead)]):=
 ⟨i,j,cV,by show 1<=1048576;omega,fun l g=>by
  rw[c1]at g
  subst g
  dsimp only
  rcases amd c ad with e|e
  .rw [e];exact⟨o,p,b⟩
  .rw [e];exact⟨(fun d h=>by cases h),bg _,b⟩⟩
set_option maxHeartbeats 1000000 in
theorem akh {N:Nat} (qa:1048600<=N) (F:N<=16777216) (c:aL) (cV:cz bF gm c) (s:List UInt8) (aS:s.length<=1048576):zV N c.1 c.2 s=some (Cd (mB c s)):=by
 have M:bF<N:=by show 1048576<N;omega
 unfold zV
 rw[re N M (by omega) c cV,af]
 cases O:dQ c with
 |false=>
  rw[dt,ao,V3 O]
  rfl
 |true=>
  have P:xn N s [10]=some (cutAt 10 s):=by
   show sA s [10]=_
   unfold sA
   dsimp only
   rw[ai (by omega)]
  rw[bn,aj,P,af]
  refine Def.get ?_
  have G:=Je 10 s
  have o:mB c s=(let r:=fH (cutAt 10 s);let l:b0:=(jn c r.1,r.2);bif !decide (s=[])&&decide (mW c l=s)then some l else none):=rfl
  generalize cutAt 10 s=ls at G o⊢
  have Q:∀l,l∈ls->l.length<=1048576:=fun l h=>by have:=Jf h;omega
  have hlen:=C9 ls
  obtain⟨Y,Z,K,oc⟩:=IK _ ls (bC _) Q (by omega)
  refine Def.iter (fun g=>∃(ad:List aC) (dead:List Int) (a:Nat),g=(s,ad,dead,ls,(a:Int),c.1,c.2)/\a<=ls.length/\ad.length<=a/\dead.length<=a/\(ad++(fH (ls.drop a)).1,dead++(fH (ls.drop a)).2)=fH ls) (fun g=>ls.length-g.2.2.2.2.1.toNat) (fun go g S T=>?_) N _ ⟨[],[],0,rfl,bg _,bC _,bC _,by simp⟩ (by dsimp only;omega)
  obtain⟨ad,dead,a,rfl,aD,aV,bD,i⟩:=S
  dsimp only
  by_cases C:a<ls.length
  .have bc:ls.drop a=ls[a]::ls.drop (a+1):=fC C
   have z:=Q _ (bA C)
   rw[aq (by omega:(a:Int)<ls.length),ao,aO C,af,UQ,af]
   rw[bc,fH]at i
   cases L:kC.isPrefixOf ls[a]with
   |true=>
    have A:([100,101,97,100,32]:List UInt8).isPrefixOf ls[a]=true:=L
    have U:mN N (ls[a].drop ([100,101,97,100,32]:List UInt8).length)=some (hM (ls[a].drop 5)):=yJ (by rw[eY];omega)
    rw[L,ao]at i
    rw[A,ao]
    dsimp only
    rw[ao,U,af]
    refine Def.ite (b5 (by rw[bS];omega) (by rw[bS];omega)) (Def.ite (aN (by omega)) (T _ ⟨ad,dead++ [hM (ls[a].drop 5)],a+1,by rw[aR],C,by omega,by rw[a1,bS];omega,?_⟩ (by dsimp only;omega)))
    rw[<-i]
    simp
   |false=>
    have A:([100,101,97,100,32]:List UInt8).isPrefixOf ls[a]=false:=L
    rw[L,aj]at i
    rw[A,aj]
    dsimp only
    rw[aj,ai (aN (by omega))]
    refine Def.iter (fun g=>∃e:Nat,g=(s,ad,dead,ls,(a:Int),(e:Int),c.1,c.2)/\a+1<=e/\e<=ls.length/\∀x,x∈(ls.take e).drop (a+1)->gr x=true) (fun g=>ls.length-g.2.2.2.2.2.1.toNat) (fun go2 g S V=>?_) N _ ⟨a+1,by rw[aR],bC _,C,fun x z=>by rw[jv (by rw[bX];omega)]at z;cases z⟩ (by dsimp only;omega)
    obtain⟨e,rfl,g1,g2,g3⟩:=S
    have b:(∀y ys,ls.drop e=y::ys->gr y=false)->Def (Option.bind (idx ls (a:Int)) fun(gA:List UInt8)=>bif(!decide (gA=([]:List UInt8)))then(Option.bind (cut ls (a:Int) (e:Int)) fun(y:List (List UInt8))=>Option.bind (rH N y) fun(sn:aC)=>if room ad.length ([sn]:List aC).length 56 then go (s,ad++([sn]:List aC),dead,ls,(e:Int),c.1,c.2)else none)else go (s,ad,dead,ls,(e:Int),c.1,c.2)) fun r=>r=Cd (mB c s):=fun H=>by
     have hw:=Jr g3 H
     rw[<-Vg ls (by omega) g2]at hw
     rw[hw.1,hw.2]at i
     rw[aO C,af]
     by_cases bI:ls[a]=[]
     .rw [aq bI,bn,aj]at i⊢
      exact T _ ⟨ad,dead,e,rfl,g2,by omega,by omega,i⟩ (by dsimp only;omega)
     .rw [ak bI,dt,ao]at i⊢
      refine Def.cut (by omega) (by omega) (by omega) ?_
      rw[er,er]
      have W:a<(ls.take e).length:=by rw[bX];omega
      have O:(ls.take e).drop a=ls[a]::(ls.take e).drop (a+1):=by rw[fC W,List.getElem_take]
      have I:∀l,l∈(ls.take e).drop a->l∈ls:=fun l h=>fK (nq h)
      have X:ft ((ls.take e).drop a)<=1048577:=by
       have cP:=C8 ((ls.take e).take a) ((ls.take e).drop a)
       rw[lD]at cP
       have cI:=R5 ls e
       omega
      rw[alE N qa _ (fun l h=>Q l (I l h)) X,af]
      refine Def.ite (b5 (by rw[bS];omega) (by rw[bS];omega)) (T _ ⟨ad++ [mY ((ls.take e).drop a)],dead,e,rfl,g2,by rw[a1,bS];omega,by omega,?_⟩ (by dsimp only;omega))
      rw[<-i,O]
      simp
    dsimp only
    by_cases he:e<ls.length
    .have J:ls.drop e=ls[e]::ls.drop (e+1):=fC he
     rw[aq (by omega:(e:Int)<ls.length),ao,aO he,af,Fa,af]
     cases p:tn.isPrefixOf ls[e]with
     |true=>
      have B:([100,111,99,32]:List UInt8).isPrefixOf ls[e]=true:=p
      rw[B,bn,aj]
      refine b fun y ys hy=>?_
      rw[J,List.cons.injEq]at hy
      rw[<-hy.1]
      unfold gr
      rw[p]
      rfl
     |false=>
      have B:([100,111,99,32]:List UInt8).isPrefixOf ls[e]=false:=p
      rw[B,dt,ao,af,Fa,af]
      cases u:kC.isPrefixOf ls[e]with
      |true=>
       have j:([100,101,97,100,32]:List UInt8).isPrefixOf ls[e]=true:=u
       rw[j,bn,aj]
       refine b fun y ys hy=>?_
       rw[J,List.cons.injEq]at hy
       rw[<-hy.1]
       unfold gr
       rw[p,u]
       rfl
      |false=>
       have j:([100,101,97,100,32]:List UInt8).isPrefixOf ls[e]=false:=u
       rw[j,dt,ao]
       refine Def.ite (aN (by omega)) (V _ ⟨e+1,by rw[aR],by omega,he,fun x z=>?_⟩ (by dsimp only;omega))
       rw[ec he,List.drop_append_of_le_length (by rw[bX];omega),cp,c1]at z
       rcases z with z|rfl
       .exact g3 x z
       .unfold gr
        rw[p,u]
        rfl
    .rw [ak (by omega:¬(e:Int)<ls.length),aj]
     refine b fun y ys hy=>?_
     rw[jv (by omega)]at hy
     cases hy
  .rw [ak (by omega:¬(a:Int)<ls.length),aj]
   rw[jv (by omega),fH,e5,e5]at i
   rw[<-i]at Y Z K oc o
   dsimp only at Y Z K oc o
   rw[I4 N M F c cV ad K (by omega)]
   have Vk:(bif dQ c&&eM ad then(ad,eo c ad)else(([],[]):cB))=jn c ad:=rfl
   rw[Vk,af]
   by_cases v:s=[]
   .rw [aq v,ao]
    rw[aq v,bn,ov,aj]at o
    rw[o]
    exact Def.ret rfl
   .rw [ak v,aj]
    rw[ak v,dt,ck]at o
    have cM:=VK M F cV K (by omega) (by omega:dead.length<=1048576)
    have Wu:rE N c.1 c.2 (jn c ad).1 (jn c ad).2 dead=some (mW c (jn c ad,dead)):=P3 cM
    rw[Wu,af]
    by_cases p:mW c (jn c ad,dead)=s
    .rw [aq p,ao]at o
     rw[aq p,bn,aj,o]
     exact Def.ret rfl
    .rw [ak p,aj]at o
     rw[ak p,dt,ao,o]
     exact Def.ret rfl
structure anO (d:aC) (n:Nat):Prop where
 id: -9223372036854775808<=d.1/\d.1<=9223372036854775807
 eU:d.2.1.length<=n
 gR:d.2.2.length<=n
 f:∀f,f∈d.2.1->f.1.length<=1048576/\f.2.length<=1048576
 a:∀a,a∈d.2.2->a.1.length<=1048576/\ -9223372036854775808<=a.2/\a.2<=9223372036854775807
structure anP (st:TG) (k m t:Nat):Prop where
 gu:∀d,d∈st.1->cz bF fE d
 Hv:st.1.length<=k
 aoM:st.2.1.length<=m
 num:∀n,n∈st.2.1-> -1<=n/\n<=999999999
 iC:st.2.2.length<=t
theorem akX {d:aC} (h:hg d=true):cz bF fE d:=by
 have g:=EY h
 have r:=g.z8
 have s:=g.rI
 have u:=g.eU
 have v:=g.gR
 refine⟨⟨by show(-9223372036854775808:Int)<=d.1;omega,by show d.1<=9223372036854775807;omega⟩,⟨by show d.2.1.length<=1048576;omega,fun(f:ei) i=>?_⟩,⟨by show d.2.2.length<=1048576;omega,fun(a:gl) j=>?_⟩⟩
 .obtain ⟨b,e⟩:=g.f f i
  have o:=((h7 _).1 b).2.2
  have p:=Ih e
  exact⟨by show f.1.length<=1048576;omega,by show f.2.length<=1048576;omega⟩
 .obtain ⟨b,e,o⟩:=g.a a j
  have p:=((h7 _).1 b).2.2
  exact⟨by show a.1.length<=1048576;omega,by show(-9223372036854775808:Int)<=a.2;omega,by show a.2<=9223372036854775807;omega⟩
theorem KH {d:aC} (h:hg d=true):(gd d).length<=1000:=by
 have g:=EY h
 have u:=gU (n:=d.1) (by have:=g.z8;omega) (by have:=g.rI;omega)
 have v:=p5 gn 200 d.2.1 fun f i=>by
  obtain⟨b,e⟩:=g.f f i
  have j:=((h7 _).1 b).2.2
  have o:=Ih e
  unfold gn h1
  simp only[a1,aZ,bE]
  omega
 have x:=p5 iQ 60 d.2.2 fun a p=>by
  obtain⟨b,e,j⟩:=g.a a p
  have o:=((h7 _).1 b).2.2
  have y:=gU (n:=a.2) (by omega) (by omega)
  unfold iQ h6
  simp only[a1,aZ,bE]
  omega
 have r:=g.eU
 have s:=g.gR
 have z:=eh 200 r
 have A:=eh 60 s
 rw[y3]
 unfold eT
 simp only[a1,aZ,bE]
 omega
theorem k3.small {c:aL} {l:b0} (o:k3 c l):(dn l.1.1 l.2).length<=1048576:=by
 have g:=p5 gd 1000 l.1.1 fun d b=>KH (n4 o.ad d b)
 have h:=p5 iI 26 l.2 fun n e=>by
  have:=o.uI n e
  exact Ed (by omega) (by omega)
 have i:=eh 1000 o.cS
 have j:=eh 26 o.dead
 rw[BW,a1]
 omega
theorem fv.one {N:Nat} {x:ca} (h:fv N x) {l:b0} (g:l∈x.2):pP l.1.1 l.2/\(dn l.1.1 l.2).length<=1000000:=by
 have e:=h.uI l g
 have i:=h.each l g
 obtain⟨o,r,s⟩:=h.fit.each l g
 have p:=i.dY.cS
 have b:=i.dead
 refine⟨⟨fun d b=>.of (o d b),by omega,e.num,by omega⟩,?_⟩
 have u:=p5 gd 1000 l.1.1 fun d b=>KH (n4 e.ok d b)
 have v:=p5 iI 26 l.2 fun n j=>Ed (e.num n j).1 (e.num n j).2
 have y:=eh 1000 p
 have z:=eh 26 b
 rw[BW,a1]
 omega
theorem Kb {code:List Int} (h:cz yo (.av (.int .u8)) code):ns code:=fun x e=>by
 have:=h.2 x e
 have g:IntKind.u8.min=0:=by decide
 have i:IntKind.u8.max=255:=by decide
 exact⟨by have b:=this.1;rw[g]at b;exact b,by have b:=this.2;rw[i]at b;exact b⟩
end Go.Proofs.YtnkagklajgimlaaGreatDoor
