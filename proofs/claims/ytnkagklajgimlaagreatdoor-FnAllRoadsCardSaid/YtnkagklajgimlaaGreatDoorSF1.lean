
import Derived.Test.YtnkagklajgimlaaGreatDoorKZ
import Derived.Test.YtnkagklajgimlaaGreatDoorSC1
import Derived.Test.YtnkagklajgimlaaGreatDoorSE1
import Derived.Test.YtnkagklajgimlaaGreatDoorFS
set_option linter.unusedVariables false
set_option linter.unusedSimpArgs false
namespace Go.Proofs.YtnkagklajgimlaaGreatDoor
open Go.RowKit
structure qw (d:aF):Prop where
 Br:1<=d.1
 oE:d.1<=9999
 e2:d.2.1.length<=3
 ht:d.2.2.length<=3
 f:∀f,f∈d.2.1->okW f.1=true/\fI f.2=true
 a:∀a,a∈d.2.2->okW a.1=true/\0<=a.2/\a.2<=999999999
theorem Gy {d:aF} (h:gF d=true):qw d:=by
 unfold gF at h
 simp only[a6,bo]at h
 obtain⟨⟨⟨⟨⟨e,g⟩,r⟩,s⟩,i⟩,j⟩:=h
 refine⟨e,g,by omega,by omega,fun f o=>?_,fun a p=>?_⟩
 .obtain ⟨n,b,rfl⟩:=eb.1 o
  have:=nb i b
  unfold okF at this
  rw[a6,a6,<-pA b]at this
  exact this.1
 .obtain ⟨n,b,rfl⟩:=eb.1 p
  have:=nb j b
  unfold tb at this
  rw[a6,a6,a6,bo,bo,<-wO b]at this
  exact this.1
theorem Dz {s:List UInt8} (h:okW s=true) {c:UInt8} (b:fX (c.toNat:Int)=false):c∉s:=fun hm=>by
 have:=((iw s).1 h).1 c hm
 rw[b]at this
 cases this
theorem aoV {s:List UInt8} (h:fI s=true):(10:UInt8)∉s:=fun hm=>by
 obtain⟨n,b,e⟩:=eb.1 hm
 unfold fI at h
 rw[a6]at h
 have:=nb h.1 b
 have g:eV s n=10:=by
  unfold eV
  rw[bG b,e]
  rfl
 rw[g]at this
 exact absurd this (by decide)
def gO (d:aF):List UInt8:=[100,111,99,32]++Lib.itoa d.1
def iJ (f:eo):List UInt8:=[102,105,101,108,100,32]++f.1++ [32]++f.2
def iP (a:gz):List UInt8:=[110,117,109,32]++a.1++ [32]++Lib.itoa a.2
def lO (n:Int):List UInt8:=[100,101,97,100,32]++Lib.itoa n
def ky (d:aF):List (List UInt8):=gO d::(d.2.1.map iJ++d.2.2.map iP)
def lZ (ad:List aF) (dead:List Int):List (List UInt8):=ad.flatMap ky++dead.map lO
def jy (d:aF):List UInt8:=ji (ky d)
def fa (ad:List aF) (dead:List Int):List UInt8:=ji (lZ ad dead)
theorem Bt {n:Int} (e:0<=n):∀c,c∈Lib.itoa n->gN c=true:=fun c b=>by
 unfold Lib.itoa at b
 rw[aC (by omega)]at b
 exact FU _ n.toNat (bE _) c b
theorem u9 {n:Int} (e:0<=n) {x:UInt8} (b:gN x=false):x∉Lib.itoa n:=fun h=>by
 rw[Bt e x h]at b
 cases b
theorem wR {n:Int} (b:0<=n) (e:n<1000000000000000000):h0 (Lib.itoa n)=n:=by
 unfold Lib.itoa
 rw[aC (by omega),Wy _ (by omega)]
 omega
theorem XD {d:aF} (g:qw d):(10:UInt8)∉gO d:=by
 unfold gO
 rw[cE,not_or]
 exact⟨by decide,u9 (by have:=g.Br;omega) (by decide)⟩
theorem Yd {f:eo} (h:okW f.1=true/\fI f.2=true):(10:UInt8)∉iJ f:=by
 unfold iJ
 rw[cE,cE,cE,not_or,not_or,not_or]
 exact⟨⟨⟨by decide,Dz h.1 (by decide)⟩,by decide⟩,aoV h.2⟩
theorem aoJ {a:gz} (h:okW a.1=true/\0<=a.2/\a.2<=999999999):(10:UInt8)∉iP a:=by
 unfold iP
 rw[cE,cE,cE,not_or,not_or,not_or]
 exact⟨⟨⟨by decide,Dz h.1 (by decide)⟩,by decide⟩,u9 h.2.1 (by decide)⟩
theorem Xt {n:Int} (h:0<=n):(10:UInt8)∉lO n:=by
 unfold lO
 rw[cE,not_or]
 exact⟨by decide,u9 h (by decide)⟩
theorem XC {d:aF} (g:qw d):∀l,l∈ky d->(10:UInt8)∉l:=fun l b=>by
 unfold ky at b
 rw[bn,cE]at b
 rcases b with rfl|b|b
 .exact XD g
 .obtain ⟨f,e,rfl⟩:=cg.1 b
  exact Yd (g.f f e)
 .obtain ⟨a,h,rfl⟩:=cg.1 b
  exact aoJ (g.a a h)
theorem an7 {ad:List aF} {dead:List Int} (e:∀d,d∈ad->qw d) (g:∀n,n∈dead->0<=n):∀l,l∈lZ ad dead->(10:UInt8)∉l:=fun l b=>by
 unfold lZ at b
 rw[cE]at b
 rcases b with b|b
 .obtain ⟨d,hm,b⟩:=js.1 b
  exact XC (e d hm) l b
 .obtain ⟨n,hm,rfl⟩:=cg.1 b
  exact Xt (g n hm)
def iU (d:aF) (line:List UInt8):aF:=
 let k:=er 32 line
 let m:=er 32 k.2.1
 bif decide (k.1=[100,111,99])then(h0 k.2.1,d.2)else bif decide (k.1=[102,105,101,108,100])then(d.1,d.2.1++ [(m.1,m.2.1)],d.2.2)else bif decide (k.1=[110,117,109])then(d.1,d.2.1,d.2.2++ [(m.1,h0 m.2.1)])else d
def nN (ls:List (List UInt8)):aF:=ls.foldl iU (0,[],[])
theorem ap9 {d:aF} (g:qw d) (e:aF):iU e (gO d)=(d.1,e.2):=by
 have b:er 32 (gO d)=([100,111,99],Lib.itoa d.1,true):=r8 (p:=[100,111,99]) (by decide)
 unfold iU
 rw[b]
 dsimp only
 rw[aq rfl,ao,wR (by have:=g.Br;omega) (by have:=g.oE;omega)]
theorem aqa {f:eo} (h:okW f.1=true/\fI f.2=true) (e:aF):iU e (iJ f)=(e.1,e.2.1++ [f],e.2.2):=by
 have b:er 32 (iJ f)=([102,105,101,108,100],f.1++32::f.2,true):=by
  have g:iJ f=[102,105,101,108,100]++32::(f.1++32::f.2):=by unfold iJ;simp
  rw[g,r8 (by decide)]
 have i:er 32 (f.1++32::f.2)=(f.1,f.2,true):=r8 (Dz h.1 (by decide))
 unfold iU
 rw[b]
 dsimp only
 rw[i,an (by decide),aj,aq rfl,ao]
theorem aqc {a:gz} (h:okW a.1=true/\0<=a.2/\a.2<=999999999) (e:aF):iU e (iP a)=(e.1,e.2.1,e.2.2++ [a]):=by
 have b:er 32 (iP a)=([110,117,109],a.1++32::Lib.itoa a.2,true):=by
  have g:iP a=[110,117,109]++32::(a.1++32::Lib.itoa a.2):=by unfold iP;simp
  rw[g,r8 (by decide)]
 have i:er 32 (a.1++32::Lib.itoa a.2)=(a.1,Lib.itoa a.2,true):=r8 (Dz h.1 (by decide))
 unfold iU
 rw[b]
 dsimp only
 rw[i,an (by decide),aj,an (by decide),aj,aq rfl,ao,wR h.2.1 (by omega)]
theorem aqb (e:aF):iU e []=e:=by
 have b:er 32 []=([],[],false):=L6 (by decide)
 unfold iU
 rw[b]
 rfl
theorem TB :∀(b:List eo) (e:aF),(∀f,f∈b->okW f.1=true/\fI f.2=true)->(b.map iJ).foldl iU e=(e.1,e.2.1++b,e.2.2)
 | [],e,_=>by simp
 |f::b,e,h=>by
  rw[cw,eZ,aqa (h f cb),TB b _ fun x g=>h x (ch _ g)]
  simp
theorem TC :∀(ht:List gz) (e:aF),(∀a,a∈ht->okW a.1=true/\0<=a.2/\a.2<=999999999)->(ht.map iP).foldl iU e=(e.1,e.2.1,e.2.2++ht)
 | [],e,_=>by simp
 |a::ht,e,h=>by
  rw[cw,eZ,aqc (h a cb),TC ht _ fun x b=>h x (ch _ b)]
  simp
theorem Tx {d:aF} (g:qw d):nN (ky d)=d/\nN (ky d++ [[]])=d:=by
 have h:nN (ky d)=d:=by
  unfold nN ky
  rw[eZ,ap9 g,hW,TB _ _ g.f,TC _ _ g.a]
  simp
 refine⟨h,?_⟩
 unfold nN at h⊢
 rw[hW,h]
 exact aqb d
def kY :List UInt8:=[100,101,97,100,32]
def uz :List UInt8:=[100,111,99,32]
def gD (l:List UInt8):Bool:= !uz.isPrefixOf l&& !kY.isPrefixOf l
def fU :List (List UInt8)->List aF×List Int
 | []=>([],[])
 |l::ls=>bif kY.isPrefixOf l then((fU ls).1,h0 (l.drop 5)::(fU ls).2)else
   (bif !decide (l=[])then nN (l::ls.takeWhile gD)::(fU (ls.dropWhile gD)).1 else(fU (ls.dropWhile gD)).1,(fU (ls.dropWhile gD)).2)
termination_by ls => ls.length
decreasing_by
 all_goals simp_wf
 all_goals first
  |exact Nat.lt_succ_of_le (List.dropWhile_sublist _).length_le
  |omega
theorem Me (n:Int):kY.isPrefixOf (lO n)=true/\(lO n).drop 5=Lib.itoa n/\gD (lO n)=false:=by
 have h:lO n=100::101::97::100::32::Lib.itoa n:=rfl
 rw[h]
 refine⟨by simp[kY,List.isPrefixOf],rfl,by simp[gD,kY,uz,List.isPrefixOf]⟩
theorem Mk (d:aF):kY.isPrefixOf (gO d)=false/\gO d≠ []/\gD (gO d)=false:=by
 have h:gO d=100::111::99::32::Lib.itoa d.1:=rfl
 rw[h]
 refine⟨by simp[kY,List.isPrefixOf],by simp,by simp[gD,kY,uz,List.isPrefixOf]⟩
theorem Sp (d:aF):∀l,l∈d.2.1.map iJ++d.2.2.map iP->gD l=true:=fun l b=>by
 rw[cE]at b
 rcases b with b|b
 .obtain ⟨f,_,rfl⟩:=cg.1 b
  have h:iJ f=102::105::101::108::100::32::(f.1++ [32]++f.2):=by unfold iJ;simp
  rw[h]
  simp[gD,kY,uz,List.isPrefixOf]
 .obtain ⟨a,_,rfl⟩:=cg.1 b
  have h:iP a=110::117::109::32::(a.1++ [32]++Lib.itoa a.2):=by unfold iP;simp
  rw[h]
  simp[gD,kY,uz,List.isPrefixOf]
theorem KY {ms rest:List (List UInt8)} (h:∀l,l∈ms->gD l=true) (b:∀l ls,rest=l::ls->gD l=false):(ms++rest).takeWhile gD=ms/\(ms++rest).dropWhile gD=rest:=by
 induction ms with
 |nil=>
  cases rest with
  |nil=>exact⟨rfl,rfl⟩
  |cons l ls=>
   have:=b l ls rfl
   simp[this]
 |cons m ms e=>
  have:=e fun l g=>h l (ch _ g)
  have hm:=h m cb
  rw[kp,List.takeWhile_cons,List.dropWhile_cons,hm]
  simp[this.1,this.2]
theorem TA :fU [[]]=([],[]):=by
 rw[fU]
 have h:kY.isPrefixOf ([]:List UInt8)=false:=rfl
 rw[h,aj]
 rw[show([]:List (List UInt8)).dropWhile gD=[]from rfl,fU]
 rfl
theorem Ty :∀dead:List Int,(∀n,n∈dead->0<=n/\n<=999999999)->fU (dead.map lO++ [[]])=([],dead)
 | [],_=>TA
 |n::dead,h=>by
  obtain⟨b,e,_⟩:=Me n
  have g:=h n cb
  rw[cw,kp,fU,b,ao,e,Ty dead fun x i=>h x (ch _ i),wR g.1 (by omega)]
theorem Tz :∀(ad:List aF) (dead:List Int),(∀d,d∈ad->qw d)->(∀n,n∈dead->0<=n/\n<=999999999)->fU (lZ ad dead++ [[]])=(ad,dead)
 | [],dead,_,j=>Ty dead j
 |d::ad,dead,p,j=>by
  have g:=p d cb
  obtain⟨s,u,z⟩:=Mk d
  have b:=Tz ad dead (fun x v=>p x (ch _ v)) j
  have e:lZ (d::ad) dead++ [[]]=gO d::((d.2.1.map iJ++d.2.2.map iP)++(lZ ad dead++ [[]])):=by
   unfold lZ
   rw[lA]
   unfold ky
   simp
  rw[e,fU,s,aj,an u,dH,ao]
  by_cases r:lZ ad dead=[]
  .rw [r,fE]at b⊢
   have hm:∀l,l∈(d.2.1.map iJ++d.2.2.map iP)++ [[]]->gD l=true:=fun l i=>by
    rw[cE,du]at i
    rcases i with i|rfl
    .exact Sp d l i
    .rfl
   have w:=KY (rest:=[]) hm (fun l ls h=>by cases h)
   rw[fe]at w
   rw[w.1,w.2]
   have o:gO d::((d.2.1.map iJ++d.2.2.map iP)++ [[]])=ky d++ [[]]:=rfl
   rw[o,(Tx g).2]
   rw[TA]at b
   obtain⟨i1,i2⟩:=Prod.mk.inj b
   rw[fU,<-i1,<-i2]
  .have y:∀l ls,lZ ad dead++ [[]]=l::ls->gD l=false:=fun l ls h=>by
    cases ad with
    |cons d2 ad=>
     have:l=gO d2:=by
      unfold lZ at h
      rw[lA]at h
      unfold ky at h
      simp only[kp]at h
      exact(List.cons.inj h).1.symm
     rw[this]
     exact(Mk d2).2.2
    |nil=>
     cases dead with
     |nil=>exact absurd rfl r
     |cons n dead=>
      have:l=lO n:=by
       have h:lO n::(dead.map lO++ [[]])=l::ls:=h
       exact(List.cons.inj h).1.symm
      rw[this]
      exact(Me n).2.2
   have w:=KY (Sp d) y
   rw[w.1,w.2,b]
   have o:gO d::(d.2.1.map iJ++d.2.2.map iP)=ky d:=rfl
   rw[o,(Tx g).1]
theorem Ah :∀(k u:Nat),1<=k->u<10^k->(Lib.decDigits u).length<=k
 |k,u,b,h=>by
  rw[qI]
  by_cases hu:u<10
  .rw [ai hu]
   exact b
  .rw [aC hu,bh,bS]
   match k,b with
   |1,_=>rw[Nat.pow_one]at h;omega
   |k+2,_=>
    have:=Ah (k+1) (u/10) (by omega) (by rw[Nat.pow_succ]at h;omega)
    omega
abbrev Wb :Type:=List aF×List Int×List UInt8
theorem Wl {c:aK} {l:b9} (h:gS c l=true):0<(alive l).length:=by
 rw[<-SF]at h
 simp only[a6,bo]at h
 exact h.2.2.2
def nI (c:aK) (l:b9):List UInt8:=bif cf (c,[l])then fa l.1.1 l.2 else []
def jK (c:aK) (ad:List aF):cq:=bif dQ c&&eR ad then(ad,eu c ad)else([],[])
def ng (c:aK) (s:List UInt8):Option b9:=
 let r:=fU (cutAt 10 s)
 let l:b9:=(jK c r.1,r.2)
 bif !decide (s=[])&&decide (nI c l=s)then some l else none
structure lF (c:aK) (l:b9):Prop where
 LZ:dQ c=true
 ad:eR l.1.1=true
 fo:l.1.2=eu c l.1.1
 some:0<l.1.1.length
 c7:l.1.1.length<=16
 dead:l.2.length<=60
 yE:∀n,n∈l.2->0<=n/\n<=999999999
theorem yL {c:aK} {l:b9} (h:cf (c,[l])=true):lF c l:=by
 obtain⟨g,p,i,r⟩:=gu h
 have b:gS c l=true:=cz.1 i l cb
 obtain⟨e,j,o,_⟩:=tc b
 have s:=Wl b
 have hle:(alive l).length<=l.1.1.length:=by unfold alive;exact ho _ _
 have hu:hO l.2=true:=by
  unfold gS at b
  rw[a6,a6]at b
  exact b.2.1
 exact⟨g,rq e,(iR e).2.2,by omega,j,o,(qc hu).2.2⟩
theorem uF {α β:Type} (f:α->List β) (k:Nat):∀l:List α,(∀x,x∈l->(f x).length<=k)->(l.flatMap f).length<=l.length*k
 | [],_=>by simp
 |x::l,h=>by
  have b:=h x cb
  have e:=uF f k l fun y hy=>h y (ch _ hy)
  rw[lA,bh,ba,eE]
  omega
theorem lF.pC {c:aK} {l:b9} (h:lF c l):∀d,d∈l.1.1->qw d:=fun d b=>Gy (nE h.ad d b)
theorem lF.cut {c:aK} {l:b9} (h:lF c l):cutAt 10 (fa l.1.1 l.2)=lZ l.1.1 l.2++ [[]]:=L8 (an7 h.pC fun n b=>(h.yE n b).1)
theorem lF.ap8 {c:aK} {l:b9} (h:lF c l):fU (cutAt 10 (fa l.1.1 l.2))=(l.1.1,l.2):=by rw[h.cut,Tz _ _ h.pC h.yE]
theorem lF.ne {c:aK} {l:b9} (h:lF c l):fa l.1.1 l.2≠ []:=by
 have b:=h.some
 obtain⟨⟨ad,fo⟩,dead⟩:=l
 cases ad with
 |nil=>simp at b
 |cons d ad=>
  unfold fa lZ
  rw[lA]
  unfold ky
  rw[kp,kp,yx]
  simp
theorem lF.c1 {c:aK} {l:b9} (h:lF c l):jK c l.1.1=l.1:=by
 unfold jK
 rw[h.LZ,h.ad,rO,ao,<-h.fo]
theorem M0 {c:aK} {s:List UInt8} {l:b9} (h:ng c s=some l):cf (c,[l])=true/\fa l.1.1 l.2=s:=by
 unfold ng at h
 dsimp only at h
 cases e: !decide (s=[])&&decide (nI c (jK c (fU (cutAt 10 s)).1,(fU (cutAt 10 s)).2)=s)with
 |false=>rw[e]at h;cases h
 |true=>
  rw[e,ao,iB]at h
  rw[h,a6,bo]at e
  obtain⟨g,b⟩:=e
  unfold nI at b
  cases i:cf (c,[l])with
  |true=>
   rw[i,ao]at b
   exact⟨rfl,b⟩
  |false=>
   rw[i,aj]at b
   rw[<-b]at g
   exact absurd g (by decide)
theorem Yy {c:aK} {l:b9} (h:cf (c,[l])=true):ng c (fa l.1.1 l.2)=some l:=by
 have o:=yL h
 unfold ng
 dsimp only
 rw[o.ap8]
 dsimp only
 have e:((jK c l.1.1,l.2):b9)=l:=by rw[o.c1]
 rw[e]
 unfold nI
 rw[h,ao,aq rfl,an o.ne]
 rfl
theorem Mi :∀u:Nat,u<10->bytesOf [IntKind.u8.wrap (48+(u:Int))]=[UInt8.ofNat (48+u)]:=by decide
theorem Xx (u:Nat):Lib.decDigits u=if u<10 then [UInt8.ofNat (48+u)]else Lib.decDigits (u/10)++ [UInt8.ofNat (48+u%10)]:=by
 rw[Lib.decDigits]
 by_cases h:u<10
 .rw [dif_pos h,ai h]
 .rw [dif_neg h,aC h]
theorem Mh (N:Nat):∀(D u:Nat),D<=100000000->u<10^(D+1)->(u:Int)<=9223372036854775807->Eb N (D+1) (u:Int)=some (Lib.decDigits u)/\(Lib.decDigits u).length<=D+1
 |D,u,r,b,s=>by
  rw[Xx,Eb,an (by omega:¬(u:Int)< -9223372036854775807),aj,an (by omega:¬(u:Int)<0),aj]
  by_cases h:u<10
  .rw [aq (by omega:(u:Int)<10),ao,ai h,ai (by unfold fits;omega),Mi u h]
   exact⟨rfl,by simp⟩
  .rw [an (by omega:¬(u:Int)<10),aj,aC h]
   have g:D≠0:=fun e=>by
    subst e
    rw[Nat.pow_succ,Nat.pow_zero]at b
    omega
   obtain⟨E,rfl⟩:∃E,D=E+1:=⟨D-1,by omega⟩
   have i:(u:Int).tdiv 10=((u/10:Nat):Int):=rfl
   have j:(u:Int).tmod 10=((u%10:Nat):Int):=rfl
   have hm:u%10<10:=mg _ (by decide)
   obtain⟨o,v⟩:=Mh N E (u/10) (by omega) (by rw[Nat.pow_succ]at b;omega) (by omega)
   have p:(Lib.decDigits (u/10)).length+1<=E+1+1:=by omega
   rw[i,j,ai (by decide:(10:Nat)≠0),ai (by unfold fits;omega),o,ag,ai (by decide:(10:Nat)≠0),ai (by unfold fits;omega),Mi _ hm,ai (by rw[bS];omega)]
   exact⟨rfl,by rw[bh,bS];exact p⟩
theorem Bv {n:Int} (e:0<=n) (g:n<=999999999):(jC n).length<=10:=by
 have h:(10:Nat)^(9+1)=10000000000:=by decide
 obtain⟨i,b⟩:=Mh 0 9 n.toNat (by omega) (by omega) (by omega)
 unfold jC Lib.itoa
 rw[aC (by omega)]
 exact b
theorem oF (N:Nat) (n:Int) (b: -9223372036854775808<=n) (e:n<=9223372036854775807):ke N n=some (jC n):=by
 unfold ke xV
 rw[ai ⟨b,e⟩]
theorem DT {α h ρ:Type} (f:α->List UInt8) (l:List α) {N:Nat} (j:l.length<N) (F:(h->Option ρ)->h->Option ρ) (st:List UInt8->Int->h) (pre:List UInt8) (res:Option ρ) (g:∀go,F go (st (pre++l.flatMap f) (l.length:Int))=res)
  (b:∀go (m:Nat) (hm:m<l.length),F go (st (pre++(l.take m).flatMap f) (m:Int))=go (st ((pre++(l.take m).flatMap f)++f l[m]) ((m:Int)+1))):iter F N (st pre 0)=res:=by
 have e:st pre 0=st (pre++(l.take 0).flatMap f) ((0:Nat):Int):=by simp
 rw[e]
 refine(dh F l.length (fun m=>st (pre++(l.take m).flatMap f) (m:Int)) (fun _=>res) (fun go=>?_) (fun go m hm i=>?_) N 0 (bg _) (by omega)).trans rfl
 .rw [cj]
  exact g go
 .rw [b go m hm,<-i,dT hm,wA,e5,aS]
  simp
theorem As {α:Type} (f:α->List UInt8) (k B:Nat) (l:List α) (h:∀x,x∈l->(f x).length<=k) (e:l.length*k<=B) (m:Nat):((l.take m).flatMap f).length<=B:=by
 have g:=uF f k (l.take m) fun x b=>h x (fC b)
 have i:(l.take m).length*k<=l.length*k:=ek _ (by rw[bN];omega)
 omega
theorem kc {n:Int} (b: -9223372036854775808<=n) (e:n<=9223372036854775807):(Lib.itoa n).length<=20:=by
 have g:(10:Nat)^19=10000000000000000000:=by decide
 unfold Lib.itoa
 split
 .have:=Ah 19 n.natAbs (by decide) (by omega)
  rw[ba]
  omega
 .have:=Ah 19 n.toNat (by decide) (by omega)
  omega
def k1 (f:eo):List UInt8:=iJ f++ [10]
def nD (a:gz):List UInt8:=iP a++ [10]
def oh (n:Int):List UInt8:=lO n++ [10]
theorem Jl {α:Type} (f:α->List UInt8) (l:List α):ji (l.map f)=l.flatMap fun x=>f x++ [10]:=by
 unfold ji
 rw[List.flatMap_map]
theorem FW (d:aF):jy d=(gO d++ [10]++d.2.1.flatMap k1)++d.2.2.flatMap nD:=by
 unfold jy ky
 rw[yx,R7,Jl,Jl]
 show _=(gO d++ [10]++d.2.1.flatMap fun x=>iJ x++ [10])++d.2.2.flatMap fun x=>iP x++ [10]
 simp
theorem R9 (ad:List aF) (dead:List Int):fa ad dead=ad.flatMap jy++dead.flatMap oh:=by
 unfold fa lZ
 rw[R7,Jl]
 have e:ji (ad.flatMap ky)=ad.flatMap jy:=by
  unfold ji jy
  rw[List.flatMap_assoc]
  rfl
 rw[e]
 rfl
structure jV (d:aF):Prop where
 id: -9223372036854775808<=d.1/\d.1<=9223372036854775807
 e2:d.2.1.length<=1048576
 ht:d.2.2.length<=1048576
 f:∀f,f∈d.2.1->f.1.length<=1048576/\f.2.length<=1048576
 a:∀a,a∈d.2.2->a.1.length<=1048576/\ -9223372036854775808<=a.2/\a.2<=9223372036854775807
theorem jV.of {d:aF} (h:cH bC fN d):jV d:=
 ⟨h.1,h.2.1.1,h.2.2.1,fun f e=>h.2.1.2 f e,fun a b=>⟨(h.2.2.2 a b).1,(h.2.2.2 a b).2⟩⟩
theorem jV.X8 {d:aF} (h:jV d):∀f,f∈d.2.1->(k1 f).length<=2097160:=fun f b=>by
 have:=h.f f b
 unfold k1 iJ
 simp only[bh,ba,bH]
 omega
theorem jV.ne {d:aF} (h:jV d):∀a,a∈d.2.2->(nD a).length<=2097160:=fun a e=>by
 have b:=h.a a e
 have g:=kc b.2.1 b.2.2
 unfold nD iP
 simp only[bh,ba,bH]
 omega
theorem jV.Gc {d:aF} (h:jV d) (m:Nat):((d.2.1.take m).flatMap k1).length<=2199031644160:=As k1 2097160 _ _ h.X8 (by have:=ek 2097160 h.e2;omega) m
theorem jV.Ds {d:aF} (h:jV d) (m:Nat):((d.2.2.take m).flatMap nD).length<=2199031644160:=As nD 2097160 _ _ h.ne (by have:=ek 2097160 h.ht;omega) m
theorem jV.head {d:aF} (h:jV d):(gO d++ [10]).length<=25:=by
 have b:=kc h.id.1 h.id.2
 unfold gO
 simp only[bh,ba,bH]
 omega
theorem jV.len {d:aF} (h:jV d):(jy d).length<=4398063288400:=by
 have g:=h.head
 have b:=h.Gc d.2.1.length
 have e:=h.Ds d.2.2.length
 rw[cj]at b e
 rw[FW,bh,bh]
 omega
theorem apy (N:Nat) (B:1048576<N) (r:N<=16777216) (d:aF) (h:jV d) (s:pJ N d.1 d.2.1 d.2.2=some true):Bf N d.1 d.2.1 d.2.2=some (jy d):=by
 have u:=oF N d.1 h.id.1 h.id.2
 have C:=h.head
 have v:=h.e2
 have x:=h.ht
 have y:=kc h.id.1 h.id.2
 have j:=h.Gc d.2.1.length
 rw[cj]at j
 unfold Bf
 rw[s,ag,bf,aj,u,ag]
 unfold jC
 rw[ai (by simp only[bh,ba,bH];omega),ai (by simp only[bh,ba,bH];omega)]
 have z:([100,111,99,32]++Lib.itoa d.1++ [10]:List UInt8)=gO d++ [10]:=rfl
 rw[z]
 refine DT k1 d.2.1 (by omega) _ (fun out i=>(out,d.2.1,(d.2.1.length:Int),i,d.1,d.2.1,d.2.2)) (gO d++ [10]) _ (fun go=>?_) (fun go m hm=>?_)
 .dsimp only
  rw[an (bm _),aj]
  refine DT nD d.2.2 (by omega) _ (fun out i=>(out,d.2.2,(d.2.2.length:Int),i)) (gO d++ [10]++d.2.1.flatMap k1) _ (fun go=>?_) (fun go m hm=>?_)
  .dsimp only
   rw[an (bm _),aj,FW]
  .have e:=h.a _ (br hm)
   have o:=h.Ds m
   have A:=kc e.2.1 e.2.2
   have g:=oF N _ e.2.1 e.2.2
   unfold jC at g
   have b:(gO d++ [10]++d.2.1.flatMap k1++(d.2.2.take m).flatMap nD).length<=5000000000000:=by
    rw[bh,bh]
    omega
   have p:nD d.2.2[m]=[110,117,109,32]++d.2.2[m].1++ [32]++Lib.itoa d.2.2[m].2++ [10]:=rfl
   rw[p]
   generalize gO d++ [10]++d.2.1.flatMap k1++(d.2.2.take m).flatMap nD=out at b⊢
   dsimp only
   rw[aq (by omega:(m:Int)<d.2.2.length),ao,aP hm,ag]
   rw[ai (by simp only[bh,ba,bH];omega),ai (by simp only[bh,ba,bH];omega),g,ag,ai (by simp only[bh,ba,bH];omega),ai (by simp only[bh,ba,bH];omega),ai (by simp only[bh,ba,bH];omega),ai (aO (n:=m) (by omega))]
 .have e:=h.f _ (br hm)
  have o:=h.Gc m
  have b:(gO d++ [10]++(d.2.1.take m).flatMap k1).length<=5000000000000:=by
   rw[bh]
   omega
  have p:k1 d.2.1[m]=[102,105,101,108,100,32]++d.2.1[m].1++ [32]++d.2.1[m].2++ [10]:=rfl
  rw[p]
  generalize gO d++ [10]++(d.2.1.take m).flatMap k1=out at b⊢
  dsimp only
  rw[aq (by omega:(m:Int)<d.2.1.length),ao,aP hm,ag]
  rw[ai (by simp only[bh,ba,bH];omega),ai (by simp only[bh,ba,bH];omega),ai (by simp only[bh,ba,bH];omega),ai (by simp only[bh,ba,bH];omega),ai (by simp only[bh,ba,bH];omega),ai (aO (n:=m) (by omega))]
theorem Md {n:Int} (b: -9223372036854775808<=n) (e:n<=9223372036854775807):(oh n).length<=26:=by
 have:=kc b e
 unfold oh lO
 simp only[bh,ba,bH]
 omega
structure wL (ad:List aF) (dead:List Int):Prop where
 d:∀d,d∈ad->jV d
 c7:ad.length<=100000
 n:∀n,n∈dead-> -9223372036854775808<=n/\n<=9223372036854775807
 small:dead.length<=1048576
theorem wL.Mc {ad:List aF} {dead:List Int} (h:wL ad dead) (m:Nat):((ad.take m).flatMap jy).length<=439806328840000000:=As jy 4398063288400 _ _ (fun d b=>(h.d d b).len) (by have:=ek 4398063288400 h.c7;omega) m
theorem wL.Ds {ad:List aF} {dead:List Int} (h:wL ad dead) (m:Nat):((dead.take m).flatMap oh).length<=100000000:=As oh 26 _ _ (fun n b=>Md (h.n n b).1 (h.n n b).2) (by have:=ek 26 h.small;omega) m
theorem dC.aro {N:Nat} {c:aK} {l:b9} (h:dC N (c,[l])) (e:cf (c,[l])=true):wL l.1.1 l.2:=by
 have o:=yL e
 have i:=o.c7
 have b:=o.dead
 have g:=o.yE
 exact⟨fun d b=>.of ((h.each l cb).1 d b),by omega,fun n hm=>by have:=g n hm;omega,by omega⟩
theorem R8 {N:Nat} {c:aK} {l:b9} (h:dC N (c,[l])):sz N c.1 c.2 l.1.1 l.1.2 l.2=some (nI c l):=by
 have A:1048576<N:=h.cS
 have r:=h.top
 have hi:=sF h
 unfold sz
 have e:mF N c.1 c.2 [((l.1.1,l.1.2),l.2)]=some (cf (c,[l])):=hi
 rw[e,ag]
 unfold nI
 cases x:cf (c,[l])with
 |false=>rfl
 |true=>
  have z:=h.aro x
  have o:=yL x
  have y:=z.c7
  have B:=z.small
  rw[bf,aj,ao]
  refine DT jy l.1.1 (by omega) _ (fun out i=>(out,l.1.1,(l.1.1.length:Int),i,l.1.1,l.1.2,l.2)) [] _ (fun go=>?_) (fun go m hm=>?_)
  .dsimp only
   rw[an (bm _),aj]
   refine DT oh l.2 (by omega) _ (fun out i=>(out,l.2,(l.2.length:Int),i)) ([]++l.1.1.flatMap jy) _ (fun go=>?_) (fun go m hm=>?_)
   .dsimp only
    rw[an (bm _),aj,R9,fE]
   .have g:=z.n _ (br hm)
    have j:=z.Mc l.1.1.length
    rw[cj]at j
    have C:=z.Ds m
    have F:=kc g.1 g.2
    have p:=oF N _ g.1 g.2
    unfold jC at p
    have b:([]++l.1.1.flatMap jy++(l.2.take m).flatMap oh).length<=500000000000000000:=by
     rw[bh,fE]
     omega
    have G:oh l.2[m]=[100,101,97,100,32]++Lib.itoa l.2[m]++ [10]:=rfl
    rw[G]
    generalize []++l.1.1.flatMap jy++(l.2.take m).flatMap oh=out at b⊢
    dsimp only
    rw[aq (by omega:(m:Int)<l.2.length),ao,aP hm,ag,p,ag,ai (by simp only[bh,ba,bH];omega),ai (by simp only[bh,ba,bH];omega),ai (by simp only[bh,ba,bH];omega),ai (aO (n:=m) (by omega))]
  .have g:=z.d _ (br hm)
   have s:gF l.1.1[m]=true:=nE o.ad _ (br hm)
   have u:=(h.each l cb).1 _ (br hm)
   have v:pJ N l.1.1[m].1 l.1.1[m].2.1 l.1.1[m].2.2=some true:=by
    have:=Aj N h.cS (by omega) l.1.1[m].1 l.1.1[m].2.1 l.1.1[m].2.2 u
    rw[this]
    exact congrArg some s
   have j:=z.Mc m
   have H:=g.len
   have b:([]++(l.1.1.take m).flatMap jy).length<=500000000000000000:=by
    rw[fE]
    omega
   generalize []++(l.1.1.take m).flatMap jy=out at b⊢
   dsimp only
   rw[aq (by omega:(m:Int)<l.1.1.length),ao,aP hm,ag,apy N A r _ g v,ag,ai (by omega),ai (aO (n:=m) (by omega))]
theorem Ac (b:UInt8) (s:List UInt8):(er b s).1.length<=s.length/\(er b s).2.1.length<=s.length:=by
 rcases Gl b s with h|⟨p,r,h,rfl⟩
 .rw [L6 h]
  exact⟨bE _,bg _⟩
 .rw [r8 h]
  simp only[bh,ba]
  omega
theorem FM {s:List UInt8} (h:s.length<=1048576):wX s [32]=some (er 32 s):=by
 unfold wX
 rw[ai (by omega)]
 rfl
theorem zW {s:List UInt8} (h:s.length<=1048576):wQ s=some (h0 s):=by
 unfold wQ
 rw[ai (by omega)]
theorem Fu (s:List UInt8): -9223372036854775808<=h0 s/\h0 s<=9223372036854775807:=by
 unfold h0
 cases h:Lib.atoiAll s with
 |range=>
  dsimp only
  unfold Lib.atoiSat
  split<;>omega
 |ok v=>
  dsimp only
  cases s with
  |nil=>cases h
  |cons c r=>
   unfold Lib.atoiAll at h
   dsimp only at h
   split at h
   .cases h
   .cases h
   .split at h
    .cases h
    .split at h
     .cases h
     .simp only [Lib.NumEnd.ok.injEq]at h
      subst h
      split<;>omega
 |_=>dsimp only;omega
theorem GL (N:Nat) (s p:List UInt8):vu N s p=some (p.isPrefixOf s):=by
 have e:s3 N s p=some (p.isPrefixOf s):=by
  unfold s3
  by_cases h:p.length<=s.length
  .rw [aq (by omega:(p.length:Int)<=(s.length:Int)),ao,wY s p.length h,ag]
   congr 1
   rw[ma,bo,E4,List.prefix_iff_eq_take]
   exact eq_comm
  .rw [an (by omega:¬(p.length:Int)<=(s.length:Int)),aj]
   congr 1
   rw[ma]
   constructor
   .intro h;cases h
   .intro b
    rw[E4]at b
    exact absurd b.length_le h
 unfold vu
 rw[e,ag]
theorem Xn (N:Nat) (s p:List UInt8):Da N s p=some (bif p.isPrefixOf s then(s.drop p.length,true)else(s,false)):=by
 have e:=GL N s p
 unfold vu at e
 have g:s3 N s p=some (p.isPrefixOf s):=by
  cases h:s3 N s p with
  |none=>rw[h]at e;cases e
  |some r=>rw[h]at e;exact e
 unfold Da I8
 rw[g,ag]
 cases b:p.isPrefixOf s with
 |false=>rfl
 |true=>
  have i:p.length<=s.length:=by
   rw[E4]at b
   exact b.length_le
  rw[bf,aj,Ad s p.length i]
  rfl
def fA :List (List UInt8)->Nat
 | []=>0
 |l::ls=>l.length+1+fA ls
theorem EA :∀a b:List (List UInt8),fA (a++b)=fA a+fA b
 | [],b=>by simp[fA]
 |l::a,b=>by
  rw[kp,fA,fA,EA a b]
  omega
theorem EB :∀a:List (List UInt8),a.length<=fA a
 | []=>bE _
 |l::a=>by
  have:=EB a
  rw[ba,fA]
  omega
theorem KN :∀ {a:List (List UInt8)} {l:List UInt8},l∈a->l.length+1<=fA a
 |x::a,l,h=>by
  rw[fA]
  rcases bn.1 h with rfl|h
  .omega
  .have:=KN h
   omega
theorem KM (b:UInt8):∀s:List UInt8,fA (cutAt b s)=s.length+1
 | []=>rfl
 |x::s=>by
  have e:=KM b s
  unfold cutAt
  split
  .rw [fA,e,bH,ba]
   omega
  .cases h:cutAt b s with
   |nil=>exact absurd h (L7 b s)
   |cons p ps=>
    rw[h,fA]at e
    dsimp only
    rw[fA,ba,ba]
    omega
theorem Uo (ls:List (List UInt8)) (n:Nat):fA (ls.take n)<=fA ls:=by
 have h:=EA (ls.take n) (ls.drop n)
 rw[ko]at h
 omega
structure lG (d:aF) (n:Nat):Prop where
 id: -9223372036854775808<=d.1/\d.1<=9223372036854775807
 e2:4*d.2.1.length<=n
 ht:4*d.2.2.length<=n
 f:∀f,f∈d.2.1->f.1.length<=1048576/\f.2.length<=1048576
 a:∀a,a∈d.2.2->a.1.length<=1048576/\ -9223372036854775808<=a.2/\a.2<=9223372036854775807
theorem lG.zero :lG (0,[],[]) 0:=⟨by decide,bE _,bE _,(fun f h=>by cases h),(fun f h=>by cases h)⟩
theorem lG.line {d:aF} {n:Nat} (h:lG d n) {l:List UInt8} (p:l.length<=1048576):lG (iU d l) (n+(l.length+1)):=by
 obtain⟨g,r⟩:=Ac 32 l
 obtain⟨m1,m2⟩:=Ac 32 (er 32 l).2.1
 have s:=h.e2
 have u:=h.ht
 unfold iU
 dsimp only
 by_cases o:(er 32 l).1=[100,111,99]
 .rw [aq o,ao]
  exact⟨Fu _,by dsimp only;omega,by dsimp only;omega,h.f,h.a⟩
 rw[an o,aj]
 by_cases i:(er 32 l).1=[102,105,101,108,100]
 .rw [aq i,ao]
  rw[i]at g
  simp only[ba,bH]at g
  refine⟨h.id,by dsimp only;rw[bh,bS];omega,by dsimp only;omega,fun f b=>?_,h.a⟩
  rcases cE.1 b with b|b
  .exact h.f f b
  .rw [du]at b
   subst b
   dsimp only
   omega
 rw[an i,aj]
 by_cases j:(er 32 l).1=[110,117,109]
 .rw [aq j,ao]
  rw[j]at g
  simp only[ba,bH]at g
  refine⟨h.id,by dsimp only;omega,by dsimp only;rw[bh,bS];omega,h.f,fun a e=>?_⟩
  rcases cE.1 e with e|e
  .exact h.a a e
  .rw [du]at e
   subst e
   have:=Fu (er 32 (er 32 l).2.1).2.1
   dsimp only
   omega
 rw[an j,aj]
 exact⟨h.id,by omega,by omega,h.f,h.a⟩
theorem lG.fold :∀(ls:List (List UInt8)) {d:aF} {n:Nat},lG d n->(∀l,l∈ls->l.length<=1048576)->lG (ls.foldl iU d) (n+fA ls)
 | [],d,n,h,_=>h
 |l::ls,d,n,h,b=>by
  rw[eZ,fA,<-mY]
  exact lG.fold ls (h.line (b l cb)) fun x e=>b x (ch _ e)
theorem lG.cH {d:aF} {n:Nat} (h:lG d n) (g:n<=4194304):cH bC fN d:=by
 have i:=h.e2
 have j:=h.ht
 exact⟨h.id,⟨by show d.2.1.length<=1048576;omega,fun f e=>h.f f e⟩,⟨by show d.2.2.length<=1048576;omega,fun a b=>⟨(h.a a b).1,(h.a a b).2⟩⟩⟩
theorem ap6 {ls:List (List UInt8)} (b:∀l,l∈ls->l.length<=1048576) (e:fA ls<=4194304):cH bC fN (nN ls):=
 (lG.fold ls .zero b).cH (by omega)
theorem asb (p:List UInt8->Bool) (ls:List (List UInt8)):fA (ls.takeWhile p)+fA (ls.dropWhile p)=fA ls:=by rw[<-EA,List.takeWhile_append_dropWhile]
theorem Kp :∀(k:Nat) (ls:List (List UInt8)),ls.length<=k->(∀l,l∈ls->l.length<=1048576)->fA ls<=4194304->2*(fU ls).1.length<=fA ls/\2*(fU ls).2.length<=fA ls/\(∀d,d∈(fU ls).1->cH bC fN d)/\∀n,n∈(fU ls).2-> -9223372036854775808<=n/\n<=9223372036854775807
 |_,[],_,_,_=>by
  rw[fU]
  exact⟨bE _,bE _,(fun d h=>by cases h),(fun d h=>by cases h)⟩
 |0,l::ls,h,_,_=>absurd h (by simp)
 |k+1,l::ls,s,b,u=>by
  rw[ba]at s
  rw[fA]at u
  have i:=b l cb
  rw[fU,fA]
  cases r:kY.isPrefixOf l with
  |true=>
   obtain⟨v,z,e,g⟩:=Kp k ls (by omega) (fun x j=>b x (ch _ j)) (by omega)
   rw[ao]
   have B:5<=l.length:=by
    rw[E4]at r
    exact r.length_le
   refine⟨by dsimp only;omega,by dsimp only;rw[ba];omega,e,fun n o=>?_⟩
   rcases bn.1 o with rfl|o
   .exact Fu _
   .exact g n o
  |false=>
   have hw:=asb gD ls
   have A:(ls.dropWhile gD).length<=ls.length:=(List.dropWhile_sublist _).length_le
   obtain⟨v,z,e,g⟩:=Kp k (ls.dropWhile gD) (by omega) (fun x j=>b x (ch _ ((List.dropWhile_sublist _).subset j))) (by omega)
   rw[aj]
   cases l with
   |nil=>
    rw[aq rfl,bf,aj]
    exact⟨by dsimp only;omega,by dsimp only;omega,e,g⟩
   |cons x l=>
    rw[an (by simp),dH,ao]
    refine⟨by dsimp only;rw[ba,ba];omega,by dsimp only;omega,fun d p=>?_,g⟩
    rcases bn.1 p with rfl|p
    .refine ap6 (fun y hy=>?_) (by rw[fA];omega)
     rcases bn.1 hy with rfl|hy
     .exact i
     .exact b y (ch _ ((List.takeWhile_sublist _).subset hy))
    .exact e d p
theorem ap7 (N:Nat) (G:1048600<=N) (ls:List (List UInt8)) (x:∀l,l∈ls->l.length<=1048576) (H:fA ls<=1048577):sD N ls=some (nN ls):=by
 have hlen:=EB ls
 unfold sD
 refine Def.get ?_
 refine Def.iter (fun g=>∃(n:Nat) (D:aF),g=(ls,(ls.length:Int),(n:Int),(0:Int),D.1,D.2.1,D.2.2)/\n<=ls.length/\D=(ls.take n).foldl iU (0,[],[])) (fun g=>ls.length-g.2.2.1.toNat) (fun go g y z=>?_) N _ ⟨0,(0,[],[]),rfl,bg _,rfl⟩ (by dsimp only;omega)
 obtain⟨n,D,rfl,A,j⟩:=y
 dsimp only
 by_cases o:n<ls.length
 .have B:=x _ (br o)
  have v:=lG.fold (ls.take n) .zero fun l h=>x l (fC h)
  rw[<-j]at v
  have I:=v.e2
  have J:=v.ht
  have K:=Uo ls n
  have e:(ls.take (n+1)).foldl iU (0,[],[])=iU D ls[n]:=by rw[dT o,hW,j];rfl
  have b:∀i:aF,i=iU D ls[n]->Def (go (ls,(ls.length:Int),((n:Int)+1),(0:Int),i.1,i.2.1,i.2.2)) fun r=>r=nN ls:=fun i h=>z _ ⟨n+1,i,by rw[aS],o,by rw[e,h]⟩ (by dsimp only;omega)
  have L:=(Ac 32 ls[n]).2
  have M:=(Ac 32 (er 32 ls[n]).2.1).2
  have C:s4 N ls[n] [32]=some (er 32 ls[n]):=FM B
  have c2:s4 N (er 32 ls[n]).2.1 [32]=some (er 32 (er 32 ls[n]).2.1):=FM (by omega)
  have F:nz N (er 32 ls[n]).2.1=some (h0 (er 32 ls[n]).2.1):=zW (by omega)
  have a2:nz N (er 32 (er 32 ls[n]).2.1).2.1=some (h0 (er 32 (er 32 ls[n]).2.1).2.1):=zW (by omega)
  rw[aq (by omega:(n:Int)<ls.length),ao,aP o,ag,C,ag,c2,ag,F,a2,ag,ag]
  unfold iU at b
  dsimp only at b
  by_cases p:(er 32 ls[n]).1=[100,111,99]
  .rw [aq p,ao]at b
   rw[aq p,ao]
   exact Def.ite (aO (n:=n) (by omega)) (b _ rfl)
  rw[an p,aj]at b
  rw[an p,aj]
  by_cases s:(er 32 ls[n]).1=[102,105,101,108,100]
  .rw [aq s,ao]at b
   rw[aq s,ao]
   exact Def.ite (bW (by rw[bS];omega) (by rw[bS];omega)) (Def.ite (aO (n:=n) (by omega)) (b _ rfl))
  rw[an s,aj]at b
  rw[an s,aj]
  by_cases u:(er 32 ls[n]).1=[110,117,109]
  .rw [aq u,ao]at b
   rw[aq u,ao]
   exact Def.ite (bW (by rw[bS];omega) (by rw[bS];omega)) (Def.ite (aO (n:=n) (by omega)) (b _ rfl))
  rw[an u,aj]at b
  rw[an u,aj]
  exact Def.ite (aO (n:=n) (by omega)) (b _ rfl)
 .rw [an (by omega:¬(n:Int)<ls.length),aj]
  rw[jS (by omega)]at j
  refine Def.ret ?_
  unfold nN
  rw[<-j]
def DE :Option b9->List aF×List cQ×List Int×Bool
 |some l=>(l.1.1,l.1.2,l.2,true)
 |none=>([],[],[],false)
theorem Yx {c:aK} {s:List UInt8} (b:dQ c=false):ng c s=none:=by
 cases h:ng c s with
 |none=>rfl
 |some l=>
  have:=(gu (M0 h).1).1
  rw[b]at this
  cases this
theorem aqF (c:aK) (ad:List aF):(jK c ad).1=ad\/(jK c ad).1=[]:=by
 unfold jK
 cases dQ c&&eR ad
 .exact .inr rfl
 .exact .inl rfl
theorem XO {α:Type} (l:List α) {a e:Nat} (h:a<=e) (he:e<=l.length):l.drop a=(l.take e).drop a++l.drop e:=by
 have g:l.take e++l.drop e=l:=ko e l
 have b:(l.take e++l.drop e).drop a=(l.take e).drop a++l.drop e:=by rw[List.drop_append_of_le_length (by rw[bN];omega)]
 rw[g]at b
 exact b
theorem Yg {N:Nat} (i:bC<N) (j:N<=16777216) {c:aK} (c8:cH bC gJ c) {ad:List aF} {dead:List Int} (o:∀d,d∈ad->cH bC fN d) (p:ad.length<=1048576) (b:dead.length<=1048576):dC N (c,[(jK c ad,dead)]):=
 ⟨i,j,c8,by show 1<=1048576;omega,fun l g=>by
  rw[du]at g
  subst g
  dsimp only
  rcases aqF c ad with e|e
  .rw [e];exact⟨o,p,b⟩
  .rw [e];exact⟨(fun d h=>by cases h),bg _,b⟩⟩
set_option maxHeartbeats 1000000 in
theorem an6 {N:Nat} (ow:1048600<=N) (F:N<=16777216) (c:aK) (c8:cH bC gJ c) (s:List UInt8) (aU:s.length<=1048576):Bi N c.1 c.2 s=some (DE (ng c s)):=by
 have M:bC<N:=by show 1048576<N;omega
 unfold Bi
 rw[r6 N M (by omega) c c8,ag]
 cases O:dQ c with
 |false=>
  rw[dH,ao,Yx O]
  rfl
 |true=>
  have P:yr N s [10]=some (cutAt 10 s):=by
   show tz s [10]=_
   unfold tz
   dsimp only
   rw[ai (by omega)]
  rw[bf,aj,P,ag]
  refine Def.get ?_
  have G:=KM 10 s
  have o:ng c s=(let r:=fU (cutAt 10 s);let l:b9:=(jK c r.1,r.2);bif !decide (s=[])&&decide (nI c l=s)then some l else none):=rfl
  generalize cutAt 10 s=ls at G o⊢
  have Q:∀l,l∈ls->l.length<=1048576:=fun l h=>by have:=KN h;omega
  have hlen:=EB ls
  obtain⟨Y,Z,K,jI⟩:=Kp _ ls (bE _) Q (by omega)
  refine Def.iter (fun g=>∃(ad:List aF) (dead:List Int) (a:Nat),g=(s,ad,dead,ls,(a:Int),c.1,c.2)/\a<=ls.length/\ad.length<=a/\dead.length<=a/\(ad++(fU (ls.drop a)).1,dead++(fU (ls.drop a)).2)=fU ls) (fun g=>ls.length-g.2.2.2.2.1.toNat) (fun go g S T=>?_) N _ ⟨[],[],0,rfl,bg _,bE _,bE _,by simp⟩ (by dsimp only;omega)
  obtain⟨ad,dead,a,rfl,aG,aX,bD,i⟩:=S
  dsimp only
  by_cases C:a<ls.length
  .have bd:ls.drop a=ls[a]::ls.drop (a+1):=eY C
   have z:=Q _ (br C)
   rw[aq (by omega:(a:Int)<ls.length),ao,aP C,ag,Xn,ag]
   rw[bd,fU]at i
   cases L:kY.isPrefixOf ls[a]with
   |true=>
    have A:([100,101,97,100,32]:List UInt8).isPrefixOf ls[a]=true:=L
    have U:nz N (ls[a].drop ([100,101,97,100,32]:List UInt8).length)=some (h0 (ls[a].drop 5)):=zW (by rw[eF];omega)
    rw[L,ao]at i
    rw[A,ao]
    dsimp only
    rw[ao,U,ag]
    refine Def.ite (bW (by rw[bS];omega) (by rw[bS];omega)) (Def.ite (aO (by omega)) (T _ ⟨ad,dead++ [h0 (ls[a].drop 5)],a+1,by rw[aS],C,by omega,by rw[bh,bS];omega,?_⟩ (by dsimp only;omega)))
    rw[<-i]
    simp
   |false=>
    have A:([100,101,97,100,32]:List UInt8).isPrefixOf ls[a]=false:=L
    rw[L,aj]at i
    rw[A,aj]
    dsimp only
    rw[aj,ai (aO (by omega))]
    refine Def.iter (fun g=>∃e:Nat,g=(s,ad,dead,ls,(a:Int),(e:Int),c.1,c.2)/\a+1<=e/\e<=ls.length/\∀x,x∈(ls.take e).drop (a+1)->gD x=true) (fun g=>ls.length-g.2.2.2.2.2.1.toNat) (fun go2 g S V=>?_) N _ ⟨a+1,by rw[aS],bE _,C,fun x z=>by rw[mf (by rw[bN];omega)]at z;cases z⟩ (by dsimp only;omega)
    obtain⟨e,rfl,g1,g2,g3⟩:=S
    have b:(∀y ys,ls.drop e=y::ys->gD y=false)->Def (Option.bind (idx ls (a:Int)) fun(gP:List UInt8)=>bif(!decide (gP=([]:List UInt8)))then(Option.bind (cut ls (a:Int) (e:Int)) fun(y:List (List UInt8))=>Option.bind (sD N y) fun(o3:aF)=>if room ad.length ([o3]:List aF).length 56 then go (s,ad++([o3]:List aF),dead,ls,(e:Int),c.1,c.2)else none)else go (s,ad,dead,ls,(e:Int),c.1,c.2)) fun r=>r=DE (ng c s):=fun H=>by
     have hw:=KY g3 H
     rw[<-XO ls (by omega) g2]at hw
     rw[hw.1,hw.2]at i
     rw[aP C,ag]
     by_cases bL:ls[a]=[]
     .rw [aq bL,bf,aj]at i⊢
      exact T _ ⟨ad,dead,e,rfl,g2,by omega,by omega,i⟩ (by dsimp only;omega)
     .rw [an bL,dH,ao]at i⊢
      refine Def.cut (by omega) (by omega) (by omega) ?_
      rw[eg,eg]
      have W:a<(ls.take e).length:=by rw[bN];omega
      have O:(ls.take e).drop a=ls[a]::(ls.take e).drop (a+1):=by rw[eY W,List.getElem_take]
      have I:∀l,l∈(ls.take e).drop a->l∈ls:=fun l h=>fC (qi h)
      have X:fA ((ls.take e).drop a)<=1048577:=by
       have cW:=EA ((ls.take e).take a) ((ls.take e).drop a)
       rw[ko]at cW
       have cO:=Uo ls e
       omega
      rw[ap7 N ow _ (fun l h=>Q l (I l h)) X,ag]
      refine Def.ite (bW (by rw[bS];omega) (by rw[bS];omega)) (T _ ⟨ad++ [nN ((ls.take e).drop a)],dead,e,rfl,g2,by rw[bh,bS];omega,by omega,?_⟩ (by dsimp only;omega))
      rw[<-i,O]
      simp
    dsimp only
    by_cases he:e<ls.length
    .have J:ls.drop e=ls[e]::ls.drop (e+1):=eY he
     rw[aq (by omega:(e:Int)<ls.length),ao,aP he,ag,GL,ag]
     cases p:uz.isPrefixOf ls[e]with
     |true=>
      have B:([100,111,99,32]:List UInt8).isPrefixOf ls[e]=true:=p
      rw[B,bf,aj]
      refine b fun y ys hy=>?_
      rw[J,List.cons.injEq]at hy
      rw[<-hy.1]
      unfold gD
      rw[p]
      rfl
     |false=>
      have B:([100,111,99,32]:List UInt8).isPrefixOf ls[e]=false:=p
      rw[B,dH,ao,ag,GL,ag]
      cases u:kY.isPrefixOf ls[e]with
      |true=>
       have j:([100,101,97,100,32]:List UInt8).isPrefixOf ls[e]=true:=u
       rw[j,bf,aj]
       refine b fun y ys hy=>?_
       rw[J,List.cons.injEq]at hy
       rw[<-hy.1]
       unfold gD
       rw[p,u]
       rfl
      |false=>
       have j:([100,101,97,100,32]:List UInt8).isPrefixOf ls[e]=false:=u
       rw[j,dH,ao]
       refine Def.ite (aO (by omega)) (V _ ⟨e+1,by rw[aS],by omega,he,fun x z=>?_⟩ (by dsimp only;omega))
       rw[dT he,List.drop_append_of_le_length (by rw[bN];omega),cE,du]at z
       rcases z with z|rfl
       .exact g3 x z
       .unfold gD
        rw[p,u]
        rfl
    .rw [an (by omega:¬(e:Int)<ls.length),aj]
     refine b fun y ys hy=>?_
     rw[mf (by omega)]at hy
     cases hy
  .rw [an (by omega:¬(a:Int)<ls.length),aj]
   rw[mf (by omega),fU,fe,fe]at i
   rw[<-i]at Y Z K jI o
   dsimp only at Y Z K jI o
   rw[KD N M F c c8 ad K (by omega)]
   have XU:(bif dQ c&&eR ad then(ad,eu c ad)else(([],[]):cq))=jK c ad:=rfl
   rw[XU,ag]
   by_cases v:s=[]
   .rw [aq v,ao]
    rw[aq v,bf,pf,aj]at o
    rw[o]
    exact Def.ret rfl
   .rw [an v,aj]
    rw[an v,dH,cl]at o
    have cT:=Yg M F c8 K (by omega) (by omega:dead.length<=1048576)
    have YZ:sz N c.1 c.2 (jK c ad).1 (jK c ad).2 dead=some (nI c (jK c ad,dead)):=R8 cT
    rw[YZ,ag]
    by_cases p:nI c (jK c ad,dead)=s
    .rw [aq p,ao]at o
     rw[aq p,bf,aj,o]
     exact Def.ret rfl
    .rw [an p,aj]at o
     rw[an p,dH,ao,o]
     exact Def.ret rfl
structure ass (d:aF) (n:Nat):Prop where
 id: -9223372036854775808<=d.1/\d.1<=9223372036854775807
 e2:d.2.1.length<=n
 ht:d.2.2.length<=n
 f:∀f,f∈d.2.1->f.1.length<=1048576/\f.2.length<=1048576
 a:∀a,a∈d.2.2->a.1.length<=1048576/\ -9223372036854775808<=a.2/\a.2<=9223372036854775807
structure ast (st:Wb) (k m t:Nat):Prop where
 gE:∀d,d∈st.1->cH bC fN d
 Jb:st.1.length<=k
 atv:st.2.1.length<=m
 num:∀n,n∈st.2.1-> -1<=n/\n<=999999999
 iW:st.2.2.length<=t
theorem aoR {d:aF} (h:gF d=true):cH bC fN d:=by
 have g:=Gy h
 have r:=g.Br
 have s:=g.oE
 have u:=g.e2
 have v:=g.ht
 refine⟨⟨by show(-9223372036854775808:Int)<=d.1;omega,by show d.1<=9223372036854775807;omega⟩,⟨by show d.2.1.length<=1048576;omega,fun(f:eo) i=>?_⟩,⟨by show d.2.2.length<=1048576;omega,fun(a:gz) j=>?_⟩⟩
 .obtain ⟨b,e⟩:=g.f f i
  have o:=((iw _).1 b).2.2
  have p:=JW e
  exact⟨by show f.1.length<=1048576;omega,by show f.2.length<=1048576;omega⟩
 .obtain ⟨b,e,o⟩:=g.a a j
  have p:=((iw _).1 b).2.2
  exact⟨by show a.1.length<=1048576;omega,by show(-9223372036854775808:Int)<=a.2;omega,by show a.2<=9223372036854775807;omega⟩
theorem XF {d:aF} (h:gF d=true):(jy d).length<=1000:=by
 have g:=Gy h
 have u:=kc (n:=d.1) (by have:=g.Br;omega) (by have:=g.oE;omega)
 have v:=uF k1 200 d.2.1 fun f i=>by
  obtain⟨b,e⟩:=g.f f i
  have j:=((iw _).1 b).2.2
  have o:=JW e
  unfold k1 iJ
  simp only[bh,ba,bH]
  omega
 have x:=uF nD 60 d.2.2 fun a p=>by
  obtain⟨b,e,j⟩:=g.a a p
  have o:=((iw _).1 b).2.2
  have y:=kc (n:=a.2) (by omega) (by omega)
  unfold nD iP
  simp only[bh,ba,bH]
  omega
 have r:=g.e2
 have s:=g.ht
 have z:=ek 200 r
 have A:=ek 60 s
 rw[FW]
 unfold gO
 simp only[bh,ba,bH]
 omega
theorem lF.small {c:aK} {l:b9} (o:lF c l):(fa l.1.1 l.2).length<=1048576:=by
 have g:=uF jy 1000 l.1.1 fun d b=>XF (nE o.ad d b)
 have h:=uF oh 26 l.2 fun n e=>by
  have:=o.yE n e
  exact Md (by omega) (by omega)
 have i:=ek 1000 o.c7
 have j:=ek 26 o.dead
 rw[R9,bh]
 omega
theorem WV {code:List Int} (h:cH zy (.ar (.int .u8)) code):qs code:=fun x e=>by
 have:=h.2 x e
 have g:IntKind.u8.min=0:=by decide
 have i:IntKind.u8.max=255:=by decide
 exact⟨by have b:=this.1;rw[g]at b;exact b,by have b:=this.2;rw[i]at b;exact b⟩
end Go.Proofs.YtnkagklajgimlaaGreatDoor
