
import Derived.Test.YtnkagklajgimlaaGreatDoorFS
import Derived.Test.YtnkagklajgimlaaGreatDoorQ1
import Derived.Test.YtnkagklajgimlaaGreatDoorG1
import Derived.Test.YtnkagklajgimlaaGreatDoorQA
import Derived.Test.YtnkagklajgimlaaGreatDoorSJ
set_option linter.unusedVariables false
set_option linter.unusedSimpArgs false
namespace Go.Proofs.YtnkagklajgimlaaGreatDoor
open Go.RowKit
theorem j9 {d:Type} (F:(d->Option Bool)->d->Option Bool) (len:Nat) (st:Nat->d) (a:Nat->Bool) (fin:Bool) (c:∀go,F go (st len)=some fin)
  (b:∀go n,n<len->F go (st n)=bif a n then go (st (n+1))else some false) (N:Nat) (h:len<N):iter F N (st 0)=some (((List.range' 0 len).all a)&&fin):=by
 have key:=dB F len st (fun n=>some (((List.range' n (len-n)).all a)&&fin)) (fun go=>by rw[c,Nat.sub_self];simp) (fun go n f e=>?_) N 0 (bg _) (by omega)
 .simpa using key
 .rw [b go n f,e,show len-n=(len-(n+1))+1 from by omega,List.range'_succ,List.all_cons]
  cases a n<;>simp
def dL (len:Nat) (a:Nat->Bool):Bool:=(List.range' 0 len).all a
theorem my :∀(x y:List UInt8),(Op.bytesLess x y||decide (x=y))= !Op.bytesLess y x
 | [],[]=>by simp[Op.bytesLess]
 |_::_,[]=>by simp[Op.bytesLess]
 | [],_::_=>by simp[Op.bytesLess]
 |a::x,b::y=>by
  have g:=my x y
  simp only[Op.bytesLess]
  rcases sT a.toNat b.toNat with h|h|h
  .have c:a<b:=UInt8.lt_iff_toNat_lt.2 h
   have d:¬b<a:=fun e=>by have:=UInt8.lt_iff_toNat_lt.1 e;omega
   have f:¬b=a:=fun e=>by rw[e]at h;omega
   simp[c,d,f]
  .have c:a=b:=UInt8.toNat_inj.1 h
   subst c
   have d:¬a<a:=fun e=>by have:=UInt8.lt_iff_toNat_lt.1 e;omega
   simpa[d]using g
  .have c:b<a:=UInt8.lt_iff_toNat_lt.2 h
   have d:¬a<b:=fun e=>by have:=UInt8.lt_iff_toNat_lt.1 e;omega
   have f:¬a=b:=fun e=>by rw[e]at h;omega
   simp[c,d,f]
def gv (n:Int):Bool:=(decide (97<=n)&&decide (n<=122))||(decide (48<=n)&&decide (n<=57))
theorem Bg (N:Nat) (n:Int):rW N n=some (gv n):=by
 unfold rW gv
 cases decide (97<=n)<;>cases decide (n<=122)<;>cases decide (48<=n)<;>cases decide (n<=57)<;>rfl
theorem ahu :∀n:Nat,n<256->(match lk 0 (n:Int)with|some r=>(decide (r=(n:Int))&& !decide ((n:Int)=0))==gv n|none=>false)=true:=by decide+kernel
theorem aif (N:Nat) (c:UInt8):∃r,lk N (c.toNat:Int)=some r/\(decide (r=(c.toNat:Int))&& !decide ((c.toNat:Int)=0))=gv c.toNat:=by
 have h:=ahu c.toNat (UInt8.toNat_lt c)
 have e:lk N (c.toNat:Int)=lk 0 (c.toNat:Int):=rfl
 rw[e]
 cases a:lk 0 (c.toNat:Int)with
 |none=>rw[a]at h;cases h
 |some r=>rw[a]at h;exact⟨r,rfl,by simpa using h⟩
def gb (s:List UInt8) (n:Nat):Int:=((s[n]?.getD 0).toNat:Int)
theorem pS {s:List UInt8} {n:Nat} (h:n<s.length):(s[n].toNat:Int)=gb s n:=by unfold gb;rw[bH h];rfl
theorem hl (N:Nat) (n a b:Int):fb N n a b=some (decide (a<=n)&&decide (n<=b)):=by
 unfold fb;cases decide (a<=n)<;>rfl
theorem nZ (N:Nat) (n a b:Int):iN N n a b=some (decide (a<=n)&&decide (n<=b)):=by
 unfold iN;cases decide (a<=n)<;>rfl
def okW (s:List UInt8):Bool:=dL s.length (fun n=>gv (gb s n))&&(decide ((1:Int)<=s.length)&&decide ((s.length:Int)<=12))
theorem lA (N:Nat) (s:List UInt8) (h:s.length<N) (b:N<=1099511627776):iO N s=some (okW s):=by
 unfold iO
 refine j9 _ s.length (fun n=>(s,(s.length:Int),(n:Int))) (fun n=>gv (gb s n)) _ (fun go=>?_) (fun go n a=>?_) N h
 .dsimp only
  rw[ak (bp _),aj,hl,af]
 .dsimp only
  rw[aq (by omega:(n:Int)<s.length),ao,aO a,af,Bg,af,pS a,ai (aN (n:=n) (by omega)),aR]
  cases gv (gb s n)<;>rfl
theorem r6 (N:Nat) (s:List UInt8) (h:s.length<N) (d:N<=1099511627776):nT N s=some (okW s):=by
 unfold nT
 refine j9 _ s.length (fun n=>(s,(n:Int))) (fun n=>gv (gb s n)) _ (fun go=>?_) (fun go n a=>?_) N h
 .dsimp only
  rw[ak (bp _),aj,nZ,af]
 .dsimp only
  obtain⟨r,b,c⟩:=aif N s[n]
  rw[aq (by omega:(n:Int)<s.length),ao,aO a,af,b,af,af,af,ai (aN (n:=n) (by omega)),aR,<-pS a,<-c]
  cases decide (r=(s[n].toNat:Int))<;>cases decide ((s[n].toNat:Int)=0)<;>rfl
def fz (s:List UInt8):Bool:=dL s.length (fun n=> !decide (gb s n<32)&& !decide (126<gb s n))&&decide ((s.length:Int)<=160)
theorem GG (N:Nat) (s:List UInt8) (h:s.length<N) (b:N<=1099511627776):ub N s=some (fz s):=by
 unfold ub
 refine j9 _ s.length (fun n=>(s,(s.length:Int),(n:Int))) (fun n=> !decide (gb s n<32)&& !decide (126<gb s n)) _ (fun go=>?_) (fun go n a=>?_) N h
 .dsimp only
  rw[ak (bp _),aj]
 .dsimp only
  rw[aq (by omega:(n:Int)<s.length),ao,aO a,af,af,pS a,ai (aN (n:=n) (by omega)),aR]
  cases decide (gb s n<32)<;>cases decide (126<gb s n)<;>rfl
theorem af8 (N:Nat) (s:List UInt8) (h:s.length<N) (b:N<=1099511627776):Bd N s=some (fz s):=by
 unfold Bd
 refine j9 _ s.length (fun n=>(s,(n:Int))) (fun n=> !decide (gb s n<32)&& !decide (126<gb s n)) _ (fun go=>?_) (fun go n a=>?_) N h
 .dsimp only
  rw[ak (bp _),aj]
 .dsimp only
  rw[aq (by omega:(n:Int)<s.length),ao,aO a,af,af,pS a,ai (aN (n:=n) (by omega)),aR]
  cases decide (gb s n<32)<;>cases decide (126<gb s n)<;>rfl
def nw (p e:List UInt8):Bool:=Op.bytesLess p e
def p4 (xs:List ei) (n:Nat):ei:=xs[n]?.getD ([],[])
def oG (xs:List gl) (n:Nat):gl:=xs[n]?.getD ([],0)
theorem oN {xs:List ei} {n:Nat} (h:n<xs.length):xs[n]=p4 xs n:=by unfold p4;rw[bH h];rfl
theorem vA {xs:List gl} {n:Nat} (h:n<xs.length):xs[n]=oG xs n:=by unfold oG;rw[bH h];rfl
def okF (xs:List ei) (n:Nat):Bool:=okW (p4 xs n).1&&fz (p4 xs n).2&&(decide (n=0)||nw (p4 xs (n-1)).1 (p4 xs n).1)
def sb (xs:List gl) (n:Nat):Bool:=okW (oG xs n).1&&(decide (0<=(oG xs n).2)&&decide ((oG xs n).2<=999999999))&&(decide (n=0)||nw (oG xs (n-1)).1 (oG xs n).1)
def hg (x:aC):Bool:=(decide (1<=x.1)&&decide (x.1<=9999))&&decide ((x.2.1.length:Int)<=3)&&decide ((x.2.2.length:Int)<=3)&&dL x.2.1.length (okF x.2.1)&&dL x.2.2.length (sb x.2.2)
theorem y2 (N:Nat) (j:bF<N) (f:N<=1099511627776) (d:Int) (a:List ei) (b2:List gl) (c:cz bF fE (d,a,b2)):oW N d a b2=some (hg (d,a,b2)):=by
 have k:List.length a<=1048576:=c.2.1.1
 have l:List.length b2<=1048576:=c.2.2.1
 have o:1048576<N:=j
 unfold oW
 rw[hl,af]
 unfold hg
 dsimp only
 cases r:(decide (1<=d)&&decide (d<=9999))with
 |false=>rfl
 |true=>
  rw[bn,aj,ck]
  by_cases h:(3:Int)<a.length
  .rw [aq h,ao,ak (by omega:¬(a.length:Int)<=3)];rfl
  rw[ak h,aj,aq (by omega:(a.length:Int)<=3),ck]
  by_cases i:(3:Int)<b2.length
  .rw [aq i,ao,ak (by omega:¬(b2.length:Int)<=3)];rfl
  rw[ak i,aj,aq (by omega:(b2.length:Int)<=3),ck]
  refine j9 _ a.length (fun n=>(a,(a.length:Int),(n:Int),d,a,b2)) (okF a) _ (fun go=>?_) (fun go n b=>?_) N (by omega)
  .dsimp only
   rw[ak (bp _),aj]
   refine(j9 _ b2.length (fun n=>(b2,(b2.length:Int),(n:Int),d,a,b2)) (sb b2) true (fun go=>?_) (fun go n b=>?_) N (by omega)).trans (by rw[fX];rfl)
   .dsimp only
    rw[ak (bp _),aj]
   .dsimp only
    have e:=c.2.2.2 b2[n] (bA b)
    have g:List.length b2[n].1<=1048576:=e.1
    rw[aq (by omega:(n:Int)<b2.length),ao,aO b,af,lA N _ (by omega) f,af,hl,af,ai (aN (n:=n) (by omega)),aR]
    unfold sb nw
    rw[<-vA b]
    cases okW b2[n].1 with
    |false=>rfl
    |true=>
     cases(decide (0<=b2[n].2)&&decide (b2[n].2<=999999999))with
     |false=>rfl
     |true=>
      rw[bn,aj,aj,ck,ck]
      cases n with
      |zero=>rfl
      |succ n=>
       rw[aq (by omega:(0:Int)<((n+1:Nat):Int)),ao,ai (by unfold fits;omega),show(((n+1:Nat):Int)-1)=(n:Int)from by omega,aO (by omega),af,vA (n:=n) (by omega),ak (by omega:¬n+1=0),ig,lF]
       cases Op.bytesLess (oG b2 n).1 b2[n+1].1<;>rfl
  .dsimp only
   have e:=c.2.1.2 a[n] (bA b)
   have g:List.length a[n].1<=1048576:=e.1
   have p:List.length a[n].2<=1048576:=e.2
   rw[aq (by omega:(n:Int)<a.length),ao,aO b,af,lA N _ (by omega) f,af,GG N _ (by omega) f,af,ai (aN (n:=n) (by omega)),aR]
   unfold okF nw
   rw[<-oN b]
   cases okW a[n].1 with
   |false=>rfl
   |true=>
    cases fz a[n].2 with
    |false=>rfl
    |true=>
     rw[bn,aj,aj,ck,ck]
     cases n with
     |zero=>rfl
     |succ n=>
      rw[aq (by omega:(0:Int)<((n+1:Nat):Int)),ao,ai (by unfold fits;omega),show(((n+1:Nat):Int)-1)=(n:Int)from by omega,aO (by omega),af,oN (n:=n) (by omega),ak (by omega:¬n+1=0),ig,lF]
      cases Op.bytesLess (p4 a n).1 a[n+1].1<;>rfl
theorem O8 (x y:List UInt8):(!(Op.bytesLess x y||decide (x=y)))=Op.bytesLess y x:=by rw[my,Bool.not_not]
theorem ahc (N:Nat) (l:bF<N) (j:N<=1099511627776) (d:Int) (f:List ei) (b2:List gl) (h:cz bF fE (d,f,b2)):A5 N d f b2=some (hg (d,f,b2)):=by
 have o:List.length f<=1048576:=h.2.1.1
 have p:List.length b2<=1048576:=h.2.2.1
 have r:1048576<N:=l
 unfold A5
 refine(j9 _ f.length (fun n=>((n:Int),d,f,b2)) (okF f) (dL b2.length (sb b2)&&((decide (1<=d)&&decide (d<=9999))&&decide ((f.length:Int)<=3)&&decide ((b2.length:Int)<=3))) (fun go=>?_) (fun go n g=>?_) N (by omega)).trans ?_
 .dsimp only
  rw[ak (bp _),aj]
  refine(j9 _ b2.length (fun n=>((n:Int),d,f,b2)) (sb b2) ((decide (1<=d)&&decide (d<=9999))&&decide ((f.length:Int)<=3)&&decide ((b2.length:Int)<=3)) (fun go=>?_) (fun go n g=>?_) N (by omega)).trans rfl
  .dsimp only
   rw[ak (bp _),aj,nZ,af,nZ,af,aq (by omega:(0:Int)<=f.length),ck]
   cases(decide (1<=d)&&decide (d<=9999))<;>cases decide ((f.length:Int)<=3)<;>rfl
  .dsimp only
   have i:=h.2.2.2 b2[n] (bA g)
   have k:List.length b2[n].1<=1048576:=i.1
   rw[aq (by omega:(n:Int)<b2.length),ao,aO g,af,r6 N _ (by omega) j,af,af,nZ,af,af,ai (aN (n:=n) (by omega)),aR]
   unfold sb nw
   rw[<-vA g]
   cases okW b2[n].1 with
   |false=>rfl
   |true=>
    cases(decide (0<=b2[n].2)&&decide (b2[n].2<=999999999))with
    |false=>rfl
    |true=>
     rw[bn,aj,aj,ck,ck]
     cases n with
     |zero=>rfl
     |succ n=>
      rw[aq (by omega:(0:Int)<((n+1:Nat):Int)),ao,ai (by unfold fits;omega),show(((n+1:Nat):Int)-1)=(n:Int)from by omega,aO (by omega),af,vA (n:=n) (by omega),ak (by omega:¬n+1=0),ig,lF,my]
      cases Op.bytesLess (oG b2 n).1 b2[n+1].1<;>rfl
 .dsimp only
  have i:=h.2.1.2 f[n] (bA g)
  have k:List.length f[n].1<=1048576:=i.1
  have s:List.length f[n].2<=1048576:=i.2
  rw[aq (by omega:(n:Int)<f.length),ao,aO g,af,r6 N _ (by omega) j,af,af8 N _ (by omega) j,af,ai (aN (n:=n) (by omega)),aR]
  unfold okF nw
  rw[<-oN g]
  cases okW f[n].1 with
  |false=>rfl
  |true=>
   cases fz f[n].2 with
   |false=>rfl
   |true=>
    rw[bn,aj,aj,ck,ck]
    cases n with
    |zero=>rfl
    |succ n=>
     rw[aq (by omega:(0:Int)<((n+1:Nat):Int)),ao,ai (by unfold fits;omega),show(((n+1:Nat):Int)-1)=(n:Int)from by omega,aO (by omega),af,oN (n:=n) (by omega),ak (by omega:¬n+1=0),ig,lF,my]
     cases Op.bytesLess (p4 f n).1 f[n+1].1<;>rfl
 .have e:∀a b c d e:Bool,(a&&(b&&(c&&d&&e)))=(c&&d&&e&&a&&b):=by decide
  unfold hg
  dsimp only
  exact congrArg some (e _ _ _ _ _)
def ri (xs:List aC) (n:Nat):aC:=xs[n]?.getD (0,[],[])
theorem nB {xs:List aC} {n:Nat} (h:n<xs.length):xs[n]=ri xs n:=by unfold ri;rw[bH h];rfl
def pf (xs:List aC) (n:Nat):Bool:=hg (ri xs n)&&(decide (n=0)|| !decide ((ri xs n).1<=(ri xs (n-1)).1))
def eM (xs:List aC):Bool:=dL xs.length (pf xs)&&decide ((xs.length:Int)<=16)
theorem Em (N:Nat) (b:bF<N) (c:N<=1099511627776) (xs:List aC) (d:∀x,x∈xs->cz bF fE x) (f:xs.length<=1048576):ui N xs=some (eM xs):=by
 have e:1048576<N:=b
 unfold ui
 refine j9 _ xs.length (fun n=>(xs,xs,(xs.length:Int),(n:Int))) (pf xs) _ (fun go=>?_) (fun go n a=>?_) N (by omega)
 .dsimp only
  rw[ak (bp _),aj]
 .dsimp only
  rw[aq (by omega:(n:Int)<xs.length),ao,aO a,af,y2 N b c xs[n].1 xs[n].2.1 xs[n].2.2 (d xs[n] (bA a)),af,ai (aN (n:=n) (by omega)),aR]
  unfold pf
  rw[<-nB a]
  cases hg xs[n]with
  |false=>rfl
  |true=>
   rw[bn,aj,ck]
   cases n with
   |zero=>rfl
   |succ n=>
    rw[aq (by omega:(0:Int)<((n+1:Nat):Int)),ao,ai (by unfold fits;omega),show(((n+1:Nat):Int)-1)=(n:Int)from by omega,aO (by omega),af,nB (n:=n) (by omega),ak (by omega:¬n+1=0),ig,lF]
    cases decide (xs[n+1].1<=(ri xs n).1)<;>rfl
theorem HA (N:Nat) (b:bF<N) (c:N<=1099511627776) (xs:List aC) (d:∀x,x∈xs->cz bF fE x) (f:xs.length<=1048576):uh N xs=some (eM xs):=by
 have e:1048576<N:=b
 unfold uh
 refine j9 _ xs.length (fun n=>(xs,(n:Int))) (pf xs) _ (fun go=>?_) (fun go n a=>?_) N (by omega)
 .dsimp only
  rw[ak (bp _),aj]
 .dsimp only
  rw[aq (by omega:(n:Int)<xs.length),ao,aO a,af,ahc N b c xs[n].1 xs[n].2.1 xs[n].2.2 (d xs[n] (bA a)),af,af,ai (aN (n:=n) (by omega)),aR]
  unfold pf
  rw[<-nB a]
  cases hg xs[n]with
  |false=>rfl
  |true=>
   rw[bn,aj,ck]
   cases n with
   |zero=>rfl
   |succ n=>
    rw[aq (by omega:(0:Int)<((n+1:Nat):Int)),ao,ai (by unfold fits;omega),show(((n+1:Nat):Int)-1)=(n:Int)from by omega,aO (by omega),af,nB (n:=n) (by omega),ak (by omega:¬n+1=0),ig,lF]
    cases decide (xs[n+1].1<=(ri xs n).1)<;>rfl
abbrev rV :=List UInt8×Int×Int×Int
def kd (n:Int):Int:=if 65<=n/\n<=90 then n+32 else if gv n=true then n else 0
theorem ahr :∀n:Nat,n<256->(lk 0 (n:Int)==some (kd n))=true:=by decide+kernel
theorem OR (N:Nat) (c:UInt8):lk N (c.toNat:Int)=some (kd c.toNat):=by
 have e:lk N (c.toNat:Int)=lk 0 (c.toNat:Int):=rfl
 rw[e];exact eq_of_beq (ahr c.toNat (UInt8.toNat_lt c))
theorem ahV :∀n:Nat,n<256->(match oZ 0 (n:Int)with|some r=>(gv r== !decide (kd n=0))&&(!gv r||decide (r=kd n))|none=>false)=true:=by decide+kernel
theorem OY (N:Nat) (c:UInt8):∃r,oZ N (c.toNat:Int)=some r/\gv r= !decide (kd c.toNat=0)/\(gv r=true->r=kd c.toNat):=by
 have h:=ahV c.toNat (UInt8.toNat_lt c)
 have e:oZ N (c.toNat:Int)=oZ 0 (c.toNat:Int):=rfl
 rw[e]
 cases b:oZ 0 (c.toNat:Int)with
 |none=>rw[b]at h;cases h
 |some r=>
  rw[b]at h
  simp only[bk,beq_iff_eq,lB,sO,bz]at h
  refine⟨r,rfl,h.1,fun hw=>?_⟩
  rcases h.2 with a|a
  .rw [hw]at a;cases a
  .exact a
def e6 (c:UInt8):Bool:= !decide (kd c.toNat=0)
def nI (c:UInt8):Int:=kd c.toNat
def lead (l:List UInt8):Nat:=(l.takeWhile e6).length
theorem aj7 (l:List UInt8):lead l<=l.length:=by unfold lead;exact(List.takeWhile_prefix e6).length_le
theorem uv {c:UInt8} {l:List UInt8} (h:e6 c=true):lead (c::l)=lead l+1:=by unfold lead;rw[List.takeWhile_cons_of_pos h,aZ]
theorem BT {c:UInt8} {l:List UInt8} (h:e6 c=false):lead (c::l)=0:=by unfold lead;rw[List.takeWhile_cons_of_neg (by simp[h])];rfl
theorem Oz :∀(l:List UInt8) (n:Nat),n<=l.length->(∀(i:Nat) (c:UInt8),i<n->l[i]? =some c->e6 c=true)->(∀c,l[n]? =some c->e6 c=false)->lead l=n
 | [],n,h,_,_=>by simp at h;subst h;rfl
 |c::l,0,_,_,a=>BT (a c rfl)
 |c::l,n+1,h,e,a=>by
  rw[uv (e 0 c (by omega) rfl),Oz l n (by simpa using h) (fun i d hi b=>e (i+1) d (by omega) (by simpa using b)) (fun d b=>a d (by simpa using b))]
def gY (l:List UInt8) (p a:Int):List rV:=
 match l with
 | []=>[]
 |c::t=>if e6 c=true then
   (bytesOf ((((c::t).take (lead t+1)).map nI).take 12),a,p,p+(lead t+1:Nat))::gY (t.drop (lead t)) (p+(lead t+1:Nat)) (a+1)
  else gY t (p+1) a
termination_by l.length
decreasing_by all_goals (simp; try omega)
theorem ni (p a:Int):gY [] p a=[]:=by rw[gY]
theorem Ju {c:UInt8} {t:List UInt8} (h:e6 c=false) (p a:Int):gY (c::t) p a=gY t (p+1) a:=by rw[gY,aA (by simp[h])]
theorem Jv {l:List UInt8} {n:Nat} (e:0<n) (b:lead l=n) (p a:Int):gY l p a=(bytesOf (((l.take n).map nI).take 12),a,p,p+n)::gY (l.drop n) (p+n) (a+1):=by
 match l with
 | []=>subst b;exact absurd e (by decide)
 |c::t=>
  have d:e6 c=true:=by
   cases h:e6 c with
   |true=>rfl
   |false=>rw[BT h]at b;omega
  rw[uv d]at b
  subst b
  rw[gY,ai d]
  rfl
def words (s:List UInt8):List rV:=gY s 0 0
theorem w6 (l:List UInt8) (p a:Int):(gY l p a).length<=l.length:=by
 match l with
 | []=>rw[ni];exact bC _
 |c::t=>
  rw[gY]
  split
  .have:=w6 (t.drop (lead t)) (p+(lead t+1:Nat)) (a+1)
   simp only[aZ,eY]at this⊢
   omega
  .have:=w6 t (p+1) a
   simp only[aZ];omega
termination_by l.length
decreasing_by all_goals (simp; try omega)
theorem agy {l:List UInt8} {i:Nat} (h:i<l.length):l.drop i=l[i]::l.drop (i+1):=fC h
theorem GA {s:List UInt8} {i:Nat} (h:∀c,s[i]? =some c->e6 c=false) (a:Int):gY (s.drop i) (i:Int) a=gY (s.drop (i+1)) ((i:Int)+1) a:=by
 by_cases hi:i<s.length
 .rw [agy hi,Ju (h _ (bH hi))]
 .rw [jv (by omega),jv (by omega),ni,ni]
def ox (s:List UInt8) (f i:Nat):Prop:=∀(j:Nat) (c:UInt8),f<=j->j<i->s[j]? =some c->e6 c=true
theorem ox.next {s:List UInt8} {f i:Nat} (h:ox s f i) (hi:i<s.length) (b:e6 s[i]=true):ox s f (i+1):=fun j c d g a=>by
 by_cases e:j=i
 .subst e;rw[bH hi]at a;cases a;exact b
 .exact h j c d (by omega) a
theorem ox.lead {s:List UInt8} {f i:Nat} (h:ox s f i) (d:f<=i) (hi:i<=s.length) (he:∀c,s[i]? =some c->e6 c=false):lead (s.drop f)=i-f:=
 Oz _ _ (by simp;omega) (fun j c e a=>by rw[hT]at a;exact h (f+j) c (by omega) (by omega) a) (fun c b=>by rw[hT,show f+(i-f)=i from by omega]at b;exact he c b)
def run (s:List UInt8) (f i:Nat):List Int:=((s.drop f).take (i-f)).map nI
theorem Gv {s:List UInt8} {f i:Nat} (a:f<=i) (hi:i<s.length):run s f (i+1)=run s f i++ [nI s[i]]:=by
 unfold run
 rw[show i+1-f=(i-f)+1 from by omega,List.take_add_one,hT,show f+(i-f)=i from by omega,bH hi,iD]
 rfl
theorem ua {s:List UInt8} {f i:Nat} (a:f<=i) (hi:i<=s.length):(run s f i).length=i-f:=by unfold run;simp;omega
theorem aia (N:Nat) (s:List UInt8) (h:s.length+2<N) (aS:s.length<=100000):AN N s=some (words s):=by
 refine Def.get ?_
 unfold AN
 refine Def.iter (fun g=>g.1=s/\∃i:Nat,g.2.2=(i:Int)/\i<=s.length+1/\g.2.1.length<=i/\g.2.1++gY (s.drop i) i g.2.1.length=words s) (fun g=>s.length+1-g.2.2.toNat) (fun go g W p=>?_) N _ ⟨rfl,0,rfl,by omega,bC _,by simp[words]⟩ (by simp;omega)
 obtain⟨s2,out,i0⟩:=g
 obtain⟨A,i,B,G,X,z⟩:=W
 dsimp only at A B G X z p⊢
 subst A B
 refine Def.bL (fun Y=>?_) (fun Z=>?_)
 case refine_2=>
  refine Def.ret ?_
  rw[jv (by omega),ni,e5]at z
  exact z
 have fin:∀(i3:Nat),i<=i3->i3<=s2.length->ox s2 i i3->(∀c,s2[i3]? =some c->e6 c=false)->∀w:List Int,w=(run s2 i i3).take 12->
   Def (bif decide ((0:Int)<w.length)then(if room out.length ([((bytesOf w),(out.length:Int),(i:Int),(i3:Int))]:List rV).length 40 then(if fits ((i3:Int)+1)then go (s2,out++ [((bytesOf w),(out.length:Int),(i:Int),(i3:Int))],(i3:Int)+1)else none)else none)else(if fits ((i3:Int)+1)then go (s2,out,(i3:Int)+1)else none)) (fun r=>r=words s2):=fun i3 H I bD l w hw=>by
  have t:=bD.lead H I l
  have K:w.length=min 12 (i3-i):=by rw[hw,bX,ua H I]
  refine Def.bL (fun cU=>?_) (fun bI=>?_)
  .refine Def.ite (b5 (by simp;omega) (by simp;omega)) (Def.ite (by unfold fits;omega) (p _ ⟨rfl,i3+1,by push_cast;rfl,by omega,by simp;omega,?_⟩ (by dsimp only;omega)))
   dsimp only
   rw[aR,<-GA l,dJ]
   rw[Jv (n:=i3-i) (by omega) t]at z
   rw[<-z,pD,show i+(i3-i)=i3 from by omega,show(i:Int)+((i3-i:Nat):Int)=i3 from by omega,a1,hw]
   unfold run
   simp
  .have:i3=i:=by omega
   subst this
   refine Def.ite (by unfold fits;omega) (p _ ⟨rfl,i3+1,by push_cast;rfl,by omega,by dsimp only;omega,?_⟩ (by dsimp only;omega))
   dsimp only
   rw[<-z,GA l]
   rfl
 refine Def.iter (fun g=>g.1=s2/\g.2.1=out/\g.2.2.2.2=(i:Int)/\∃i2:Nat,g.2.2.1=(i2:Int)/\i<=i2/\i2<=s2.length/\ox s2 i i2/\g.2.2.2.1=run s2 i i2) (fun g=>s2.length+1-g.2.2.1.toNat) (fun go2 g L o=>?_) N _ ⟨rfl,rfl,rfl,i,rfl,bC _,by omega,fun j c H I=>by omega,by unfold run;simp⟩ (by dsimp only;omega)
 obtain⟨d,b,i20,w,M⟩:=g
 obtain⟨A,Q,S,i2,C,hle,u,f,hw⟩:=L
 dsimp only at A Q S C hw o⊢
 subst A Q S C
 have K:w.length=i2-i:=by rw[hw,ua hle u]
 have k:(∀c,d[i2]? =some c->e6 c=false)->∀ {J:(List UInt8×List rV×Int×List Int×Int)->Option (List rV)},(∀w:List Int,w=(run d i i2).take 12->Def (J (d,b,(i2:Int),w,(i:Int))) (fun r=>r=words d))->
   Def (bif decide ((12:Int)<w.length)then Option.bind (cut w 0 12) fun y=>J (d,b,(i2:Int),y,(i:Int))else J (d,b,(i2:Int),w,(i:Int))) (fun r=>r=words d):=fun l {J} T=>by
  refine Def.bL (fun cU=>?_) (fun bI=>?_)
  .refine Def.cut (by decide) (by decide) (by omega) (T _ ?_)
   rw[<-hw];rfl
  .refine T _ ?_
   rw[<-hw,kX (by omega)]
 refine Def.bL (fun U=>?_) (fun V=>?_)
 .have hi:i2<d.length:=by omega
  rw[aO hi]
  refine Def.bind (Def.eq rfl) fun c F=>?_
  subst F
  rw[OR]
  refine Def.bind (Def.eq rfl) fun r O=>?_
  subst O
  have jK:(!decide (kd (d[i2].toNat:Int)=0))=e6 d[i2]:=rfl
  rw[jK]
  refine Def.bif (fun F=>?_) (fun F=>?_)
  .refine Def.bind (Def.eq rfl) fun c e=>?_
   subst e
   rw[OR]
   refine Def.bind (Def.eq rfl) fun r O=>?_
   subst O
   refine Def.ite (b5 (by simp;omega) (by simp;omega)) (Def.ite (by unfold fits;omega) (o _ ⟨rfl,rfl,rfl,i2+1,by push_cast;rfl,by omega,by omega,f.next hi F,?_⟩ (by dsimp only;omega)))
   dsimp only
   rw[Gv hle hi,hw]
   rfl
  .have l:∀c,d[i2]? =some c->e6 c=false:=fun c e=>by rw[bH hi]at e;cases e;exact F
   refine Def.meet (fun g=>∃w:List Int,g=(d,b,(i2:Int),w,(i:Int))/\w=(run d i i2).take 12) (fun g P=>?_) (fun Tz v=>k l fun w hw=>v _ ⟨w,rfl,hw⟩)
   obtain⟨w',rfl,x⟩:=P
   exact fin i2 hle u f l w' x
 .have l:∀c,d[i2]? =some c->e6 c=false:=fun c e=>by rw[kr (by omega)]at e;cases e
  refine Def.meet (fun g=>∃w:List Int,g=(d,b,(i2:Int),w,(i:Int))/\w=(run d i i2).take 12) (fun g P=>?_) (fun Tz v=>k l fun w hw=>v _ ⟨w,rfl,hw⟩)
  obtain⟨w',rfl,x⟩:=P
  exact fin i2 hle u f l w' x
theorem ag7 (N:Nat) (s:List UInt8) (h:s.length+2<N) (Y:N<=1099511627776):Bc N s=some (bif fz s then words s else []):=by
 refine Def.get ?_
 unfold Bc
 rw[GG N s (by omega) Y]
 refine Def.bind (Def.eq rfl) fun r Z=>?_
 subst Z
 refine Def.bif (fun I=>?_) (fun I=>?_)
 .refine Def.ret ?_
  have:fz s=false:=by simpa using I
  rw[this];rfl
 have v:fz s=true:=by simpa using I
 have aS:s.length<=160:=by
  unfold fz at v
  simp only[bk,bz]at v
  omega
 rw[v,ao]
 refine Def.iter (fun g=>g.1=s/\∃i:Nat,g.2.2=(i:Int)/\i<=s.length/\g.2.1.length<=i/\g.2.1++gY (s.drop i) i g.2.1.length=words s) (fun g=>s.length+1-g.2.2.toNat) (fun go g Wq x=>?_) N _ ⟨rfl,0,rfl,by omega,bC _,by simp[words]⟩ (by simp;omega)
 obtain⟨s2,out,i0⟩:=g
 obtain⟨B,i,C,J,cx,A⟩:=Wq
 dsimp only at B C J cx A x⊢
 subst B C
 refine Def.bL (fun gf=>?_) (fun aox=>?_)
 case refine_2=>
  refine Def.ret ?_
  rw[jv (by omega),ni,e5]at A
  exact A
 have hi:i<s2.length:=by omega
 rw[aO hi]
 refine Def.bind (Def.eq rfl) fun c k=>?_
 subst k
 obtain⟨r,t,u,F⟩:=OY N s2[i]
 rw[t]
 refine Def.bind (Def.eq rfl) fun K l=>?_
 subst l
 rw[Bg]
 refine Def.bind (Def.eq rfl) fun b a=>?_
 subst a
 refine Def.bif (fun a=>?_) (fun a=>?_)
 .have jK:e6 s2[i]=false:=by show(!decide (kd _=0))=false;rw[<-u];simpa using a
  refine Def.ite (by unfold fits;omega) (x _ ⟨rfl,i+1,by push_cast;rfl,by omega,by dsimp only;omega,?_⟩ (by dsimp only;omega))
  dsimp only
  rw[<-A,GA (s:=s2) (i:=i) (fun c k=>by rw[bH hi]at k;cases k;exact jK)]
  rfl
 have L:e6 s2[i]=true:=by show(!decide (kd _=0))=true;rw[<-u];simpa using a
 have fin:∀(i3:Nat),i<i3->i3<=s2.length->ox s2 i i3->(∀c,s2[i3]? =some c->e6 c=false)->∀w:List Int,w=(run s2 i i3).take 12->
   Def (if room out.length ([((bytesOf w),(out.length:Int),(i:Int),(i3:Int))]:List rV).length 40 then go (s2,out++ [((bytesOf w),(out.length:Int),(i:Int),(i3:Int))],(i3:Int))else none) (fun r=>r=words s2):=fun i3 aD Q bD cN w hw=>by
  have y:=bD.lead (by omega) Q cN
  refine Def.ite (b5 (by simp;omega) (by simp;omega)) (x _ ⟨rfl,i3,rfl,by omega,by simp;omega,?_⟩ (by dsimp only;omega))
  dsimp only
  rw[Jv (n:=i3-i) (by omega) y]at A
  rw[dJ,<-A,pD,show i+(i3-i)=i3 from by omega,show(i:Int)+((i3-i:Nat):Int)=i3 from by omega,a1,hw]
  unfold run
  simp
 refine Def.iter (fun g=>g.1=s2/\g.2.1=out/\g.2.2.2.2.2.1=(out.length:Int)/\g.2.2.2.2.2.2.1=(i:Int)/\∃i2:Nat,g.2.2.1=(i2:Int)/\i<=i2/\i2<=s2.length/\ox s2 i i2/\g.2.2.2.1=(run s2 i i2).take 12) (fun g=>s2.length+1-g.2.2.1.toNat) (fun go2 g M o=>?_) N _ ⟨rfl,rfl,rfl,rfl,i,rfl,bC _,by omega,fun j c aD Q=>by omega,by unfold run;simp⟩ (by dsimp only;omega)
 obtain⟨H,S,i20,w,fu,Tg,ao4,ao5⟩:=g
 obtain⟨B,T,U,V,i2,G,hle,e,d,hw⟩:=M
 dsimp only at B T U V G hw o⊢
 subst B T U V G
 have aoF:w.length=min 12 (i2-i):=by rw[hw,bX,ua hle e]
 refine Def.bL (fun W=>?_) (fun X=>?_)
 .have f:i2<H.length:=by omega
  rw[aO f]
  refine Def.bind (Def.eq rfl) fun c k=>?_
  subst k
  obtain⟨r,t,u,F⟩:=OY N H[i2]
  rw[t]
  refine Def.bind (Def.eq rfl) fun K l=>?_
  subst l
  rw[Bg]
  refine Def.bind (Def.eq rfl) fun b a=>?_
  subst a
  have z:gv K=e6 H[i2]:=u
  refine Def.bif (fun a=>?_) (fun a=>?_)
  .have k:e6 H[i2]=true:=by rw[<-z];exact a
   refine Def.bL (fun O=>?_) (fun O=>?_)
   .refine Def.bind (Def.eq rfl) fun c k=>?_
    subst k
    rw[t]
    refine Def.bind (Def.eq rfl) fun K l=>?_
    subst l
    refine Def.ite (b5 (by simp;omega) (by simp;omega)) (Def.ite (by unfold fits;omega) (o _ ⟨rfl,rfl,rfl,rfl,i2+1,by push_cast;rfl,by omega,by omega,d.next f k,?_⟩ (by dsimp only;omega)))
    dsimp only
    rw[Gv hle f,hw,F a,kX (by rw[ua hle e];omega),kX (by simp[ua hle e];omega)]
    rfl
   .refine Def.ite (by unfold fits;omega) (o _ ⟨rfl,rfl,rfl,rfl,i2+1,by push_cast;rfl,by omega,by omega,d.next f k,?_⟩ (by dsimp only;omega))
    dsimp only
    rw[Gv hle f,hw,List.take_append_of_le_length (by rw[ua hle e];omega)]
  .have P:i<i2:=by
    rcases Nat.lt_or_eq_of_le hle with h|h
    .exact h
    .subst h;rw[z,L]at a;cases a
   exact fin i2 P e d (fun c p=>by rw[bH f]at p;cases p;rw[<-z];exact a) w hw
 .exact fin i2 (by omega) e d (fun c p=>by rw[kr (by omega)]at p;cases p) w hw
def ends :List (List UInt8):=[[105,110,103],[101,100],[101,115],[108,121],[115]]
def je (s e:List UInt8):Option (List UInt8):=if 3+e.length<=s.length/\s.drop (s.length-e.length)=e then some (s.take (s.length-e.length))else none
def once (s:List UInt8):Option (List UInt8):=ends.findSome? (je s)
theorem ahw {s e t:List UInt8} (he:0<e.length) (h:je s e=some t):t.length<s.length:=by
 unfold je at h
 split at h
 .cases h;rw[bX];omega
 .cases h
theorem Gq :∀e,e∈ends->0<e.length/\e.length<=3:=by decide
theorem Ii {s t:List UInt8} (h:once s=some t):t.length<s.length:=by
 unfold once at h
 obtain⟨e,he,h⟩:=List.exists_of_findSome?_eq_some h
 exact ahw (Gq e he).1 h
def fU (s:List UInt8):List UInt8:=match h:once s with
 |some t=>fU t
 |none=>s
termination_by s.length
decreasing_by exact Ii h
theorem Jc {s t:List UInt8} (h:once s=some t):fU s=fU t:=by
 rw[fU];split
 .rename_i b a;rw[h]at a;cases a;rfl
 .rename_i a;rw[h]at a;cases a
theorem x5 {s:List UInt8} (h:once s=none):fU s=s:=by
 rw[fU];split
 .rename_i b a;rw[h]at a;cases a
 .rfl
theorem ah3 (N:Nat) (s e:List UInt8) (a:s.length<=100000):A3 N s e=some (decide (e.length<=s.length)&&decide (s.drop (s.length-e.length)=e)):=by
 unfold A3 Gz
 by_cases h:e.length<=s.length
 .rw [aq (by omega:(e.length:Int)<=(s.length:Int)),ao,ai (by unfold fits;omega),aq h]
  unfold cut
  rw[ai (by omega)]
  simp only[af,ck]
  congr 3
  rw[show((s.length:Int)-(e.length:Int)).toNat=s.length-e.length from by omega,er,cl]
 .rw [ak (by omega:¬(e.length:Int)<=(s.length:Int)),aj,ak h]
  rfl
theorem Oy (f:List UInt8->Option (List UInt8)) (l:List (List UInt8)) {n:Nat} (h:n<l.length):(l.drop n).findSome? f=match f l[n]with|some y=>some y|none=>(l.drop (n+1)).findSome? f:=by
 rw[fC h,List.findSome?_cons]
 cases f l[n]<;>rfl
theorem GK (N:Nat) (s:List UInt8) (h:s.length<N) (G:60<N) (H:N<=1099511627776):tZ N s=some (bif okW s then fU s else []):=by
 refine Def.get ?_
 unfold tZ
 rw[lA N s (by omega) H]
 refine Def.bind (Def.eq rfl) fun r I=>?_
 subst I
 refine Def.bif (fun p=>?_) (fun p=>?_)
 .refine Def.ret ?_
  rw[show okW s=false from by simpa using p];rfl
 have i:okW s=true:=by simpa using p
 have S:s.length<=12:=by
  unfold okW at i
  simp only[bk,bz]at i
  omega
 rw[i,ao]
 refine Def.iter (fun g=>g.1.length<=s.length/\fU g.1=fU s/\(g.2=false->once g.1=none)) (fun g=>2*g.1.length+(bif g.2 then 1 else 0)) (fun go g J j=>?_) N _ ⟨bC _,rfl,fun h=>by cases h⟩ (by simp;omega)
 obtain⟨s2,again⟩:=g
 obtain⟨x,d,o⟩:=J
 dsimp only at x d o j⊢
 refine Def.bif (fun t=>?_) (fun t=>Def.ret (by rw[<-d,x5 (o t)]))
 subst t
 show Def (iter _ N (s2,false,ends,(5:Int),(0:Int))) _
 refine Def.iter (fun g=>g.1=s2/\g.2.1=false/\g.2.2.1=ends/\g.2.2.2.1=5/\∃n:Nat,g.2.2.2.2=(n:Int)/\n<=5/\(ends.drop n).findSome? (je s2)=once s2) (fun g=>5-g.2.2.2.2.toNat) (fun go2 g u f=>?_) N _ ⟨rfl,rfl,rfl,rfl,0,rfl,by omega,rfl⟩ (by dsimp only;omega)
 obtain⟨a,K,es,y,T⟩:=g
 obtain⟨z,A,B,C,n,F,U,c⟩:=u
 dsimp only at z A B C F c f⊢
 subst z A B C F
 refine Def.bL (fun L=>?_) (fun M=>?_)
 case refine_2=>
  have:n=5:=by omega
  subst this
  refine j _ ⟨x,d,fun _=>?_⟩ (by dsimp only;simp)
  rw[<-c];rfl
 have k:n<ends.length:=by show n<5;omega
 rw[Oy _ _ k]at c
 rw[aO k]
 refine Def.bind (Def.eq rfl) fun e he=>?_
 subst he
 have O:=Gq _ (bA k)
 rw[ah3 N a _ (by omega)]
 refine Def.bind (Def.eq rfl) fun b l=>?_
 subst l
 have next:je a ends[n]=none->Def (if fits ((n:Int)+1)then go2 (a,false,ends,5,(n:Int)+1)else none) (fun r=>r=fU s):=fun v=>by
  refine Def.ite (by unfold fits;omega) (f _ ⟨rfl,rfl,rfl,rfl,n+1,by push_cast;rfl,by omega,?_⟩ (by dsimp only;omega))
  rw[<-c,v]
 refine Def.bif (fun l=>?_) (fun l=>?_)
 .simp only [bk,bz]at l
  refine Def.ite (by unfold fits;omega) (Def.bL (fun P=>?_) (fun P=>?_))
  .have v:je a ends[n]=some (a.take (a.length-ends[n].length)):=by unfold je;rw[ai ⟨by omega,l.2⟩]
   refine Def.ite (by unfold fits;omega) (Def.cut (by omega) (by omega) (by omega) ?_)
   rw[v]at c
   have Q:(a.take ((a.length:Int)-(ends[n].length:Int)).toNat).drop (0:Int).toNat=a.take (a.length-ends[n].length):=by
    rw[show((a.length:Int)-(ends[n].length:Int)).toNat=a.length-ends[n].length from by omega];rfl
   rw[Q]
   refine j _ ⟨?_,?_,fun h=>by cases h⟩ ?_
   .dsimp only;rw[bX];omega
   .dsimp only;rw[<-d,Jc c.symm]
   .dsimp only;rw[bX];simp;omega
  .exact next (by unfold je;rw[aA (by omega)])
 .refine next ?_
  unfold je
  rw[aA]
  rintro⟨g1,g2⟩
  rw[aq (by omega:ends[n].length<=a.length),aq g2]at l
  cases l
theorem afJ (N:Nat) (s:List UInt8) (h:s.length+8<N) (y:s.length<=100000):w5 N s=some ((once s).getD s):=by
 refine Def.get ?_
 unfold w5
 refine Def.iter (fun g=>g.1=s/\∃n:Nat,g.2=(n:Int)/\n<=5/\(ends.drop n).findSome? (je s)=once s) (fun g=>5-g.2.toNat) (fun go g l d=>?_) N _ ⟨rfl,0,rfl,by omega,rfl⟩ (by dsimp only;omega)
 obtain⟨s2,z⟩:=g
 obtain⟨j,n,k,A,a⟩:=l
 dsimp only at j k a d⊢
 subst j k
 show Def (Option.bind (some ends) _) _
 refine Def.bind (Def.eq rfl) fun es b=>?_
 subst b
 have B:(ends.length:Int)=5:=rfl
 refine Def.bL (fun o=>?_) (fun p=>?_)
 case refine_2=>
  have:n=5:=by omega
  subst this
  refine Def.ret ?_
  rw[<-a];rfl
 have c:n<ends.length:=by omega
 rw[Oy _ _ c]at a
 show Def (Option.bind (some ends) _) _
 refine Def.bind (Def.eq rfl) fun es b=>?_
 subst b
 rw[aO c]
 refine Def.bind (Def.eq rfl) fun e he=>?_
 subst he
 have t:=Gq _ (bA c)
 have next:je s2 ends[n]=none->Def (if fits ((n:Int)+1)then go (s2,(n:Int)+1)else none) (fun r=>r=(once s2).getD s2):=fun f=>by
  refine Def.ite (by unfold fits;omega) (d _ ⟨rfl,n+1,by push_cast;rfl,by omega,?_⟩ (by dsimp only;omega))
  rw[<-a,f]
 refine Def.ite (by unfold fits;omega) (Def.bL (fun u=>?_) (fun u=>?_))
 .refine Def.cut (by omega) (by omega) (by omega) ?_
  have v:(s2.take ((s2.length:Int)).toNat).drop ((s2.length:Int)-(ends[n].length:Int)).toNat=s2.drop (s2.length-ends[n].length):=by
   rw[show((s2.length:Int)-(ends[n].length:Int)).toNat=s2.length-ends[n].length from by omega,er,cl]
  rw[v]
  refine Def.bL (fun i=>?_) (fun i=>?_)
  .have f:je s2 ends[n]=some (s2.take (s2.length-ends[n].length)):=by unfold je;rw[ai ⟨by omega,i⟩]
   refine Def.cut (by omega) (by omega) (by omega) (Def.ret ?_)
   rw[f]at a
   rw[<-a,show((s2.length:Int)-(ends[n].length:Int)).toNat=s2.length-ends[n].length from by omega]
   rfl
  .exact next (by unfold je;rw[aA (fun x=>i x.2)])
 .exact next (by unfold je;rw[aA (by omega)])
theorem GF (N:Nat) (s:List UInt8) (h:s.length+8<N) (i:s.length<=100000):uf N s=some (fU s):=by
 refine Def.get ?_
 unfold uf
 refine Def.iter (fun g=>g.length<=s.length/\fU g=fU s) (fun g=>g.length) (fun go g f b=>?_) N _ ⟨bC _,rfl⟩ (by omega)
 obtain⟨j,a⟩:=f
 dsimp only
 rw[afJ N g (by omega) (by omega)]
 refine Def.bind (Def.eq rfl) fun r c=>?_
 subst c
 cases d:once g with
 |none=>
  rw[Option.getD_none,aq rfl]
  exact Def.ret (by rw[<-a,x5 d])
 |some t=>
  have:=Ii d
  rw[mi,ak (fun e=>by rw[e]at this;omega)]
  refine Def.bind (Def.eq rfl) fun r c=>?_
  subst c
  exact b _ ⟨by omega,by rw[<-a,Jc d]⟩ (by omega)
theorem Gx (N:Nat) (l:List (List UInt8)) (x:List UInt8) (h:l.length<N) (c:l.length<=1000000000):ue N l x=some (decide (x∈l)):=by
 unfold ue
 refine(dB _ l.length (fun n=>(l,x,(n:Int))) (fun n=>some (decide (x∈l.drop n))) (fun go=>?_) (fun go n b a=>?_) N 0 (bg _) (by omega)).trans (by simp)
 .dsimp only
  rw[ak (bp _),aj,lE]
  simp
 .dsimp only
  rw[aq (by omega:(n:Int)<l.length),ao,aO b,af,ai (aN (n:=n) (by omega)),fC b]
  simp only[aR]at a
  by_cases e:l[n]=x
  .rw [aq e,ao,aq (by rw[e];exact b6)]
  .rw [ak e,aj,a]
   congr 1
   rw[decide_eq_decide,bm]
   exact⟨.inr,fun h=>h.resolve_left (fun h=>e h.symm)⟩
theorem Bb {d ρ:Type} (F:(d->Option ρ)->d->Option ρ) (len:Nat) (st:Nat->d) (a:Nat->Bool) (no fin:Option ρ) (c:∀go,F go (st len)=fin)
  (b:∀go n,n<len->F go (st n)=bif a n then go (st (n+1))else no) (N:Nat) (h:len<N):iter F N (st 0)=bif dL len a then fin else no:=by
 have key:=dB F len st (fun n=>bif(List.range' n (len-n)).all a then fin else no) (fun go=>by rw[c,Nat.sub_self];simp) (fun go n f e=>?_) N 0 (bg _) (by omega)
 .simpa [dL]using key
 .rw [b go n f,e,show len-n=(len-(n+1))+1 from by omega,List.range'_succ,List.all_cons]
  cases a n<;>simp
theorem ah6 {α:Type} (xs:List α) (P:α->Bool) (a:Nat->Bool) (h:∀(n:Nat) (b:n<xs.length),a n=P xs[n]):dL xs.length a=xs.all P:=by
 unfold dL
 rw[np,cA,cA]
 constructor
 .intro c x d
  obtain⟨n,b,rfl⟩:=fe.1 d
  rw[<-h n b]
  exact c n (by simp;omega)
 .intro e n b
  simp at b
  rw[h n (by omega)]
  exact e _ (bA _)
theorem nA {α d ρ:Type} (F:(d->Option ρ)->d->Option ρ) (xs:List α) (st:Nat->d) (P:α->Bool) (no fin:Option ρ) (c:∀go,F go (st xs.length)=fin)
  (a:∀go n (b:n<xs.length),F go (st n)=bif P xs[n]then go (st (n+1))else no) (N:Nat) (h:xs.length<N):iter F N (st 0)=bif xs.all P then fin else no:=by
 rw[Bb F xs.length st (fun n=>if b:n<xs.length then P xs[n]else false) no fin c (fun go n b=>by rw[dif_pos b];exact a go n b) N h,ah6 xs P _ (fun n b=>by rw[dif_pos b])]
theorem AW {s:List UInt8} (h:okW s=true):1<=s.length/\s.length<=12:=by
 unfold okW at h
 simp only[bk,bz]at h
 omega
def nh (xs:List (List UInt8)) (n:Nat):List UInt8:=xs[n]?.getD []
theorem rT {xs:List (List UInt8)} {n:Nat} (h:n<xs.length):xs[n]=nh xs n:=by unfold nh;rw[bH h];rfl
def n7 (xs:List (List UInt8)) (n:Nat):Bool:=okW (nh xs n)&&(decide (n=0)||nw (nh xs (n-1)) (nh xs n))
theorem ahO (N:Nat) (c:bF<N) (d:N<=1099511627776) (xs:List (List UInt8)) (b:cz bF (.av .str) xs):AM N xs=some (dL xs.length (n7 xs)):=by
 have f:List.length xs<=1048576:=b.1
 have e:1048576<N:=c
 unfold AM
 refine(Bb _ xs.length (fun n=>(xs,xs,(xs.length:Int),(n:Int))) (n7 xs) (some false) (some true) (fun go=>?_) (fun go n a=>?_) N (by omega)).trans (by cases dL xs.length (n7 xs)<;>rfl)
 .dsimp only
  rw[ak (bp _),aj]
 .dsimp only
  have g:List.length xs[n]<=1048576:=b.2 xs[n] (bA a)
  rw[aq (by omega:(n:Int)<xs.length),ao,aO a,af,lA N _ (by omega) d,af,ai (aN (n:=n) (by omega)),aR]
  unfold n7 nw
  rw[<-rT a]
  cases okW xs[n]with
  |false=>rfl
  |true=>
   rw[bn,aj,ck]
   cases n with
   |zero=>rfl
   |succ n=>
    rw[aq (by omega:(0:Int)<((n+1:Nat):Int)),ao,ai (by unfold fits;omega),show(((n+1:Nat):Int)-1)=(n:Int)from by omega,aO (by omega:n<xs.length),af,show n+1-1=n from rfl,<-rT (by omega:n<xs.length)]
    cases Op.bytesLess xs[n] xs[n+1]<;>rfl
theorem Gu (N:Nat) (l:List (List UInt8)) (x:List UInt8) (h:l.length<N) (j:l.length<=1000000000):ud N l x=some (decide (x∈l)):=by
 refine Def.get ?_
 unfold ud GB
 refine Def.bind (P:=fun r:Int=>decide ((0:Int)<=r)=decide (x∈l)) ?_ (fun r f=>Def.ret f)
 refine Def.upto l.length (fun n g=>g=(l,x,(l.length:Int),(n:Int))/\x∉l.take n) (fun go g b=>?_) (fun go n g c b d=>?_) N 0 _ (bg _) ⟨rfl,by simp⟩ (by omega)
 .obtain ⟨rfl,a⟩:=b
  dsimp only
  rw[ak (bp _),aj]
  rw[cl]at a
  exact Def.ret (by rw[ak a];rfl)
 .obtain ⟨rfl,a⟩:=b
  dsimp only
  rw[aq (by omega:(n:Int)<l.length),ao,aO c,af]
  refine Def.bL (fun e=>Def.ret ?_) (fun e=>Def.ite (aN (n:=n) (by omega)) (d _ ⟨by rw[aR],?_⟩))
  .rw [aq (by omega:(0:Int)<=(n:Int)),aq (by rw[e];exact bA c)]
  .rw [ec c,cp,c1]
   exact fun i=>i.elim a e
def sd (st:List (List UInt8)) (w:List UInt8):Bool:=okW w&&(decide (fU w=w)&& !decide (w∈st))
def n6 (st:List (List UInt8)) (y:eS):Bool:=(decide ((1:Int)<=y.1.length)&&decide ((y.1.length:Int)<=3))&&(okW y.2&&(decide (fU y.2=y.2)&&y.1.all (sd st)))
def dQ (c:aL):Bool:=decide ((c.1.length:Int)<=6)&&(dL c.1.length (n7 c.1)&&(decide ((c.2.length:Int)<=4)&&c.2.all (n6 c.1)))
theorem re (N:Nat) (e:bF<N) (a:N<=1099511627776) (c:aL) (b:cz bF gm c):nU N c.1 c.2=some (dQ c):=by
 obtain⟨c,c2⟩:=c
 have j:1048576<N:=e
 have r:List.length c<=1048576:=b.1.1
 have l:List.length c2<=1048576:=b.2.1
 unfold nU dQ
 dsimp only
 by_cases f:(6:Int)<c.length
 .rw [aq f,ao,ak (by omega:¬(c.length:Int)<=6)];rfl
 rw[ak f,aj,aq (by omega:(c.length:Int)<=6),ck,ahO N e a c b.1,af]
 cases dL c.length (n7 c)with
 |false=>rfl
 |true=>
 rw[bn,aj,ck]
 by_cases g:(4:Int)<c2.length
 .rw [aq g,ao,ak (by omega:¬(c2.length:Int)<=4)];rfl
 rw[ak g,aj,aq (by omega:(c2.length:Int)<=4),ck]
 refine(nA _ c2 (fun n=>(c2,(c2.length:Int),(n:Int),c,c2)) (n6 c) (some false) (some true) (fun go=>?_) (fun go n h=>?_) N (by omega)).trans (by cases c2.all (n6 c)<;>rfl)
 .dsimp only
  rw[ak (bp _),aj]
 .dsimp only
  have d:=b.2.2 c2[n] (bA h)
  have o:List.length c2[n].1<=1048576:=d.1.1
  have p:List.length c2[n].2<=1048576:=d.2
  rw[aq (by omega:(n:Int)<c2.length),ao,aO h,af,hl,af]
  unfold n6
  cases(decide ((1:Int)<=c2[n].1.length)&&decide ((c2[n].1.length:Int)<=3))with
  |false=>rfl
  |true=>
  rw[bn,aj,ck,lA N _ (by omega) a,af,GK N _ (by omega) (by omega) a,af]
  cases okW c2[n].2 with
  |false=>rfl
  |true=>
  rw[bn,aj,ck,ao]
  cases decide (fU c2[n].2=c2[n].2)with
  |false=>rfl
  |true=>
  rw[bn,aj,ck]
  refine nA _ c2[n].1 (fun k=>(c2,(c2.length:Int),(n:Int),false,false,c2[n].1,(c2[n].1.length:Int),(k:Int),c,c2)) (sd c) (some false) (go (c2,(c2.length:Int),((n+1:Nat):Int),c,c2)) (fun go2=>?_) (fun go2 k i=>?_) N (by omega)
  .dsimp only
   rw[ak (bp _),aj,ai (aN (n:=n) (by omega)),aR]
  .dsimp only
   have hw:List.length c2[n].1[k]<=1048576:=d.1.2 _ (bA i)
   rw[aq (by omega:(k:Int)<c2[n].1.length),ao,aO i,af,lA N _ (by omega) a,af,GK N _ (by omega) (by omega) a,af,Gu N _ _ (by omega) (by omega),af,ai (aN (n:=k) (by omega)),aR]
   unfold sd
   cases okW c2[n].1[k]with
   |false=>rfl
   |true=>
   rw[bn,aj,ck,ao]
   cases decide (fU c2[n].1[k]=c2[n].1[k])with
   |false=>rfl
   |true=>
   rw[bn,aj,ck]
   cases decide (c2[n].1[k]∈c)<;>rfl
theorem BQ (N:Nat) (g:bF<N) (e:N<=1099511627776) (c:aL) (b:cz bF gm c):r0 N c.1 c.2=some (dQ c):=by
 obtain⟨c,c2⟩:=c
 have h:1048576<N:=g
 have p:List.length c<=1048576:=b.1.1
 have i:List.length c2<=1048576:=b.2.1
 unfold r0 dQ
 dsimp only
 refine(Bb _ c.length (fun n=>((n:Int),c,c2)) (n7 c) (some false) (bif c2.all (n6 c)then some (decide ((c.length:Int)<=6)&&decide ((c2.length:Int)<=4))else some false) (fun go=>?_) (fun go n a=>?_) N (by omega)).trans (by cases dL c.length (n7 c)<;>cases c2.all (n6 c)<;>cases decide ((c.length:Int)<=6)<;>cases decide ((c2.length:Int)<=4)<;>rfl)
 .dsimp only
  rw[ak (bp _),aj]
  refine nA _ c2 (fun n=>((n:Int),c,c2)) (n6 c) (some false) _ (fun go=>?_) (fun go n a=>?_) N (by omega)
  .dsimp only
   rw[ak (bp _),aj]
   cases decide ((c.length:Int)<=6)<;>rfl
  .dsimp only
   have d:=b.2.2 c2[n] (bA a)
   have j:List.length c2[n].1<=1048576:=d.1.1
   have l:List.length c2[n].2<=1048576:=d.2
   rw[aq (by omega:(n:Int)<c2.length),ao,aO a,af]
   refine(nA _ c2[n].1 (fun k=>((n:Int),(k:Int),c,c2,c2[n].1,c2[n].2)) (sd c) (some false) (bif((decide ((1:Int)<=c2[n].1.length)&&decide ((c2[n].1.length:Int)<=3))&&(okW c2[n].2&&decide (fU c2[n].2=c2[n].2)))then go (((n+1:Nat):Int),c,c2)else some false) (fun go2=>?_) (fun go2 k f=>?_) N (by omega)).trans ?_
   .dsimp only
    rw[ak (bp _),aj,nZ,af,r6 N _ (by omega) e,af,ai (aN (n:=n) (by omega)),aR]
    cases(decide ((1:Int)<=c2[n].1.length)&&decide ((c2[n].1.length:Int)<=3))with
    |false=>rfl
    |true=>
    cases hw:okW c2[n].2 with
    |false=>rfl
    |true=>
    have:=AW hw
    rw[bn,aj,aj,ck,ck,GF N _ (by omega) (by omega),af]
    cases decide (fU c2[n].2=c2[n].2)<;>rfl
   .dsimp only
    have o:List.length c2[n].1[k]<=1048576:=d.1.2 _ (bA f)
    rw[aq (by omega:(k:Int)<c2[n].1.length),ao,aO f,af,r6 N _ (by omega) e,af]
    unfold sd
    cases hw:okW c2[n].1[k]with
    |false=>rfl
    |true=>
    have:=AW hw
    rw[bn,aj,ck,af,GF N _ (by omega) (by omega),af,af,af]
    cases decide (fU c2[n].1[k]=c2[n].1[k])with
    |false=>rfl
    |true=>
    rw[bn,aj,ck,ai (aN (n:=k) (by omega)),aR]
    rw[Gx N _ _ (by omega) (by omega),af]
    cases decide (c2[n].1[k]∈c)<;>rfl
   .unfold n6
    cases c2[n].1.all (sd c)<;>cases(decide ((1:Int)<=c2[n].1.length)&&decide ((c2[n].1.length:Int)<=3))<;>cases okW c2[n].2<;>cases decide (fU c2[n].2=c2[n].2)<;>rfl
 .dsimp only
  have d:List.length c[n]<=1048576:=b.1.2 c[n] (bA a)
  rw[aq (by omega:(n:Int)<c.length),ao,aO a,af,r6 N _ (by omega) e,af,ai (aN (n:=n) (by omega)),aR]
  unfold n7 nw
  rw[<-rT a]
  cases okW c[n]with
  |false=>rfl
  |true=>
   rw[bn,aj,ck]
   cases n with
   |zero=>rfl
   |succ n=>
    rw[aq (by omega:(0:Int)<((n+1:Nat):Int)),ao,af,ai (by unfold fits;omega),show(((n+1:Nat):Int)-1)=(n:Int)from by omega,aO (by omega:n<c.length),af,show n+1-1=n from rfl,<-rT (by omega:n<c.length),my]
    cases Op.bytesLess c[n] c[n+1]<;>rfl
abbrev dp :=List UInt8×Int
theorem aiA {len:Nat} {f g:Nat->Bool} (h:∀n,n<len->f n=g n):dL len f=dL len g:=by
 unfold dL
 rw[np,cA,cA]
 constructor<;>intro c n b<;>have a:=b<;>simp at a
 .rw [<-h n a];exact c n b
 .rw [h n a];exact c n b
theorem OJ (n:Nat) (f:Nat->Bool):dL (n+1) f=(dL n f&&f n):=by
 unfold dL
 rw[List.range'_concat,List.all_append]
 simp
theorem afp :∀n:Nat,n<256->(decide (kd n=0)||(gv (kd n)&&decide (0<=kd n)&&decide (kd n<256)))=true:=by decide+kernel
theorem K5 {c:UInt8} (h:e6 c=true):gv (nI c)=true/\0<=nI c/\nI c<256:=by
 have:=afp c.toNat (UInt8.toNat_lt c)
 unfold e6 at h
 unfold nI
 simp only[lB,bk,bz]at this
 rcases this with a|⟨⟨a,b⟩,d⟩
 .rw [aq a]at h;cases h
 .exact ⟨a,b,d⟩
theorem agC {n:Int} (a:0<=n) (b:n<256):((UInt8.ofNat n.toNat).toNat:Int)=n:=by
 have:(UInt8.ofNat n.toNat).toNat=n.toNat%256:=by simp
 rw[this];omega
theorem aht {xs:List Int} (h:∀x,x∈xs->gv x=true/\0<=x/\x<256) (c:0<xs.length) (d:xs.length<=12):okW (bytesOf xs)=true:=by
 have e:(bytesOf xs).length=xs.length:=by unfold bytesOf;simp
 unfold okW
 rw[bk,bk,bz,bz]
 refine⟨?_,by omega,by omega⟩
 unfold dL
 rw[cA]
 intro n b
 simp at b
 have a:n<xs.length:=by omega
 have:gb (bytesOf xs) n=xs[n]:=by
  unfold gb bytesOf
  rw[ie,bH a]
  exact agC (h _ (bA a)).2.1 (h _ (bA a)).2.2
 rw[this]
 exact(h _ (bA a)).1
theorem OH :∀(l:List UInt8) (c:UInt8),c∈l.take (lead l)->e6 c=true
 | [],c,h=>by cases h
 |d::l,c,h=>by
  cases a:e6 d with
  |false=>rw[BT a]at h;cases h
  |true=>
   rw[uv a,sP]at h
   rcases bm.1 h with rfl|h
   .exact a
   .exact OH l c h
theorem w9 (l:List UInt8) (p a:Int):∀x,x∈gY l p a->okW x.1=true/\a<=x.2.1:=by
 match l with
 | []=>rw[ni];intro x b;cases b
 |c::t=>
  intro x b
  rw[gY]at b
  split at b
  .rename_i e
   rcases bm.1 b with rfl|b
   .refine ⟨aht (fun y hy=>?_) ?_ ?_,iF _⟩
    .have hy:=fK hy
     obtain⟨d,f,rfl⟩:=cd.1 hy
     exact K5 (OH (c::t) d (by rw[uv e];exact f))
    .simp
    .simp;omega
   .have:=w9 (t.drop (lead t)) (p+(lead t+1:Nat)) (a+1) x b
    exact⟨this.1,by omega⟩
  .exact w9 t (p+1) a x b
termination_by l.length
decreasing_by all_goals (simp; try omega)
theorem GJ (l:List UInt8) (p a:Int):∀x,x∈gY l p a->x.2.1<a+l.length:=by
 match l with
 | []=>rw[ni];intro x b;cases b
 |c::t=>
  intro x b
  rw[gY]at b
  simp only[aZ]
  split at b
  .rcases bm.1 b with rfl|b
   .dsimp only;omega
   .have:=GJ (t.drop (lead t)) (p+(lead t+1:Nat)) (a+1) x b
    rw[eY]at this
    omega
  .have:=GJ t (p+1) a x b
   omega
termination_by l.length
decreasing_by all_goals (simp; try omega)
def mb (st:List (List UInt8)) (w:rV):Option dp:=if w.1∈st\/fU w.1∈st then none else some (fU w.1,w.2.1)
def plain (st:List (List UInt8)) (s:List UInt8):List dp:=(words s).filterMap (mb st)
theorem GI (st:List (List UInt8)) (s:List UInt8):(plain st s).length<=s.length:=dK (sN _ _) (w6 s 0 0)
theorem aiM (st:List (List UInt8)) (s:List UInt8):∀x,x∈plain st s->0<=x.2/\x.2<s.length:=by
 intro x b
 obtain⟨w,hw,a⟩:=qV.1 b
 unfold mb at a
 split at a
 .cases a
 .cases a
  have c:=(w9 s 0 0 w hw).2
  have d:=GJ s 0 0 w hw
  exact⟨c,by dsimp only;omega⟩
theorem y9 {α β:Type} (f:α->Option β) (xs:List α) (n:Nat) (h:n<xs.length):(xs.take (n+1)).filterMap f=(xs.take n).filterMap f++(match f xs[n]with|some y=>[y]|none=>[]):=by
 rw[ec h,List.filterMap_append]
 cases a:f xs[n]<;>simp[a]
theorem afn (N:Nat) (c:aL) (s:List UInt8) (j:s.length<=10000) (k:20000<N) (l:c.1.length<=6):AZ N c.1 c.2 s=some (plain c.1 s):=by
 unfold AZ
 rw[aia N s (by omega) (by omega),af]
 have g:(words s).length<=s.length:=w6 s 0 0
 refine(dB _ (words s).length (fun n=>(((words s).take n).filterMap (mb c.1),words s,(n:Int),c.1,c.2)) (fun _=>some (plain c.1 s)) (fun go=>?_) (fun go n b a=>?_) N 0 (bg _) (by omega)).trans rfl
 .dsimp only
  rw[ak (bp _),aj,cl]
  rfl
 .dsimp only
  have hw:=(w9 s 0 0 (words s)[n] (bA b)).1
  have f:=AW hw
  have i:(((words s).take n).filterMap (mb c.1)).length<=n:=dK (sN _ _) (by simp;omega)
  rw[y9 _ _ _ b]at a
  simp only[aR]at a
  rw[aq (by omega:(n:Int)<((words s).length:Int)),ao,aO b,af,GF N _ (by omega) (by omega),af,af,Gx N _ _ (by omega) (by omega),af,ai (aN (n:=n) (by omega))]
  unfold mb at a
  by_cases d:(words s)[n].1∈c.1
  .rw [aq d]
   rw[ai (.inl d),e5]at a
   exact a
  .rw [ak d,dt,ao,Gx N _ _ (by omega) (by omega),af]
   by_cases e:fU (words s)[n].1∈c.1
   .rw [aq e]
    rw[ai (.inr e),e5]at a
    exact a
   .rw [ak e,dt,ao,af,ai (b5 (by simp only[aZ,bE];omega) (by simp only[aZ,bE];omega)),ai (aN (n:=n) (by omega))]
    rw[aA (by rintro(h|h)<;>contradiction)]at a
    exact a
def du (xs:List dp) (n:Nat):dp:=xs[n]?.getD ([],0)
theorem l5 {xs:List dp} {n:Nat} (h:n<xs.length):xs[n]=du xs n:=by unfold du;rw[bH h];rfl
theorem A6 (xs:List dp) (k n:Nat):du (xs.drop k) n=du xs (k+n):=by unfold du;rw[hT]
def mt (l:List dp) (f:List (List UInt8)) (j:Nat):Bool:=decide ((du l j).1=nh f j)&&decide ((du l j).2=(du l 0).2+j)
def jp (l:List dp) (f:List (List UInt8)):Bool:=dL f.length (fun j=>decide (j<l.length)&&mt l f j)
def mo (l:List dp):Prop:=∀x,x∈l->0<=x.2/\x.2<1000000
theorem mo.at {l:List dp} (h:mo l) (n:Nat):0<=(du l n).2/\(du l n).2<1000000:=by
 unfold du
 cases a:l[n]? with
 |none=>show(0:Int)<=0/\(0:Int)<1000000;omega
 |some x=>exact h x (fc a)
theorem agU (N:Nat) (l:List dp) (f:List (List UInt8)) (c:f.length<=1048576) (d:1048576<N) (b:mo l):A0 N l f=some (jp l f):=by
 unfold A0 jp
 refine(Bb _ f.length (fun n=>(l,f,(n:Int))) (fun j=>decide (j<l.length)&&mt l f j) (some false) (some true) (fun go=>?_) (fun go n a=>?_) N (by omega)).trans (by cases dL f.length (fun j=>decide (j<l.length)&&mt l f j)<;>rfl)
 .dsimp only
  rw[ak (bp _),aj]
 .dsimp only
  rw[aq (by omega:(n:Int)<f.length),ao]
  by_cases h:n<l.length
  .have e:=b.at 0
   rw[ak (by omega:¬(l.length:Int)<=(n:Int)),aj,aq h,ck,aO h,af,aO a,af,af,show(0:Int)=((0:Nat):Int)from rfl,aO (by omega:0<l.length),af,l5 h,l5 (by omega:0<l.length),rT a,ai (by unfold fits;omega),ai (aN (n:=n) (by omega)),aR]
   unfold mt
   cases decide ((du l n).1=nh f n)with
   |false=>rfl
   |true=>
    rw[bn,aj,ck]
    cases decide ((du l n).2=(du l 0).2+(n:Int))<;>rfl
  .rw [aq (by omega:(l.length:Int)<=(n:Int)),ao,ak h];rfl
def gC (l:List dp) (a:Option eS) (y:eS):Option eS:=bif jp l y.1&&(match a with|none=>true|some b=>decide (b.1.length<y.1.length))then some y else a
theorem aih (l:List dp) (b:Option eS) (y:eS):(gC l b y=some y/\jp l y.1=true)\/gC l b y=b:=by
 unfold gC
 cases a:jp l y.1 with
 |false=>exact .inr rfl
 |true=>
  rw[ck]
  generalize(match b with|none=>true|some b=>decide (b.1.length<y.1.length))=q
  cases q
  .exact .inr rfl
  .exact .inl ⟨rfl,rfl⟩
theorem afR (l:List dp) (y:eS):gC l none y=bif jp l y.1 then some y else none:=by unfold gC;rw[fX]
theorem ahy (l:List dp) (p y:eS) (h:p.1.length<y.1.length):gC l (some p) y=bif jp l y.1 then some y else some p:=by unfold gC;dsimp only;rw[aq h,fX]
theorem agG (l:List dp) (p y:eS) (h:¬p.1.length<y.1.length):gC l (some p) y=some p:=by unfold gC;dsimp only;rw[ak h,pE];rfl
def pv (c2:List eS) (l:List dp):Option eS:=c2.foldl (gC l) none
theorem nJ {α β:Type} (f:β->α->β) (b:β) (xs:List α) (n:Nat) (h:n<xs.length):(xs.take (n+1)).foldl f b=f ((xs.take n).foldl f b) xs[n]:=by
 rw[ec h,hU];rfl
theorem Dc (c2:List eS) (l:List dp) {y:eS} (h:pv c2 l=some y):y∈c2/\jp l y.1=true:=by
 have key:∀n,n<=c2.length->∀y,(c2.take n).foldl (gC l) none=some y->y∈c2/\jp l y.1=true:=by
  intro n
  induction n with
  |zero=>intro _ y h;cases h
  |succ n b=>
   intro d y h
   rw[nJ _ _ _ _ (by omega)]at h
   rcases aih l ((c2.take n).foldl (gC l) none) (c2[n]'(by omega))with⟨a,c⟩|a
   .rw [a]at h
    cases h
    exact⟨bA _,c⟩
   .rw [a]at h
    exact b (by omega) y h
 exact key c2.length (bC _) y (by rw[cl];exact h)
theorem Gr {l:List dp} {f:List (List UInt8)} (h:jp l f=true):f.length<=l.length:=by
 by_cases a:f.length=0
 .omega
 unfold jp dL at h
 rw[cA]at h
 have:=h (f.length-1) (by simp;omega)
 rw[bk,bz]at this
 omega
theorem aid (N:Nat) (c:aL) (l:List dp) (v:c.2.length<=4) (hy:∀y,y∈c.2->y.1.length<=1048576) (p:1048576<N) (s:mo l):
  Def (A2 N c.1 c.2 l) fun r=>(r=-1/\pv c.2 l=none)\/ ∃k:Nat,r=(k:Int)/\∃h:k<c.2.length,pv c.2 l=some c.2[k]:=by
 unfold A2
 refine Def.upto c.2.length (fun n g=>∃b:Int,g=(l,b,(n:Int),c.1,c.2)/\((b=-1/\(c.2.take n).foldl (gC l) none=none)\/ ∃k:Nat,b=(k:Int)/\∃h:k<c.2.length,(c.2.take n).foldl (gC l) none=some c.2[k])) (fun go g j=>?_) (fun go n g f j d=>?_) N 0 _ (bg _) ⟨-1,rfl,.inl ⟨rfl,rfl⟩⟩ (by omega)
 .obtain ⟨b,rfl,a⟩:=j
  dsimp only
  rw[ak (bp _),aj]
  rw[cl]at a
  exact Def.ret a
 .obtain ⟨b,rfl,a⟩:=j
  dsimp only
  rw[aq (by omega:(n:Int)<c.2.length),ao,aO f,af,agU N l _ (hy _ (bA f)) p s,af]
  have e:=nJ (gC l) none c.2 n f
  refine Def.bif (fun i=>?_) (fun i=>?_)
  .refine Def.bL (fun t=>?_) (fun t=>?_)
   .refine Def.ite (aN (n:=n) (by omega)) (d _ ⟨(n:Int),by rw[aR],.inr ⟨n,rfl,f,?_⟩⟩)
    rcases a with⟨_,a⟩|⟨k,rfl,_⟩
    .rw [e,a];unfold gC;rw[i];rfl
    .omega
   .rcases a with⟨rfl,_⟩|⟨k,rfl,o,a⟩
    .omega
    rw[af,aO o,af]
    refine Def.bL (fun u=>?_) (fun u=>?_)
    .refine Def.ite (aN (n:=n) (by omega)) (d _ ⟨(n:Int),by rw[aR],.inr ⟨n,rfl,f,?_⟩⟩)
     rw[e,a];unfold gC;rw[i];dsimp only;rw[aq (by omega:c.2[k].1.length<c.2[n].1.length)];rfl
    .refine Def.ite (aN (n:=n) (by omega)) (d _ ⟨(k:Int),by rw[aR],.inr ⟨k,rfl,o,?_⟩⟩)
     rw[e,a];unfold gC;rw[i];dsimp only;rw[ak (by omega:¬c.2[k].1.length<c.2[n].1.length)];rfl
  .refine Def.ite (aN (n:=n) (by omega)) (d _ ⟨b,by rw[aR],?_⟩)
   have:(c.2.take (n+1)).foldl (gC l) none=(c.2.take n).foldl (gC l) none:=by rw[e];unfold gC;rw[i];rfl
   rw[this];exact a
theorem afS (N:Nat) (c:List (List UInt8)) (c2:List eS) (b:List dp) (a:Nat) (A:a<b.length) (v:b.length<=100000) (B:c2.length<=4) (hy:∀y,y∈c2->y.1.length<=1048576) (C:1048576<N) (u:mo b):
  AR N c c2 b (a:Int)=some (pv c2 (b.drop a)):=by
 unfold AR
 refine(dB _ c2.length (fun n=>(b,(a:Int),(c2.take n).foldl (gC (b.drop a)) none,(c2.length:Int),(n:Int),c,c2)) (fun _=>some (pv c2 (b.drop a))) (fun go=>?_) (fun go n s d=>?_) N 0 (bg _) (by omega)).trans rfl
 .dsimp only
  rw[ak (bp _),aj,cl]
  rfl
 dsimp only
 have x:=hy _ (bA s)
 have e:=nJ (gC (b.drop a)) none c2 n s
 generalize F:(c2.take n).foldl (gC (b.drop a)) none=l at e⊢
 simp only[aR]at d
 rw[aq (by omega:(n:Int)<c2.length),ao,aO s,af,ai (by unfold fits;omega)]
 by_cases hlen:(b.length:Int)-(a:Int)<c2[n].1.length
 .have t:jp (b.drop a) c2[n].1=false:=by
   cases h:jp (b.drop a) c2[n].1 with
   |false=>rfl
   |true=>have:=Gr h;rw[eY]at this;omega
  rw[aq hlen,ao,ai (aN (n:=n) (by omega)),<-d,e]
  unfold gC
  rw[t]
  rfl
 rw[ak hlen,aj]
 have o:dL c2[n].1.length (mt (b.drop a) c2[n].1)=jp (b.drop a) c2[n].1:=by
  unfold jp
  refine aiA fun j G=>?_
  rw[aq (by rw[eY];omega),ck]
 cases l with
 |some p=>
  rw[show(!Option.isNone (some p))=true from rfl,ao,af]
  by_cases hle:(c2[n].1.length:Int)<=(p.1.length:Int)
  .rw [aq hle,ao,ai (aN (n:=n) (by omega)),<-d,e,agG _ _ _ (by omega)]
  .rw [ak hle,aj]
   refine(dB _ c2[n].1.length (fun k=>(b,(a:Int),(some p),c2[n],dL k (mt (b.drop a) c2[n].1),(c2.length:Int),(n:Int),false,c2[n].1,(c2[n].1.length:Int),(k:Int),c,c2)) (fun _=>go (b,(a:Int),(bif dL c2[n].1.length (mt (b.drop a) c2[n].1)then some c2[n]else(some p)),(c2.length:Int),(n:Int)+1,c,c2)) (fun go2=>?_) (fun go2 k r f=>?_) N 0 (bg _) (by omega)).trans ?_
   .dsimp only
    rw[ak (bp _),aj,ai (aN (n:=n) (by omega)),ai (aN (n:=n) (by omega))]
    cases dL c2[n].1.length (mt (b.drop a) c2[n].1)<;>rfl
   .dsimp only
    rw[<-f,OJ]
    have g:a+k<b.length:=by omega
    have z:=(u.at a)
    rw[aq (by omega:(k:Int)<c2[n].1.length),ao,aO r,af,ai (by unfold fits;omega),show(a:Int)+(k:Int)=((a+k:Nat):Int)from by push_cast;rfl,aO g,af,aO (by omega:a<b.length),af,l5 g,l5 (by omega:a<b.length),rT r,ai (show fits ((du b a).2+(k:Int))from by unfold fits;omega),aR]
    have i:fits ((k:Int)+1):=aN (n:=k) (by omega)
    simp only[ai i]
    have hm:mt (b.drop a) c2[n].1 k=(decide ((du b (a+k)).1=nh c2[n].1 k)&&decide ((du b (a+k)).2=(du b a).2+(k:Int))):=by unfold mt;rw[A6,A6];rfl
    rw[hm]
    cases dL k (mt (b.drop a) c2[n].1)with
    |false=>rfl
    |true=>
     cases decide ((du b (a+k)).1=nh c2[n].1 k)<;>rfl
   .rw [o,<-d,e,ahy _ _ _ (by omega)]
 |none=>
  rw[show(!Option.isNone (none:Option eS))=false from rfl,aj]
  refine(dB _ c2[n].1.length (fun k=>(b,(a:Int),(none:Option eS),c2[n],dL k (mt (b.drop a) c2[n].1),(c2.length:Int),(n:Int),false,c2[n].1,(c2[n].1.length:Int),(k:Int),c,c2)) (fun _=>go (b,(a:Int),(bif dL c2[n].1.length (mt (b.drop a) c2[n].1)then some c2[n]else(none:Option eS)),(c2.length:Int),(n:Int)+1,c,c2)) (fun go2=>?_) (fun go2 k r f=>?_) N 0 (bg _) (by omega)).trans ?_
  .dsimp only
   rw[ak (bp _),aj,ai (aN (n:=n) (by omega)),ai (aN (n:=n) (by omega))]
   cases dL c2[n].1.length (mt (b.drop a) c2[n].1)<;>rfl
  .dsimp only
   rw[<-f,OJ]
   have g:a+k<b.length:=by omega
   have z:=(u.at a)
   rw[aq (by omega:(k:Int)<c2[n].1.length),ao,aO r,af,ai (by unfold fits;omega),show(a:Int)+(k:Int)=((a+k:Nat):Int)from by push_cast;rfl,aO g,af,aO (by omega:a<b.length),af,l5 g,l5 (by omega:a<b.length),rT r,ai (show fits ((du b a).2+(k:Int))from by unfold fits;omega),aR]
   have i:fits ((k:Int)+1):=aN (n:=k) (by omega)
   simp only[ai i]
   have hm:mt (b.drop a) c2[n].1 k=(decide ((du b (a+k)).1=nh c2[n].1 k)&&decide ((du b (a+k)).2=(du b a).2+(k:Int))):=by unfold mt;rw[A6,A6];rfl
   rw[hm]
   cases dL k (mt (b.drop a) c2[n].1)with
   |false=>rfl
   |true=>
    cases decide ((du b (a+k)).1=nh c2[n].1 k)<;>rfl
  .rw [o,<-d,e,afR]
theorem Def.Eb {α β:Type} {xs:List α} {k:Nat} {f:List α->Option β} {Q:β->Prop} (h:k<=xs.length) (a:Def (f (xs.drop k)) Q):Def (Option.bind (Go.Proofs.YtnkagklajgimlaaGreatDoor.cut xs (k:Int) (xs.length:Int)) f) Q:=by
 refine Def.cut (by omega) (by omega) (iF _) ?_
 simp only[er,cl]
 exact a
theorem Ia {c:aL} (h:dQ c=true):c.1.length<=6/\c.2.length<=4/\∀y,y∈c.2->1<=y.1.length/\y.1.length<=3/\okW y.2=true/\fU y.2=y.2:=by
 unfold dQ at h
 simp only[bk,bz,cA]at h
 obtain⟨b,_,d,a⟩:=h
 refine⟨by omega,by omega,fun y hy=>?_⟩
 have:=a y hy
 unfold n6 at this
 simp only[bk,bz]at this
 exact⟨by omega,by omega,this.2.1,this.2.2.1⟩
def h9 (c2:List eS) (l:List dp):List dp:=
 match l with
 | []=>[]
 |t::r=>match pv c2 (t::r)with
  |none=>t::h9 c2 r
  |some y=>(y.2,t.2)::h9 c2 (r.drop (y.1.length-1))
termination_by l.length
decreasing_by all_goals (simp; try omega)
theorem u6 (c2:List eS):h9 c2 []=[]:=by rw[h9]
theorem OV {c2:List eS} {t:dp} {r:List dp} (h:pv c2 (t::r)=none):h9 c2 (t::r)=t::h9 c2 r:=by rw[h9,h]
theorem OM {c2:List eS} {t:dp} {r:List dp} {y:eS} (h:pv c2 (t::r)=some y) (hy:1<=y.1.length):h9 c2 (t::r)=(y.2,t.2)::h9 c2 ((t::r).drop y.1.length):=by
 rw[h9,h]
 show(y.2,t.2)::h9 c2 (r.drop (y.1.length-1))=_
 obtain⟨k,a⟩:∃k,y.1.length=k+1:=⟨y.1.length-1,by omega⟩
 rw[a]
 rfl
theorem Dg (c2:List eS) (l:List dp):(h9 c2 l).length<=l.length:=by
 match l with
 | []=>rw[u6];exact bC _
 |t::r=>
  rw[h9]
  split
  .have:=Dg c2 r
   simp only[aZ];omega
  .rename_i y _
   have:=Dg c2 (r.drop (y.1.length-1))
   rw[eY]at this
   simp only[aZ];omega
termination_by l.length
decreasing_by all_goals (simp; try omega)
def dv (c:aL) (s:List UInt8):List dp:=h9 c.2 (plain c.1 s)
theorem om (c:aL) (s:List UInt8):(dv c s).length<=s.length:=dK (Dg _ _) (GI _ _)
theorem GO (st:List (List UInt8)) (s:List UInt8) (b:s.length<=10000):mo (plain st s):=fun x a=>by
 have:=aiM st s x a
 exact⟨this.1,by omega⟩
theorem mo.drop {l:List dp} (h:mo l) (n:Nat):mo (l.drop n):=fun x a=>h x (nq a)
theorem xp (N:Nat) (c:aL) (s:List UInt8) (u:s.length<=10000) (z:1048576<N) (A:dQ c=true):qn N c.1 c.2 s=some (dv c s):=by
 obtain⟨B,C,d⟩:=Ia A
 refine Def.get ?_
 unfold qn
 rw[afn N c s u (by omega) B]
 refine Def.bind (Def.eq rfl) fun r F=>?_
 subst F
 have G:=GI c.1 s
 have o:=GO c.1 s u
 refine Def.iter (fun g=>g.2.2=(c.1,c.2)/\mo g.2.1/\g.1.length+g.2.1.length<=10000/\g.1++h9 c.2 g.2.1=dv c s) (fun g=>g.2.1.length) (fun go g H a=>?_) N _ ⟨rfl,o,by simp;omega,rfl⟩ (by dsimp only;omega)
 obtain⟨out,l,c3,c4⟩:=g
 obtain⟨v,j,hlen,f⟩:=H
 dsimp only at v j hlen f a⊢
 cases v
 match l with
 | []=>
  refine Def.bL (fun h=>absurd h (by simp)) (fun _=>Def.ret ?_)
  rw[u6,e5]at f
  exact f
 |t::r=>
  have x:0<(t::r).length:=by simp
  rw[aq (by omega:(0:Int)<((t::r).length:Int)),ao]
  refine Def.bind (aid N c (t::r) C (fun y hy=>by have:=(d y hy).2.1;omega) z j) fun k b=>?_
  rcases b with⟨rfl,b⟩|⟨k,rfl,i,b⟩
  .rw [aq (by decide:(-1:Int)<0),ao,show(0:Int)=((0:Nat):Int)from rfl,aO x]
   refine Def.bind (Def.eq rfl) fun e he=>?_
   rw[he]
   refine Def.ite (b5 (by simp only[aZ,bE]at hlen⊢;omega) (by simp only[aZ,bE]at hlen⊢;omega)) ?_
   refine Def.Eb (k:=1) (by omega) (a _ ⟨rfl,j.drop 1,?_,?_⟩ ?_)
   .dsimp only;simp only[a1,aZ,bE,eY]at hlen⊢;omega
   .dsimp only;rw[<-f,OV b,dJ];rfl
   .dsimp only;simp only[aZ,eY];omega
  .have hy:=d _ (bA i)
   have p:=Gr (Dc _ _ b).2
   rw[ak (by omega:¬(k:Int)<0),aj,aO i,show(0:Int)=((0:Nat):Int)from rfl,aO x]
   refine Def.bind (Def.eq rfl) fun y he=>?_
   rw[he]
   refine Def.bind (Def.eq rfl) fun e he=>?_
   rw[he]
   refine Def.ite (b5 (by simp only[aZ,bE]at hlen⊢;omega) (by simp only[aZ,bE]at hlen⊢;omega)) ?_
   refine Def.bind (Def.eq rfl) fun y he=>?_
   rw[he]
   refine Def.Eb p (a _ ⟨rfl,j.drop _,?_,?_⟩ ?_)
   .dsimp only;simp only[a1,aZ,bE,eY]at hlen p⊢;omega
   .dsimp only;rw[<-f,OM b hy.1,dJ];rfl
   .dsimp only;simp only[aZ,eY]at p⊢;omega
theorem Dh (N:Nat) (c:aL) (s:List UInt8) (O:s.length<N) (I:bF<N) (u:N<=1099511627776) (P:cz bF gm c):rY N c.1 c.2 s=some (bif dQ c&&fz s then dv c s else []):=by
 have v:1048576<N:=I
 refine Def.get ?_
 unfold rY
 rw[re N I u c P]
 refine Def.bind (Def.eq rfl) fun r i=>?_
 subst i
 cases Q:dQ c with
 |false=>exact Def.ret rfl
 |true=>
 obtain⟨iu,S,k⟩:=Ia Q
 rw[bn,aj,GG N s O u]
 refine Def.bind (Def.eq rfl) fun r i=>?_
 subst i
 cases x:fz s with
 |false=>exact Def.ret rfl
 |true=>
 have z:s.length<=160:=by
  unfold fz at x
  simp only[bk,bz]at x
  omega
 rw[bn,aj,ag7 N s (by omega) u,x,ao]
 refine Def.bind (Def.eq rfl) fun r i=>?_
 subst i
 have T:(words s).length<=s.length:=w6 s 0 0
 have U:=GI c.1 s
 have A:=GO c.1 s (by omega)
 refine Def.upto (words s).length (fun n g=>g=([],((words s).take n).filterMap (mb c.1),words s,((words s).length:Int),(n:Int),c.1,c.2)) (fun go g B=>?_) (fun go n g C B d=>?_) N 0 _ (bg _) rfl (by omega)
 .subst B
  dsimp only
  rw[ak (bp _),aj,cl]
  change Def (iter _ N ([],plain c.1 s,0,c.1,c.2)) _
  refine Def.iter (fun g=>g.2.1=plain c.1 s/\g.2.2.2=(c.1,c.2)/\∃a:Nat,g.2.2.1=(a:Int)/\a<=(plain c.1 s).length/\g.1.length<=a/\g.1++h9 c.2 ((plain c.1 s).drop a)=dv c s) (fun g=>(plain c.1 s).length-g.2.2.1.toNat) (fun go g V d=>?_) N _ ⟨rfl,rfl,0,rfl,bg _,by simp,by simp[dv]⟩ (by dsimp only;omega)
  obtain⟨out,l,a0,c3,c4⟩:=g
  obtain⟨J,K,a,L,W,fQ,f⟩:=V
  dsimp only at J K L fQ f d⊢
  cases K
  subst J L
  refine Def.bL (fun X=>?_) (fun Y=>?_)
  .have j:a<(plain c.1 s).length:=by omega
   rw[afS N c.1 c.2 _ a j (by omega) S (fun y hy=>by have:=(k y hy).2.1;omega) v A]
   refine Def.bind (Def.eq rfl) fun r i=>?_
   subst i
   rw[fC j]at f
   cases o:pv c.2 ((plain c.1 s).drop a)with
   |none=>
    rw[fC j]at o
    rw[OV o]at f
    rw[show(Option.isNone (none:Option eS))=true from rfl,ao,aO j]
    refine Def.bind (Def.eq rfl) fun e he=>?_
    subst he
    refine Def.ite (b5 (by simp only[aZ,bE];omega) (by simp only[aZ,bE];omega)) (Def.ite (aN (n:=a) (by omega)) (d _ ⟨rfl,rfl,a+1,by push_cast;rfl,by omega,by simp;omega,?_⟩ (by dsimp only;omega)))
    dsimp only
    rw[<-f,dJ];rfl
   |some y=>
    have t:=o
    rw[fC j]at o
    have hy:=k _ (Dc _ _ t).1
    have Z:=Gr (Dc _ _ t).2
    rw[eY]at Z
    rw[OM o hy.1,<-fC j,pD]at f
    rw[show(Option.isNone (some y))=false from rfl,aj]
    refine Def.bind (Def.eq rfl) fun p F=>?_
    subst F
    rw[aO j]
    refine Def.bind (Def.eq rfl) fun e he=>?_
    subst he
    refine Def.ite (b5 (by simp only[aZ,bE];omega) (by simp only[aZ,bE];omega)) ?_
    refine Def.bind (Def.eq rfl) fun p F=>?_
    subst F
    refine Def.ite (by unfold fits;omega) (d _ ⟨rfl,rfl,a+p.1.length,by push_cast;rfl,by omega,by simp;omega,?_⟩ (by dsimp only;omega))
    dsimp only
    rw[<-f,dJ];rfl
  .refine Def.ret ?_
   rw[jv (by omega),u6,e5]at f
   exact f
 .subst B
  dsimp only
  have hw:=(w9 s 0 0 (words s)[n] (bA C)).1
  have M:=AW hw
  have lW:(((words s).take n).filterMap (mb c.1)).length<=n:=dK (sN _ _) (by simp;omega)
  have b:=y9 (mb c.1) (words s) n C
  rw[aq (by omega:(n:Int)<((words s).length:Int)),ao,aO C,af,GK N _ (by omega) (by omega) u,af,hw,ao,Gu N _ _ (by omega) (by omega),af]
  by_cases G:(words s)[n].1∈c.1
  .rw [aq G,bn,aj]
   rw[show mb c.1 (words s)[n]=none from ai (.inl G)]at b;simp only[e5]at b
   exact Def.ite (aN (n:=n) (by omega)) (d _ (by rw[b,aR]))
  .rw [ak G,dt,ao,Gu N _ _ (by omega) (by omega),af]
   by_cases H:fU (words s)[n].1∈c.1
   .rw [aq H,bn,aj]
    rw[show mb c.1 (words s)[n]=none from ai (.inr H)]at b;simp only[e5]at b
    exact Def.ite (aN (n:=n) (by omega)) (d _ (by rw[b,aR]))
   .rw [ak H,dt,ao]
    rw[show mb c.1 (words s)[n]=some (fU (words s)[n].1,(words s)[n].2.1)from aA (by rintro(h|h)<;>contradiction)]at b;simp only at b
    exact Def.ite (b5 (by simp only[aZ,bE];omega) (by simp only[aZ,bE];omega)) (Def.ite (aN (n:=n) (by omega)) (d _ (by rw[b,aR])))
def lr (l:List Int) (n:Int):Option Int:=l.find? fun x=>decide (n<x)
def ln :List (List Int)->Int->Option Int
 | [],last=>some last
 |l::r,last=>(lr l last).bind (ln r)
def nX (P:Int->Bool):List (List Int)->Int->Bool
 | [],last=>P last
 |l::r,last=>l.any fun x=>decide (last<x)&&nX P r x
def ib (l:List Int):Prop:=l.Pairwise fun a b=>a<b
theorem Pr {l:List Int} {n:Int} (h:lr l n=none):∀x,x∈l->¬n<x:=fun x a=>by
 have:=vl.1 h x a
 simpa using this
theorem um :∀ {l:List Int} {n v:Int},ib l->lr l n=some v->v∈l/\n<v/\∀x,x∈l->n<x->v<=x
 | [],_,_,_,h=>by simp[lr]at h
 |a::l,n,v,e,h=>by
  obtain⟨f,g⟩:=ez.1 e
  unfold lr at h
  rw[nm]at h
  by_cases d:n<a
  .rw [aq d]at h
   obtain rfl:a=v:=by simpa using h
   refine⟨b6,d,fun x b _=>?_⟩
   rcases bm.1 b with rfl|b
   .exact iF _
   .exact Int.le_of_lt (f x b)
  .rw [ak d]at h
   obtain⟨i,j,k⟩:=um g (show lr l n=some v from h)
   refine⟨b7 _ i,j,fun x b c=>?_⟩
   rcases bm.1 b with rfl|b
   .exact absurd c d
   .exact k x b c
theorem Nh :∀(r:List (List Int)),(∀l,l∈r->ib l)->∀a b:Int,a<=b->∀e,ln r b=some e->∃d,ln r a=some d/\d<=e
 | [],_,a,b,c,e,h=>by
  obtain rfl:b=e:=by simpa[ln]using h
  exact⟨a,rfl,c⟩
 |l::r,hu,a,b,c,e,h=>by
  unfold ln at h⊢
  obtain⟨x,j,k⟩:=ju.1 h
  obtain⟨g,i,_⟩:=um (hu l b6) j
  cases hy:lr l a with
  |none=>exact absurd (Int.lt_of_le_of_lt c i) (Pr hy x g)
  |some y=>
   obtain⟨_,_,o⟩:=um (hu l b6) hy
   have f:=o x g (Int.lt_of_le_of_lt c i)
   rw[af]
   exact Nh r (fun l p=>hu l (b7 _ p)) y x f e k
theorem BD (P:Int->Bool) (h:∀a b:Int,a<=b->P b=true->P a=true):∀(r:List (List Int)),(∀l,l∈r->ib l)->∀last:Int,nX P r last=match ln r last with|none=>false|some e=>P e
 | [],_,last=>rfl
 |l::r,hu,last=>by
  have f:∀l,l∈r->ib l:=fun l k=>hu l (b7 _ k)
  unfold nX ln
  cases hy:lr l last with
  |none=>
   rw[Option.bind_none]
   show _=false
   rw[List.any_eq_false]
   intro x i
   have:=Pr hy x i
   simp[this]
  |some y=>
   obtain⟨o,p,s⟩:=um (hu l b6) hy
   rw[af]
   have key:(l.any fun x=>decide (last<x)&&nX P r x)=nX P r y:=by
    rw[np,List.any_eq_true]
    constructor
    .rintro ⟨x,i,g⟩
     rw[bk,bz]at g
     have c:=g.2
     rw[BD P h r f x]at c
     rw[BD P h r f y]
     cases he:ln r x with
     |none=>rw[he]at c;cases c
     |some e=>
      rw[he]at c
      obtain⟨d,t,j⟩:=Nh r f y x (s x i g.1) e he
      rw[t]
      exact h d e j c
    .intro g
     exact⟨y,o,by rw[aq p,g];rfl⟩
   rw[key]
   exact BD P h r f y
theorem abR {x:Int} (a:0<=x) (b:x<=9223372036854775807):IntKind.i64.wrap ((IntKind.u64.wrap x).fdiv (2^(min (1:Int).toNat (IntKind.bits .u64))))=x/2:=by
 rw[wrap_u64 a (by omega),show(2:Int)^(min (1:Int).toNat (IntKind.bits .u64))=2 from rfl,DA _ (by omega)]
 exact wrap_i64 (by omega) (by omega)
theorem aaI (N:Nat) (x y:Int):Bu N x y=some (decide (x<y)):=by
 have e:qp N x=some false:=by unfold qp;simp
 unfold Bu
 rw[e,af,aj]
theorem abh (N:Nat) (x:Int):xk N x=some false:=by unfold xk;simp
def Hj (l:List Int) (n:Int) (i:Nat):Prop:=i<=l.length/\(∀(k:Nat) (h:k<l.length),k<i->l[k]<n)/\∀(k:Nat) (h:k<l.length),i<=k->n<=l[k]
theorem PI {l:List Int} (hu:ib l) {i j:Nat} (a:j<l.length) (h:i<j):l[i]<l[j]:=mh.1 hu i j (by omega) a h
theorem aaQ (N:Nat) (u:bF<N) (l:List Int) (n:Int) (hu:ib l) (A:l.length<=1048576):Def (Bq N l n) fun r=>∃i:Nat,r.1=(i:Int)/\Hj l n i:=by
 have v:1048576<N:=u
 unfold Bq
 refine Def.iter (fun g=>∃i j:Nat,g=(l,n,(l.length:Int),(i:Int),(j:Int))/\i<=j/\j<=l.length/\(∀(k:Nat) (h:k<l.length),k<i->l[k]<n)/\∀(k:Nat) (h:k<l.length),j<=k->n<=l[k]) (fun g=>(g.2.2.2.2-g.2.2.2.1).toNat) ?_ N _ ⟨0,l.length,rfl,by omega,bC _,fun k h o=>by omega,fun k h o=>by omega⟩ (by dsimp only;omega)
 rintro go _ ⟨i,j,rfl,y,s,b,c⟩ d
 dsimp only
 refine Def.bL (fun e=>?_) (fun e=>?_)
 .have hm:=abR (x:=(i:Int)+(j:Int)) (by omega) (by omega)
  have p:((i:Int)+(j:Int))/2=(((i+j)/2:Nat):Int):=by omega
  rw[p]at hm
  have t:(i+j)/2<l.length:=by omega
  simp only[hm]
  refine Def.ite (by unfold fits;omega) (Def.ite (by omega) ?_)
  rw[aO t,af,aaI,af]
  refine Def.bL (fun f=>Def.ite (aN (by omega)) ?_) (fun f=>?_)
  .refine d _ ⟨(i+j)/2+1,j,by rw[aR],by omega,s,fun k h o=>?_,c⟩ (by dsimp only;omega)
   by_cases a:k=(i+j)/2
   .subst a;exact f
   .exact Int.lt_trans (PI hu t (by omega:k<(i+j)/2)) f
  .refine d _ ⟨i,(i+j)/2,rfl,by omega,by omega,b,fun k h o=>?_⟩ (by dsimp only;omega)
   by_cases a:k=(i+j)/2
   .subst a;omega
   .have:=PI hu h (by omega:(i+j)/2<k)
    omega
 .obtain rfl:i=j:=by omega
  have fin:∃m:Nat,(i:Int)=(m:Int)/\Hj l n m:=⟨i,rfl,s,b,c⟩
  refine Def.bL (fun f=>?_) (fun f=>Def.ret fin)
  rw[aO (by omega:i<l.length),af]
  refine Def.bL (fun z=>Def.ret fin) (fun z=>?_)
  rw[af,abh,af,aj]
  exact Def.ret fin
theorem abS {l:List Int} {last:Int} {i:Nat} (h:Hj l (last+1) i):lr l last=l[i]? :=by
 obtain⟨o,d,e⟩:=h
 unfold lr
 by_cases hi:i<l.length
 .rw [bH hi]
  have f:l=l.take i++(l[i]::l.drop (i+1)):=by rw[List.getElem_cons_drop,lD]
  have g:(l.take i).find? (fun x=>decide (last<x))=none:=by
   rw[vl]
   intro x b
   obtain⟨k,c,rfl⟩:=fe.1 b
   have a:k<i/\k<l.length:=by rw[bX]at c;omega
   have:=d k a.2 a.1
   rw[List.getElem_take]
   simp only[bz]
   omega
  have j:last<l[i]:=by have:=e i hi (bC _);omega
  generalize p:l[i]=v at*
  rw[f,List.find?_append,g,Option.none_or,nm,aq j]
 .rw [kr (by omega),vl]
  intro x b
  obtain⟨k,c,rfl⟩:=fe.1 b
  have:=d k c (by omega)
  simp only[bz]
  omega
theorem aa3 (N:Nat) (b:bF<N) (l:List Int) (last:Int) (hu:ib l) (c:l.length<=1048576):BC N l (last+1)=some (match lr l last with|none=>(0,false)|some x=>(x,true)):=by
 obtain⟨r,d,i,e,a⟩:=aaQ N b l (last+1) hu c
 unfold BC
 rw[d,af,abS a,e]
 by_cases hi:i<l.length
 .rw [ak (by omega),aj,aO hi,af,bH hi]
 .have:=a.1
  rw[aq (by omega),ao,kr (by omega)]
def iM (l:List Int) (n:Nat):Int:=l[n]?.getD 0
theorem uo {l:List Int} {n:Nat} (h:n<l.length):l[n]=iM l n:=by unfold iM;rw[bH h];rfl
def vd (l:List Int) (n:Nat):Bool:=(decide (0<=iM l n)&&decide (iM l n<=999999999))&&(decide (n=0)|| !decide (iM l n<=iM l (n-1)))
def hF (l:List Int):Bool:=dL l.length (vd l)&&decide ((l.length:Int)<=60)
theorem Nr (N:Nat) (b:bF<N) (e:N<=1099511627776) (l:List Int) (f:l.length<=1048576):xe N l=some (hF l):=by
 have c:1048576<N:=b
 unfold xe
 refine j9 _ l.length (fun n=>(l,l,(l.length:Int),(n:Int))) (vd l) _ (fun go=>?_) (fun go n a=>?_) N (by omega)
 .dsimp only
  rw[ak (bp _),aj]
 .dsimp only
  have d:fits ((n:Int)+1):=aN (by omega)
  rw[aq (by omega:(n:Int)<l.length),ao,aO a]
  simp only[af,hl,ai d,aR,uo a]
  unfold vd
  match n,a with
  |0,a=>
   rw[ak (by omega:¬(0:Int)<((0:Nat):Int)),aj,aq (rfl:0=0),Bool.true_or,fX]
   cases(decide (0<=iM l 0)&&decide (iM l 0<=999999999))<;>rfl
  |n+1,a=>
   rw[aq (by omega:(0:Int)<((n+1:Nat):Int)),ao,show((n+1:Nat):Int)-1=(n:Int)from by omega,ai (by unfold fits;omega),aO (by omega:n<l.length),af,uo (by omega:n<l.length),ak (by omega:¬n+1=0),ig,lF]
   cases(decide (0<=iM l (n+1))&&decide (iM l (n+1)<=999999999))<;>cases decide (iM l (n+1)<=iM l n)<;>rfl
theorem PR (N:Nat) (b:bF<N) (e:N<=1099511627776) (l:List Int) (f:l.length<=1048576):xf N l=some (hF l):=by
 have c:1048576<N:=b
 unfold xf
 refine j9 _ l.length (fun n=>(l,(n:Int))) (vd l) _ (fun go=>?_) (fun go n a=>?_) N (by omega)
 .dsimp only
  rw[ak (bp _),aj]
 .dsimp only
  have d:fits ((n:Int)+1):=aN (by omega)
  rw[aq (by omega:(n:Int)<l.length),ao,aO a]
  simp only[af,nZ,ai d,aR,uo a]
  unfold vd
  match n,a with
  |0,a=>
   rw[ak (by omega:¬(0:Int)<((0:Nat):Int)),aj,aq (rfl:0=0),Bool.true_or,fX]
   cases(decide (0<=iM l 0)&&decide (iM l 0<=999999999))<;>rfl
  |n+1,a=>
   rw[aq (by omega:(0:Int)<((n+1:Nat):Int)),ao,show((n+1:Nat):Int)-1=(n:Int)from by omega,ai (by unfold fits;omega),aO (by omega:n<l.length),af,uo (by omega:n<l.length),ak (by omega:¬n+1=0),ig,lF]
   cases(decide (0<=iM l (n+1))&&decide (iM l (n+1)<=999999999))<;>cases decide (iM l (n+1)<=iM l n)<;>rfl
theorem pz {l:List Int} (h:hF l=true):ib l/\l.length<=60/\∀x,x∈l->0<=x/\x<=999999999:=by
 unfold hF dL at h
 rw[bk,cA,bz]at h
 obtain⟨f,t⟩:=h
 have c:∀(n:Nat) (b:n<l.length),(0<=l[n]/\l[n]<=999999999)/\(n=0\/ ∃h:n-1<l.length,l[n-1]<l[n]):=fun n b=>by
  have:=f n (by simp;omega)
  unfold vd at this
  simp only[bk,lB,bz,sO,decide_eq_false_iff_not]at this
  rw[<-uo b]at this
  refine⟨this.1,this.2.imp id fun a=>⟨by omega,?_⟩⟩
  rw[uo (by omega:n-1<l.length)]
  omega
 have g:∀(d i:Nat) (hi:i+d+1<l.length),l[i]<l[i+d+1]:=fun d=>by
  induction d with
  |zero=>
   intro i hi
   rcases(c (i+1) hi).2 with a|⟨_,a⟩
   .omega
   .simpa using a
  |succ d k=>
   intro i hi
   have o:=k i (by omega)
   rcases(c (i+d+2) (by omega)).2 with a|⟨_,a⟩
   .omega
   .have p:l[i+d+1]<l[i+d+2]:=by simpa using a
    exact Int.lt_trans o p
 refine⟨mh.2 fun i j hi u r=>?_,by omega,fun x s=>?_⟩
 .have:=g (j-i-1) i (by omega)
  have e:i+(j-i-1)+1=j:=by omega
  simpa only[e]using this
 .obtain ⟨n,b,rfl⟩:=fe.1 s
  exact(c n b).1
def qM (m:Nat) (start a:Int) (e:Int):Bool:=decide (e-start-((m:Int)-1)<=a)
theorem Py (N:Nat) (h:bF<N) (p:N<=1099511627776) (lists:List (List Int)) (j:∀l,l∈lists->l.length<=1048576/\∀x,x∈l->0<=x/\x<=999999999) (r:lists.length<=1048576) (start a:Int) (s:0<=start/\start<=999999999):
  ∀(m D k:Nat),k+m=lists.length->m<D->∀last:Int,0<=last->last<=999999999->uk N D lists (k:Int) last start a=some (nX (qM lists.length start a) (lists.drop k) last)
 |0,D+1,k,t,_,last,u,v=>by
  have e:(k:Int)=(lists.length:Int):=by omega
  rw[uk,aq e,ao,ai (by unfold fits;omega),ai (by unfold fits;omega),ai (by unfold fits;omega),jv (by omega)]
  rfl
 |m+1,D+1,k,t,B,last,u,v=>by
  have y:1048576<N:=h
  have b:k<lists.length:=by omega
  have f:=j _ (bA b)
  have z:=Py N h p lists j r start a s m D (k+1) (by omega) (by omega)
  rw[uk,ak (by omega:¬(k:Int)=(lists.length:Int)),aj,fC b,nX]
  refine(dB _ lists[k].length (fun i=>(lists,(k:Int),last,start,a,(i:Int))) (fun i=>some ((lists[k].drop i).any fun x=>decide (last<x)&&nX (qM lists.length start a) (lists.drop (k+1)) x)) (fun go=>?_) (fun go i hi c=>?_) N 0 (bg _) (by omega)).trans (by rw[qT])
  .dsimp only
   rw[aO b,af,ak (bp _),aj,lE]
   rfl
  .dsimp only
   have A:fits ((i:Int)+1):=aN (by omega)
   have g:fits ((k:Int)+1):=aN (by omega)
   have o:=f.2 _ (bA hi)
   have d:=z _ o.1 o.2
   simp only[aR]at c d
   simp only[aO b,af,aO hi,ai A,ai g,d,c]
   rw[aq (by omega:(i:Int)<lists[k].length),ao,fC hi,List.any_cons]
   cases decide (last<lists[k][i])<;>cases nX (qM lists.length start a) (lists.drop (k+1)) lists[k][i]<;>rfl
theorem EB {α b ρ:Type} (F:(b->Option ρ)->b->Option ρ) (xs:List α) (st:Nat->b) (P:α->Bool) (no:Option ρ) (a:∀go n (i:n<xs.length),F go (st n)=bif P xs[n]then go (st (n+1))else no):
  ∀N n,xs.length-n<N->(∃(k:Nat) (d:k<xs.length),n<=k/\P xs[k]=false)->iter F N (st n)=no
 |0,n,h,_=>by omega
 |N+1,n,h,⟨k,d,f,c⟩=>by
  show F (iter F N) (st n)=no
  rw[a _ n (by omega)]
  cases g:P xs[n]with
  |false=>rfl
  |true=>
   have:n≠k:=fun e=>by subst e;rw[g]at c;cases c
   exact EB F xs st P no a N (n+1) (by omega) ⟨k,d,by omega,c⟩
theorem abb {α d ρ:Type} (F:(d->Option ρ)->d->Option ρ) (xs:List α) (st:Nat->d) (P:α->Bool) (no fin:Option ρ) (c:xs.all P=true->∀go,F go (st xs.length)=fin)
  (b:∀go n (i:n<xs.length),F go (st n)=bif P xs[n]then go (st (n+1))else no) (N:Nat) (h:xs.length<N):iter F N (st 0)=bif xs.all P then fin else no:=by
 cases a:xs.all P with
 |true=>rw[nA F xs st P no fin (c a) b N h,a]
 |false=>
  refine EB F xs st P no b N 0 (by omega) ?_
  rw[List.all_eq_false]at a
  obtain⟨x,e,f⟩:=a
  obtain⟨k,g,rfl⟩:=fe.1 e
  exact⟨k,g,by omega,by simpa using f⟩
def iT (lists:List (List Int)) (a p:Int):Bool:=nX (qM lists.length p a) (lists.drop 1) p
def Hg (lists:List (List Int)) (a:Int):Bool:=lists.all hF&&((decide ((1:Int)<=lists.length)&&decide ((lists.length:Int)<=6))&&(decide (0<=a)&&decide (a<=5)))
def qD (lists:List (List Int)) (a:Int):List Int:=bif Hg lists a then(lists.headD []).filter (iT lists a)else []
theorem aa9 (N:Nat) (i:bF<N) (t:N<=1099511627776) (lists:List (List Int)) (b:Int) (z:lists.length<=1048576) (u:∀l,l∈lists->l.length<=1048576):Hm N lists b=some (qD lists b):=by
 have A:1048576<N:=i
 unfold Hm qD Hg
 refine(abb _ lists (fun n=>(lists,b,([]:List Int),(n:Int))) hF (some []) (some (bif((decide ((1:Int)<=lists.length)&&decide ((lists.length:Int)<=6))&&(decide (0<=b)&&decide (b<=5)))&&lists.all hF then(lists.headD []).filter (iT lists b)else [])) (fun e go=>?_) (fun go n g=>?_) N (by omega)).trans ?_
 .dsimp only
  rw[ak (bp _),aj,nZ,af]
  cases B:(decide ((1:Int)<=lists.length)&&decide ((lists.length:Int)<=6))with
  |false=>rfl
  |true=>
   rw[bn,aj,nZ,af]
   cases C:(decide (0<=b)&&decide (b<=5))with
   |false=>rfl
   |true=>
    rw[bn,aj,e]
    have d:0<lists.length:=by
     rw[bk,bz,bz]at B
     omega
    rw[bk,bz,bz]at C
    have v:∀l,l∈lists->l.length<=1048576/\∀x,x∈l->0<=x/\x<=999999999:=fun l h=>⟨u l h,(pz (cA.1 e l h)).2.2⟩
    have j:=v _ (bA d)
    have F:lists.headD []=lists[0]:=by cases lists with|nil=>exact absurd d (by simp)|cons a l=>rfl
    rw[F]
    have o:∀k:Nat,(lists[0].take k|>.filter (iT lists b)).length<=k:=fun k=>dK (hK _ _) (by rw[bX];omega)
    refine(dB _ lists[0].length (fun n=>(lists,b,(lists[0].take n).filter (iT lists b),(n:Int))) (fun n=>some (lists[0].filter (iT lists b))) (fun go2=>?_) (fun go2 n g c=>?_) N 0 (bg _) (by omega)).trans rfl
    .dsimp only
     rw[show(0:Int)=((0:Nat):Int)from rfl,aO d,af,ak (bp _),aj,cl]
    .dsimp only
     have G:fits ((n:Int)+1):=aN (by omega)
     have p:=j.2 _ (bA g)
     have r:idx lists (0:Int)=some lists[0]:=aO (n:=0) d
     have H:=Py N i t lists v z lists[0][n] b p (lists.length-1) N 1 (by omega) (by omega) lists[0][n] p.1 p.2
     have s:uk N N lists 1 lists[0][n] lists[0][n] b=some (iT lists b lists[0][n]):=H
     have f:room ((lists[0].take n).filter (iT lists b)).length ([lists[0][n]]:List Int).length 8:=by
      have:=o n
      refine b5 ?_ ?_<;>rw[bS]<;>omega
     simp only[aR,ec g,kV,iX,List.filter_nil]at c
     simp only[r,af,aO g,s,ai G,ai f]
     rw[aq (by omega:(n:Int)<lists[0].length),ao]
     cases y:iT lists b lists[0][n]with
     |true=>
      rw[y]at c
      exact c
     |false=>
      rw[y]at c
      simpa using c
 .dsimp only
  have:=u _ (bA g)
  rw[aq (by omega:(n:Int)<lists.length),ao,aO g,af,PR N i t _ this,af,ai (aN (n:=n) (by omega)),aR]
  cases hF lists[n]<;>rfl
 .cases lists.all hF<;>simp
theorem Nj {d ρ:Type} {F:(d->Option ρ)->d->Option ρ} {v:Option ρ} (len:Nat) (I:Nat->d->Prop) (b:∀go g,I len g->F go g=v) (a:∀go n g,n<len->I n g->(∀c,I (n+1) c->go c=v)->F go g=v):∀N n g,n<=len->I n g->len-n<N->iter F N g=v
 |0,n,g,_,_,h=>absurd h (sQ _)
 |N+1,n,g,j,i,h=>by
  show F (iter F N) g=v
  by_cases e:n=len
  .subst e;exact b _ g i
  .exact a _ n g (by omega) i fun c f=>Nj len I b a N (n+1) c (by omega) f (by omega)
theorem abv (N:Nat) (a:bF<N) (c:N<=1099511627776) (lists:List (List Int)) (f:lists.length<=1048576) (d:∀l,l∈lists->l.length<=1048576):Bs N lists=some (lists.all hF&&decide ((lists.length:Int)<=6)):=by
 have e:1048576<N:=a
 unfold Bs
 refine(nA _ lists (fun n=>(lists,lists,(lists.length:Int),(n:Int))) hF (some false) (some (decide ((lists.length:Int)<=6))) (fun go=>?_) (fun go n b=>?_) N (by omega)).trans (by cases lists.all hF<;>rfl)
 .dsimp only
  rw[ak (bp _),aj]
 .dsimp only
  have:=d _ (bA b)
  rw[aq (by omega:(n:Int)<lists.length),ao,aO b,af,Nr N a c _ this,af,ai (aN (n:=n) (by omega)),aR]
  cases hF lists[n]<;>rfl
theorem abC (lists:List (List Int)) (hu:∀l,l∈lists->ib l) (c p:Int):iT lists c p=match ln (lists.drop 1) p with|none=>false|some e=>qM lists.length p c e:=by
 unfold iT
 refine BD _ (fun a b d h=>?_) _ (fun l f=>hu l (nq f)) p
 unfold qM at h⊢
 rw[bz]at h⊢
 omega
theorem aa5 (N:Nat) (y:bF<N) (I:N<=1099511627776) (lists:List (List Int)) (b:Int) (J:lists.length<=1048576) (K:∀l,l∈lists->l.length<=1048576):BF N lists b=some (qD lists b):=by
 have L:1048576<N:=y
 unfold BF Hd qD Hg
 rw[abv N y I lists J K,hl,af]
 by_cases i:0<lists.length
 case neg=>
  rw[ak (by omega:¬(0:Int)<lists.length),ak (by omega:¬(1:Int)<=lists.length)]
  cases lists.all hF<;>rfl
 rw[aq (by omega:(0:Int)<lists.length),aq (by omega:(1:Int)<=lists.length),ao,ck,af]
 cases r:lists.all hF with
 |false=>rfl
 |true=>
  cases M:decide ((lists.length:Int)<=6)with
  |false=>rfl
  |true=>
   rw[ck,bn,aj,af]
   cases O:(decide (0<=b)&&decide (b<=5))with
   |false=>rfl
   |true=>
    rw[bk,bz,bz]at O
    rw[bz]at M
    have j:∀l,l∈lists->ib l/\l.length<=60/\∀x,x∈l->0<=x/\x<=999999999:=fun l o=>pz (cA.1 r l o)
    have z:=j _ (bA i)
    have P:lists.headD []=lists[0]:=by cases lists with|nil=>exact absurd i (by simp)|cons a l=>rfl
    have A:idx lists (0:Int)=some lists[0]:=aO (n:=0) i
    have s:cut lists 1 (lists.length:Int)=some (lists.drop 1):=by
     unfold cut
     rw[ai ⟨by omega,by omega,iF _⟩,er,cl]
     rfl
    rw[bn,aj,A,af,P]
    refine(dB _ lists[0].length (fun n=>(lists,b,(lists[0].take n).filter (iT lists b),lists[0],(lists[0].length:Int),(n:Int))) (fun n=>some (lists[0].filter (iT lists b))) (fun go=>?_) (fun go n B d=>?_) N 0 (bg _) (by omega)).trans rfl
    .dsimp only
     rw[ak (bp _),aj,cl]
    .dsimp only
     have C:fits ((n:Int)+1):=aN (by omega)
     have Q:=z.2.2 _ (bA B)
     have p:room ((lists[0].take n).filter (iT lists b)).length ([lists[0][n]]:List Int).length 8:=by
      have:(lists[0].take n|>.filter (iT lists b)).length<=n:=dK (hK _ _) (by rw[bX];omega)
      refine b5 ?_ ?_<;>rw[bS]<;>omega
     simp only[aR,ec B,kV,iX,List.filter_nil]at d
     rw[aq (by omega:(n:Int)<lists[0].length),ao,aO B,af,s,af]
     refine Nj (lists.drop 1).length (fun k g=>∃(last:Int) (ok:Bool),g=(lists,b,(lists[0].take n).filter (iT lists b),lists[0][n],last,ok,lists[0],(lists[0].length:Int),(n:Int),lists.drop 1,((lists.drop 1).length:Int),(k:Int))/\(0<=last/\last<=999999999)/\((ok=true/\ln ((lists.drop 1).drop k) last=ln (lists.drop 1) lists[0][n])\/(ok=false/\ln (lists.drop 1) lists[0][n]=none))) (fun go2 g F=>?_) (fun go2 k g u F e=>?_) N 0 _ (bg _) ⟨lists[0][n],true,rfl,Q,.inl ⟨rfl,by rw[qT]⟩⟩ (by rw[eY];omega)
     .obtain ⟨last,ok,rfl,S,G⟩:=F
      dsimp only
      rw[ak (bp _),aj]
      have f:=abC lists (fun l o=>(j l o).1) b lists[0][n]
      rcases G with⟨rfl,c⟩|⟨rfl,c⟩
      .rw [lE]at c
       rw[<-c]at f
       have t:iT lists b lists[0][n]=decide (last<=lists[0][n]+(lists.length:Int)-1+b):=by
        rw[f]
        show qM _ _ _ last=_
        unfold qM
        congr 1
        exact propext ⟨fun h=>by omega,fun h=>by omega⟩
       rw[ao,ai (by unfold fits;omega),ai (by unfold fits;omega),ai (by unfold fits;omega),<-t,ai p,ai C]
       cases v:iT lists b lists[0][n]with
       |true=>rw[v]at d;exact d
       |false=>
        rw[v]at d
        simp only[aj,ai C]
        simpa using d
      .rw [c]at f
       rw[aj,ai C]
       have v:iT lists b lists[0][n]=false:=f
       rw[v]at d
       simpa using d
     .obtain ⟨last,ok,rfl,S,G⟩:=F
      dsimp only
      have hm:=j _ (nq (bA u))
      have H:fits ((k:Int)+1):=aN (by rw[eY]at u;omega)
      rw[aq (by omega:(k:Int)<((lists.drop 1).length:Int)),ao,aO u,af,ai (by unfold fits;omega),aa3 N y _ last hm.1 (by omega),af]
      simp only[ai H]
      rcases G with⟨rfl,c⟩|⟨rfl,c⟩
      .rw [ao]
       rw[fC u,ln]at c
       cases hy:lr (lists.drop 1)[k] last with
       |none=>
        rw[hy,Option.bind_none]at c
        exact e _ ⟨0,false,by rw[aR],⟨by omega,by omega⟩,.inr ⟨rfl,c.symm⟩⟩
       |some x=>
        rw[hy,af]at c
        exact e _ ⟨x,true,by rw[aR],hm.2.2 _ (um hm.1 hy).1,.inl ⟨rfl,c⟩⟩
      .rw [aj]
       cases hy:lr (lists.drop 1)[k] last with
       |none=>exact e _ ⟨0,false,by rw[aR],⟨by omega,by omega⟩,.inr ⟨rfl,c⟩⟩
       |some x=>exact e _ ⟨x,false,by rw[aR],hm.2.2 _ (um hm.1 hy).1,.inr ⟨rfl,c⟩⟩
theorem aa8 (sep:List UInt8):fp [] sep=[]:=rfl
theorem G9 (xs:List (List UInt8)) (x sep:List UInt8):fp (xs++ [x]) sep=match xs with| []=>x|_::_=>fp xs sep++sep++x:=by
 unfold fp
 cases xs with
 |nil=>exact Lib.join_one x sep
 |cons a r=>
  show Lib.join (a::(r++ [x])) sep=Lib.join (a::r) sep++sep++x
  rw[Lib.join_cons,Lib.join_cons]
  unfold Lib.joinTail
  simp[dJ]
theorem Hh (xs:List (List UInt8)) (sep:List UInt8) (b:sep.length<=1048576) (a:∀x,x∈xs->x.length<=1048576):∀n,n<=xs.length->(fp (xs.take n) sep).length<=n*2097152
 |0,_=>by simp[aa8]
 |n+1,c=>by
  have d:=Hh xs sep b a n (by omega)
  have:=a _ (bA (show n<xs.length by omega))
  rw[ec (by omega:n<xs.length),G9]
  split
  .omega
  .rename_i h
   rw[a1,a1]
   omega
theorem Pj (N:Nat) (f:bF<N) (o:N<=1099511627776) (xs:List (List UInt8)) (sep:List UInt8) (p:xs.length<=1048576) (g:sep.length<=1048576) (d:∀x,x∈xs->x.length<=1048576):Bp N xs sep=some (fp xs sep):=by
 have i:1048576<N:=f
 unfold Bp
 refine(dB _ xs.length (fun n=>(xs,sep,fp (xs.take n) sep,(n:Int))) (fun n=>some (fp xs sep)) (fun go=>?_) (fun go n c b=>?_) N 0 (bg _) (by omega)).trans rfl
 .dsimp only
  rw[ak (bp _),aj,cl]
 .dsimp only
  have j:fits ((n:Int)+1):=aN (by omega)
  have k:=Hh xs sep g d n (by omega)
  have l:=d _ (bA c)
  simp only[aR,ec c,G9]at b
  rw[aq (by omega:(n:Int)<xs.length),ao]
  unfold meet
  simp only[aO c,af,ai j]
  cases n with
  |zero=>
   rw[ak (by omega:¬(0:Int)<((0:Nat):Int)),aj,ai (by omega)]
   exact b
  |succ n=>
   have e:∃a r,xs.take (n+1)=a::r:=by
    cases h:xs.take (n+1)with
    |nil=>have:=congrArg List.length h;rw[bX]at this;simp only[bE]at this;omega
    |cons a r=>exact⟨a,r,rfl⟩
   obtain⟨a,r,e⟩:=e
   rw[e]at b k⊢
   rw[aq (by omega:(0:Int)<((n+1:Nat):Int)),ao,ai (by omega),ai (by rw[a1];omega)]
   exact b
theorem abU (N:Nat) (xs:List (List UInt8)) (sep:List UInt8) (c:xs.length<=1048576) (a:sep.length<=1048576) (b:∀x,x∈xs->x.length<=1048576):BE N xs sep=some (fp xs sep):=by
 have h:=Hh xs sep a b xs.length (bC _)
 rw[cl]at h
 unfold BE xg
 rw[ai ⟨by omega,by omega⟩]
theorem Pz {s:List UInt8} (h:okW s=true):fz s=true/\s.length<=12:=by
 unfold okW dL at h
 unfold fz dL
 rw[bk,cA,bk,bz,bz]at h
 refine⟨?_,by omega⟩
 rw[bk,cA,bz]
 refine⟨fun n a=>?_,by omega⟩
 have:=h.1 n a
 unfold gv at this
 simp only[lB,bk,bz]at this
 rw[ak (by omega:¬gb s n<32),ak (by omega:¬126<gb s n)]
 rfl
def Df (c:aL) (s:List UInt8):List UInt8:=match dv c s with| []=>[]|t::_=>t.1
theorem Ng (l:List dp):(bif decide ((l.length:Int)=0)then some []else Option.bind (idx l 0) fun(e:(List UInt8)×Int)=>some e.1)=some (match l with| []=>[]|t::_=>t.1):=by
 cases l with
 |nil=>rfl
 |cons t l=>rw[ak (by rw[aZ];omega),aj];rfl
theorem Yq (N:Nat) (c:aL) (s:List UInt8) (a:bF<N) (b:N<=1099511627776) (d:cz bF gm c) (e:dQ c=true) (hw:okW s=true):Bt N c.1 c.2 s=some (Df c s):=by
 have f:1048576<N:=a
 obtain⟨g,h⟩:=Pz hw
 unfold Bt
 rw[lA N s (by omega) b,af,hw,bn,aj,Dh N c s (by omega) a b d,af,e,g,fX,ao]
 exact Ng _
theorem ama (N:Nat) (c:aL) (s:List UInt8) (b:bF<N) (d:N<=1099511627776) (f:cz bF gm c) (e:dQ c=true) (hw:okW s=true):G7 N c.1 c.2 s=some (Df c s):=by
 have a:1048576<N:=b
 obtain⟨g,h⟩:=Pz hw
 unfold G7
 rw[BQ N b d c f,af,e,bn,aj,r6 N s (by omega) d,af,hw,bn,aj,xp N c s (by omega) a e,af]
 exact Ng _
def jj :List gl->List UInt8->Int
 | [],_=> -1
 |e::l,name=>bif decide (e.1=name)then e.2 else jj l name
theorem ajZ (N:Nat) (c:bF<N) (f:N<=1099511627776) (d:Int) (d2:List ei) (d3:List gl) (name:List UInt8) (g:d3.length<=1048576):Hp N d d2 d3 name=some (jj d3 name):=by
 have e:1048576<N:=c
 unfold Hp
 refine(dB _ d3.length (fun n=>(name,(n:Int),d,d2,d3)) (fun n=>some (jj (d3.drop n) name)) (fun go=>?_) (fun go n b a=>?_) N 0 (bg _) (by omega)).trans rfl
 .dsimp only
  rw[ak (bp _),aj,lE]
  rfl
 .dsimp only
  simp only[aR]at a
  rw[aq (by omega:(n:Int)<d3.length),ao,aO b]
  simp only[af,ai (aN (n:=n) (by omega)),a]
  rw[fC b,jj]
  cases decide (d3[n].1=name)<;>rfl
theorem U9 (N:Nat) (b:bF<N) (e:N<=1099511627776) (d:Int) (d2:List ei) (d3:List gl) (name:List UInt8) (f:cz bF fE (d,d2,d3)) (g:hg (d,d2,d3)=true) (i:d3.length<=1048576):BB N d d2 d3 name=some (jj d3 name):=by
 have h:1048576<N:=b
 unfold BB
 rw[y2 N b e d d2 d3 f,af,g,ao]
 refine(dB _ d3.length (fun n=>(name,d3,(d3.length:Int),(n:Int))) (fun n=>some (jj (d3.drop n) name)) (fun go=>?_) (fun go n c a=>?_) N 0 (bg _) (by omega)).trans rfl
 .dsimp only
  rw[ak (bp _),aj,lE]
  rfl
 .dsimp only
  simp only[aR]at a
  rw[aq (by omega:(n:Int)<d3.length),ao,aO c]
  simp only[af,ai (aN (n:=n) (by omega)),a]
  rw[fC c,jj]
  cases decide (d3[n].1=name)<;>rfl
end Go.Proofs.YtnkagklajgimlaaGreatDoor
