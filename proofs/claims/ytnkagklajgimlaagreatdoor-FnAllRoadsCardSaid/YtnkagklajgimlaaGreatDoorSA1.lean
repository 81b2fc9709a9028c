
import Derived.Test.YtnkagklajgimlaaGreatDoorFS
import Derived.Test.YtnkagklajgimlaaGreatDoorQ1
import Derived.Test.YtnkagklajgimlaaGreatDoorG1
import Derived.Test.YtnkagklajgimlaaGreatDoorQA
import Derived.Test.YtnkagklajgimlaaGreatDoorSJ
set_option linter.unusedVariables false
set_option linter.unusedSimpArgs false
namespace Go.Proofs.YtnkagklajgimlaaGreatDoor
open Go.RowKit
theorem kx {d:Type} (F:(d->Option Bool)->d->Option Bool) (len:Nat) (st:Nat->d) (a:Nat->Bool) (fin:Bool) (c:∀go,F go (st len)=some fin)
  (b:∀go n,n<len->F go (st n)=bif a n then go (st (n+1))else some false) (N:Nat) (h:len<N):iter F N (st 0)=some (((List.range' 0 len).all a)&&fin):=by
 have key:=dh F len st (fun n=>some (((List.range' n (len-n)).all a)&&fin)) (fun go=>by rw[c,Nat.sub_self];simp) (fun go n f e=>?_) N 0 (bg _) (by omega)
 .simpa using key
 .rw [b go n f,e,show len-n=(len-(n+1))+1 from by omega,List.range'_succ,List.all_cons]
  cases a n<;>simp
def dL (len:Nat) (a:Nat->Bool):Bool:=(List.range' 0 len).all a
theorem oe :∀(x y:List UInt8),(Op.bytesLess x y||decide (x=y))= !Op.bytesLess y x
 | [],[]=>by simp[Op.bytesLess]
 |_::_,[]=>by simp[Op.bytesLess]
 | [],_::_=>by simp[Op.bytesLess]
 |a::x,b::y=>by
  have g:=oe x y
  simp only[Op.bytesLess]
  rcases pd a.toNat b.toNat with h|h|h
  .have c:a<b:=UInt8.lt_iff_toNat_lt.2 h
   have d:¬b<a:=fun e=>by have:=UInt8.lt_iff_toNat_lt.1 e;omega
   have f:¬b=a:=fun e=>by rw[e]at h;omega
   simp[c,d,f]
  .have c:a=b:=UInt8.toNat_inj.1 h
   subst c
   have d:¬a<a:=fun e=>by have:=UInt8.lt_iff_toNat_lt.1 e;omega
   simpa[d]using g
  .have c:b<a:=UInt8.lt_iff_toNat_lt.2 h
   have d:¬a<b:=fun e=>by have:=UInt8.lt_iff_toNat_lt.1 e;omega
   have f:¬a=b:=fun e=>by rw[e]at h;omega
   simp[c,d,f]
def fX (n:Int):Bool:=(decide (97<=n)&&decide (n<=122))||(decide (48<=n)&&decide (n<=57))
theorem Cp (N:Nat) (n:Int):sS N n=some (fX n):=by
 unfold sS fX
 cases decide (97<=n)<;>cases decide (n<=122)<;>cases decide (48<=n)<;>cases decide (n<=57)<;>rfl
theorem akW :∀n:Nat,n<256->(match lX 0 (n:Int)with|some r=>(decide (r=(n:Int))&& !decide ((n:Int)=0))==fX n|none=>false)=true:=by decide+kernel
theorem alM (N:Nat) (c:UInt8):∃r,lX N (c.toNat:Int)=some r/\(decide (r=(c.toNat:Int))&& !decide ((c.toNat:Int)=0))=fX c.toNat:=by
 have h:=akW c.toNat (UInt8.toNat_lt c)
 have e:lX N (c.toNat:Int)=lX 0 (c.toNat:Int):=rfl
 rw[e]
 cases a:lX 0 (c.toNat:Int)with
 |none=>rw[a]at h;cases h
 |some r=>rw[a]at h;exact⟨r,rfl,by simpa using h⟩
def eV (s:List UInt8) (n:Nat):Int:=((s[n]?.getD 0).toNat:Int)
theorem pv {s:List UInt8} {n:Nat} (h:n<s.length):(s[n].toNat:Int)=eV s n:=by unfold eV;rw[bG h];rfl
theorem fB (N:Nat) (n a b:Int):dV N n a b=some (decide (a<=n)&&decide (n<=b)):=by
 unfold dV;cases decide (a<=n)<;>rfl
theorem jD (N:Nat) (n a b:Int):hL N n a b=some (decide (a<=n)&&decide (n<=b)):=by
 unfold hL;cases decide (a<=n)<;>rfl
def okW (s:List UInt8):Bool:=dL s.length (fun n=>fX (eV s n))&&(decide ((1:Int)<=s.length)&&decide ((s.length:Int)<=12))
theorem l7 (N:Nat) (s:List UInt8) (h:s.length<N) (b:N<=1099511627776):jh N s=some (okW s):=by
 unfold jh
 refine kx _ s.length (fun n=>(s,(s.length:Int),(n:Int))) (fun n=>fX (eV s n)) _ (fun go=>?_) (fun go n a=>?_) N h
 .dsimp only
  rw[an (bm _),aj,fB,ag]
 .dsimp only
  rw[aq (by omega:(n:Int)<s.length),ao,aP a,ag,Cp,ag,pv a,ai (aO (n:=n) (by omega)),aS]
  cases fX (eV s n)<;>rfl
theorem oH (N:Nat) (s:List UInt8) (h:s.length<N) (d:N<=1099511627776):iO N s=some (okW s):=by
 unfold iO
 refine kx _ s.length (fun n=>(s,(n:Int))) (fun n=>fX (eV s n)) _ (fun go=>?_) (fun go n a=>?_) N h
 .dsimp only
  rw[an (bm _),aj,jD,ag]
 .dsimp only
  obtain⟨r,b,c⟩:=alM N s[n]
  rw[aq (by omega:(n:Int)<s.length),ao,aP a,ag,b,ag,ag,ag,ai (aO (n:=n) (by omega)),aS,<-pv a,<-c]
  cases decide (r=(s[n].toNat:Int))<;>cases decide ((s[n].toNat:Int)=0)<;>rfl
def fI (s:List UInt8):Bool:=dL s.length (fun n=> !decide (eV s n<32)&& !decide (126<eV s n))&&decide ((s.length:Int)<=160)
theorem Il (N:Nat) (s:List UInt8) (h:s.length<N) (b:N<=1099511627776):ve N s=some (fI s):=by
 unfold ve
 refine kx _ s.length (fun n=>(s,(s.length:Int),(n:Int))) (fun n=> !decide (eV s n<32)&& !decide (126<eV s n)) _ (fun go=>?_) (fun go n a=>?_) N h
 .dsimp only
  rw[an (bm _),aj]
 .dsimp only
  rw[aq (by omega:(n:Int)<s.length),ao,aP a,ag,ag,pv a,ai (aO (n:=n) (by omega)),aS]
  cases decide (eV s n<32)<;>cases decide (126<eV s n)<;>rfl
theorem ajz (N:Nat) (s:List UInt8) (h:s.length<N) (b:N<=1099511627776):Cm N s=some (fI s):=by
 unfold Cm
 refine kx _ s.length (fun n=>(s,(n:Int))) (fun n=> !decide (eV s n<32)&& !decide (126<eV s n)) _ (fun go=>?_) (fun go n a=>?_) N h
 .dsimp only
  rw[an (bm _),aj]
 .dsimp only
  rw[aq (by omega:(n:Int)<s.length),ao,aP a,ag,ag,pv a,ai (aO (n:=n) (by omega)),aS]
  cases decide (eV s n<32)<;>cases decide (126<eV s n)<;>rfl
def oa (p e:List UInt8):Bool:=Op.bytesLess p e
def qN (xs:List eo) (n:Nat):eo:=xs[n]?.getD ([],[])
def pr (xs:List gz) (n:Nat):gz:=xs[n]?.getD ([],0)
theorem pA {xs:List eo} {n:Nat} (h:n<xs.length):xs[n]=qN xs n:=by unfold qN;rw[bG h];rfl
theorem wO {xs:List gz} {n:Nat} (h:n<xs.length):xs[n]=pr xs n:=by unfold pr;rw[bG h];rfl
def okF (xs:List eo) (n:Nat):Bool:=okW (qN xs n).1&&fI (qN xs n).2&&(decide (n=0)||oa (qN xs (n-1)).1 (qN xs n).1)
def tb (xs:List gz) (n:Nat):Bool:=okW (pr xs n).1&&(decide (0<=(pr xs n).2)&&decide ((pr xs n).2<=999999999))&&(decide (n=0)||oa (pr xs (n-1)).1 (pr xs n).1)
def gF (x:aF):Bool:=(decide (1<=x.1)&&decide (x.1<=9999))&&decide ((x.2.1.length:Int)<=3)&&decide ((x.2.2.length:Int)<=3)&&dL x.2.1.length (okF x.2.1)&&dL x.2.2.length (tb x.2.2)
theorem Aj (N:Nat) (j:bC<N) (f:N<=1099511627776) (d:Int) (a:List eo) (b5:List gz) (c:cH bC fN (d,a,b5)):pJ N d a b5=some (gF (d,a,b5)):=by
 have k:List.length a<=1048576:=c.2.1.1
 have l:List.length b5<=1048576:=c.2.2.1
 have o:1048576<N:=j
 unfold pJ
 rw[fB,ag]
 unfold gF
 dsimp only
 cases r:(decide (1<=d)&&decide (d<=9999))with
 |false=>rfl
 |true=>
  rw[bf,aj,cl]
  by_cases h:(3:Int)<a.length
  .rw [aq h,ao,an (by omega:¬(a.length:Int)<=3)];rfl
  rw[an h,aj,aq (by omega:(a.length:Int)<=3),cl]
  by_cases i:(3:Int)<b5.length
  .rw [aq i,ao,an (by omega:¬(b5.length:Int)<=3)];rfl
  rw[an i,aj,aq (by omega:(b5.length:Int)<=3),cl]
  refine kx _ a.length (fun n=>(a,(a.length:Int),(n:Int),d,a,b5)) (okF a) _ (fun go=>?_) (fun go n b=>?_) N (by omega)
  .dsimp only
   rw[an (bm _),aj]
   refine(kx _ b5.length (fun n=>(b5,(b5.length:Int),(n:Int),d,a,b5)) (tb b5) true (fun go=>?_) (fun go n b=>?_) N (by omega)).trans (by rw[fD];rfl)
   .dsimp only
    rw[an (bm _),aj]
   .dsimp only
    have e:=c.2.2.2 b5[n] (br b)
    have g:List.length b5[n].1<=1048576:=e.1
    rw[aq (by omega:(n:Int)<b5.length),ao,aP b,ag,l7 N _ (by omega) f,ag,fB,ag,ai (aO (n:=n) (by omega)),aS]
    unfold tb oa
    rw[<-wO b]
    cases okW b5[n].1 with
    |false=>rfl
    |true=>
     cases(decide (0<=b5[n].2)&&decide (b5[n].2<=999999999))with
     |false=>rfl
     |true=>
      rw[bf,aj,aj,cl,cl]
      cases n with
      |zero=>rfl
      |succ n=>
       rw[aq (by omega:(0:Int)<((n+1:Nat):Int)),ao,ai (by unfold fits;omega),show(((n+1:Nat):Int)-1)=(n:Int)from by omega,aP (by omega),ag,wO (n:=n) (by omega),an (by omega:¬n+1=0),fL,mX]
       cases Op.bytesLess (pr b5 n).1 b5[n+1].1<;>rfl
  .dsimp only
   have e:=c.2.1.2 a[n] (br b)
   have g:List.length a[n].1<=1048576:=e.1
   have p:List.length a[n].2<=1048576:=e.2
   rw[aq (by omega:(n:Int)<a.length),ao,aP b,ag,l7 N _ (by omega) f,ag,Il N _ (by omega) f,ag,ai (aO (n:=n) (by omega)),aS]
   unfold okF oa
   rw[<-pA b]
   cases okW a[n].1 with
   |false=>rfl
   |true=>
    cases fI a[n].2 with
    |false=>rfl
    |true=>
     rw[bf,aj,aj,cl,cl]
     cases n with
     |zero=>rfl
     |succ n=>
      rw[aq (by omega:(0:Int)<((n+1:Nat):Int)),ao,ai (by unfold fits;omega),show(((n+1:Nat):Int)-1)=(n:Int)from by omega,aP (by omega),ag,pA (n:=n) (by omega),an (by omega:¬n+1=0),fL,mX]
      cases Op.bytesLess (qN a n).1 a[n+1].1<;>rfl
theorem Rb (x y:List UInt8):(!(Op.bytesLess x y||decide (x=y)))=Op.bytesLess y x:=by rw[oe,Bool.not_not]
theorem akE (N:Nat) (l:bC<N) (j:N<=1099511627776) (d:Int) (f:List eo) (b5:List gz) (h:cH bC fN (d,f,b5)):Cd N d f b5=some (gF (d,f,b5)):=by
 have o:List.length f<=1048576:=h.2.1.1
 have p:List.length b5<=1048576:=h.2.2.1
 have r:1048576<N:=l
 unfold Cd
 refine(kx _ f.length (fun n=>((n:Int),d,f,b5)) (okF f) (dL b5.length (tb b5)&&((decide (1<=d)&&decide (d<=9999))&&decide ((f.length:Int)<=3)&&decide ((b5.length:Int)<=3))) (fun go=>?_) (fun go n g=>?_) N (by omega)).trans ?_
 .dsimp only
  rw[an (bm _),aj]
  refine(kx _ b5.length (fun n=>((n:Int),d,f,b5)) (tb b5) ((decide (1<=d)&&decide (d<=9999))&&decide ((f.length:Int)<=3)&&decide ((b5.length:Int)<=3)) (fun go=>?_) (fun go n g=>?_) N (by omega)).trans rfl
  .dsimp only
   rw[an (bm _),aj,jD,ag,jD,ag,aq (by omega:(0:Int)<=f.length),cl]
   cases(decide (1<=d)&&decide (d<=9999))<;>cases decide ((f.length:Int)<=3)<;>rfl
  .dsimp only
   have i:=h.2.2.2 b5[n] (br g)
   have k:List.length b5[n].1<=1048576:=i.1
   rw[aq (by omega:(n:Int)<b5.length),ao,aP g,ag,oH N _ (by omega) j,ag,ag,jD,ag,ag,ai (aO (n:=n) (by omega)),aS]
   unfold tb oa
   rw[<-wO g]
   cases okW b5[n].1 with
   |false=>rfl
   |true=>
    cases(decide (0<=b5[n].2)&&decide (b5[n].2<=999999999))with
    |false=>rfl
    |true=>
     rw[bf,aj,aj,cl,cl]
     cases n with
     |zero=>rfl
     |succ n=>
      rw[aq (by omega:(0:Int)<((n+1:Nat):Int)),ao,ai (by unfold fits;omega),show(((n+1:Nat):Int)-1)=(n:Int)from by omega,aP (by omega),ag,wO (n:=n) (by omega),an (by omega:¬n+1=0),fL,mX,oe]
      cases Op.bytesLess (pr b5 n).1 b5[n+1].1<;>rfl
 .dsimp only
  have i:=h.2.1.2 f[n] (br g)
  have k:List.length f[n].1<=1048576:=i.1
  have s:List.length f[n].2<=1048576:=i.2
  rw[aq (by omega:(n:Int)<f.length),ao,aP g,ag,oH N _ (by omega) j,ag,ajz N _ (by omega) j,ag,ai (aO (n:=n) (by omega)),aS]
  unfold okF oa
  rw[<-pA g]
  cases okW f[n].1 with
  |false=>rfl
  |true=>
   cases fI f[n].2 with
   |false=>rfl
   |true=>
    rw[bf,aj,aj,cl,cl]
    cases n with
    |zero=>rfl
    |succ n=>
     rw[aq (by omega:(0:Int)<((n+1:Nat):Int)),ao,ai (by unfold fits;omega),show(((n+1:Nat):Int)-1)=(n:Int)from by omega,aP (by omega),ag,pA (n:=n) (by omega),an (by omega:¬n+1=0),fL,mX,oe]
     cases Op.bytesLess (qN f n).1 f[n+1].1<;>rfl
 .have e:∀a b c d e:Bool,(a&&(b&&(c&&d&&e)))=(c&&d&&e&&a&&b):=by decide
  unfold gF
  dsimp only
  exact congrArg some (e _ _ _ _ _)
def r9 (xs:List aF) (n:Nat):aF:=xs[n]?.getD (0,[],[])
theorem og {xs:List aF} {n:Nat} (h:n<xs.length):xs[n]=r9 xs n:=by unfold r9;rw[bG h];rfl
def pZ (xs:List aF) (n:Nat):Bool:=gF (r9 xs n)&&(decide (n=0)|| !decide ((r9 xs n).1<=(r9 xs (n-1)).1))
def eR (xs:List aF):Bool:=dL xs.length (pZ xs)&&decide ((xs.length:Int)<=16)
theorem FX (N:Nat) (b:bC<N) (c:N<=1099511627776) (xs:List aF) (d:∀x,x∈xs->cH bC fN x) (f:xs.length<=1048576):vl N xs=some (eR xs):=by
 have e:1048576<N:=b
 unfold vl
 refine kx _ xs.length (fun n=>(xs,xs,(xs.length:Int),(n:Int))) (pZ xs) _ (fun go=>?_) (fun go n a=>?_) N (by omega)
 .dsimp only
  rw[an (bm _),aj]
 .dsimp only
  rw[aq (by omega:(n:Int)<xs.length),ao,aP a,ag,Aj N b c xs[n].1 xs[n].2.1 xs[n].2.2 (d xs[n] (br a)),ag,ai (aO (n:=n) (by omega)),aS]
  unfold pZ
  rw[<-og a]
  cases gF xs[n]with
  |false=>rfl
  |true=>
   rw[bf,aj,cl]
   cases n with
   |zero=>rfl
   |succ n=>
    rw[aq (by omega:(0:Int)<((n+1:Nat):Int)),ao,ai (by unfold fits;omega),show(((n+1:Nat):Int)-1)=(n:Int)from by omega,aP (by omega),ag,og (n:=n) (by omega),an (by omega:¬n+1=0),fL,mX]
    cases decide (xs[n+1].1<=(r9 xs n).1)<;>rfl
theorem Jg (N:Nat) (b:bC<N) (c:N<=1099511627776) (xs:List aF) (d:∀x,x∈xs->cH bC fN x) (f:xs.length<=1048576):vk N xs=some (eR xs):=by
 have e:1048576<N:=b
 unfold vk
 refine kx _ xs.length (fun n=>(xs,(n:Int))) (pZ xs) _ (fun go=>?_) (fun go n a=>?_) N (by omega)
 .dsimp only
  rw[an (bm _),aj]
 .dsimp only
  rw[aq (by omega:(n:Int)<xs.length),ao,aP a,ag,akE N b c xs[n].1 xs[n].2.1 xs[n].2.2 (d xs[n] (br a)),ag,ag,ai (aO (n:=n) (by omega)),aS]
  unfold pZ
  rw[<-og a]
  cases gF xs[n]with
  |false=>rfl
  |true=>
   rw[bf,aj,cl]
   cases n with
   |zero=>rfl
   |succ n=>
    rw[aq (by omega:(0:Int)<((n+1:Nat):Int)),ao,ai (by unfold fits;omega),show(((n+1:Nat):Int)-1)=(n:Int)from by omega,aP (by omega),ag,og (n:=n) (by omega),an (by omega:¬n+1=0),fL,mX]
    cases decide (xs[n+1].1<=(r9 xs n).1)<;>rfl
abbrev sR :=List UInt8×Int×Int×Int
def kA (n:Int):Int:=if 65<=n/\n<=90 then n+32 else if fX n=true then n else 0
theorem akT :∀n:Nat,n<256->(lX 0 (n:Int)==some (kA n))=true:=by decide+kernel
theorem QS (N:Nat) (c:UInt8):lX N (c.toNat:Int)=some (kA c.toNat):=by
 have e:lX N (c.toNat:Int)=lX 0 (c.toNat:Int):=rfl
 rw[e];exact eq_of_beq (akT c.toNat (UInt8.toNat_lt c))
theorem alp :∀n:Nat,n<256->(match pL 0 (n:Int)with|some r=>(fX r== !decide (kA n=0))&&(!fX r||decide (r=kA n))|none=>false)=true:=by decide+kernel
theorem QY (N:Nat) (c:UInt8):∃r,pL N (c.toNat:Int)=some r/\fX r= !decide (kA c.toNat=0)/\(fX r=true->r=kA c.toNat):=by
 have h:=alp c.toNat (UInt8.toNat_lt c)
 have e:pL N (c.toNat:Int)=pL 0 (c.toNat:Int):=rfl
 rw[e]
 cases b:pL 0 (c.toNat:Int)with
 |none=>rw[b]at h;cases h
 |some r=>
  rw[b]at h
  simp only[a6,beq_iff_eq,lu,nZ,bo]at h
  refine⟨r,rfl,h.1,fun hw=>?_⟩
  rcases h.2 with a|a
  .rw [hw]at a;cases a
  .exact a
def e8 (c:UInt8):Bool:= !decide (kA c.toNat=0)
def ot (c:UInt8):Int:=kA c.toNat
def lead (l:List UInt8):Nat:=(l.takeWhile e8).length
theorem anW (l:List UInt8):lead l<=l.length:=by unfold lead;exact(List.takeWhile_prefix e8).length_le
theorem vw {c:UInt8} {l:List UInt8} (h:e8 c=true):lead (c::l)=lead l+1:=by unfold lead;rw[List.takeWhile_cons_of_pos h,ba]
theorem Dg {c:UInt8} {l:List UInt8} (h:e8 c=false):lead (c::l)=0:=by unfold lead;rw[List.takeWhile_cons_of_neg (by simp[h])];rfl
theorem QA :∀(l:List UInt8) (n:Nat),n<=l.length->(∀(i:Nat) (c:UInt8),i<n->l[i]? =some c->e8 c=true)->(∀c,l[n]? =some c->e8 c=false)->lead l=n
 | [],n,h,_,_=>by simp at h;subst h;rfl
 |c::l,0,_,_,a=>Dg (a c rfl)
 |c::l,n+1,h,e,a=>by
  rw[vw (e 0 c (by omega) rfl),QA l n (by simpa using h) (fun i d hi b=>e (i+1) d (by omega) (by simpa using b)) (fun d b=>a d (by simpa using b))]
def hn (l:List UInt8) (p a:Int):List sR:=
 match l with
 | []=>[]
 |c::t=>if e8 c=true then
   (bytesOf ((((c::t).take (lead t+1)).map ot).take 12),a,p,p+(lead t+1:Nat))::hn (t.drop (lead t)) (p+(lead t+1:Nat)) (a+1)
  else hn t (p+1) a
termination_by l.length
decreasing_by all_goals (simp; try omega)
theorem nW (p a:Int):hn [] p a=[]:=by rw[hn]
theorem K2 {c:UInt8} {t:List UInt8} (h:e8 c=false) (p a:Int):hn (c::t) p a=hn t (p+1) a:=by rw[hn,aC (by simp[h])]
theorem K3 {l:List UInt8} {n:Nat} (e:0<n) (b:lead l=n) (p a:Int):hn l p a=(bytesOf (((l.take n).map ot).take 12),a,p,p+n)::hn (l.drop n) (p+n) (a+1):=by
 match l with
 | []=>subst b;exact absurd e (by decide)
 |c::t=>
  have d:e8 c=true:=by
   cases h:e8 c with
   |true=>rfl
   |false=>rw[Dg h]at b;omega
  rw[vw d]at b
  subst b
  rw[hn,ai d]
  rfl
def words (s:List UInt8):List sR:=hn s 0 0
theorem x6 (l:List UInt8) (p a:Int):(hn l p a).length<=l.length:=by
 match l with
 | []=>rw[nW];exact bE _
 |c::t=>
  rw[hn]
  split
  .have:=x6 (t.drop (lead t)) (p+(lead t+1:Nat)) (a+1)
   simp only[ba,eF]at this⊢
   omega
  .have:=x6 t (p+1) a
   simp only[ba];omega
termination_by l.length
decreasing_by all_goals (simp; try omega)
theorem aj0 {l:List UInt8} {i:Nat} (h:i<l.length):l.drop i=l[i]::l.drop (i+1):=eY h
theorem Ig {s:List UInt8} {i:Nat} (h:∀c,s[i]? =some c->e8 c=false) (a:Int):hn (s.drop i) (i:Int) a=hn (s.drop (i+1)) ((i:Int)+1) a:=by
 by_cases hi:i<s.length
 .rw [aj0 hi,K2 (h _ (bG hi))]
 .rw [mf (by omega),mf (by omega),nW,nW]
def ph (s:List UInt8) (f i:Nat):Prop:=∀(j:Nat) (c:UInt8),f<=j->j<i->s[j]? =some c->e8 c=true
theorem ph.next {s:List UInt8} {f i:Nat} (h:ph s f i) (hi:i<s.length) (b:e8 s[i]=true):ph s f (i+1):=fun j c d g a=>by
 by_cases e:j=i
 .subst e;rw[bG hi]at a;cases a;exact b
 .exact h j c d (by omega) a
theorem ph.lead {s:List UInt8} {f i:Nat} (h:ph s f i) (d:f<=i) (hi:i<=s.length) (he:∀c,s[i]? =some c->e8 c=false):lead (s.drop f)=i-f:=
 QA _ _ (by simp;omega) (fun j c e a=>by rw[hV]at a;exact h (f+j) c (by omega) (by omega) a) (fun c b=>by rw[hV,show f+(i-f)=i from by omega]at b;exact he c b)
def run (s:List UInt8) (f i:Nat):List Int:=((s.drop f).take (i-f)).map ot
theorem Ia {s:List UInt8} {f i:Nat} (a:f<=i) (hi:i<s.length):run s f (i+1)=run s f i++ [ot s[i]]:=by
 unfold run
 rw[show i+1-f=(i-f)+1 from by omega,List.take_add_one,hV,show f+(i-f)=i from by omega,bG hi,ib]
 rfl
theorem vd {s:List UInt8} {f i:Nat} (a:f<=i) (hi:i<=s.length):(run s f i).length=i-f:=by unfold run;simp;omega
theorem alG (N:Nat) (s:List UInt8) (h:s.length+2<N) (aU:s.length<=100000):BV N s=some (words s):=by
 refine Def.get ?_
 unfold BV
 refine Def.iter (fun g=>g.1=s/\∃i:Nat,g.2.2=(i:Int)/\i<=s.length+1/\g.2.1.length<=i/\g.2.1++hn (s.drop i) i g.2.1.length=words s) (fun g=>s.length+1-g.2.2.toNat) (fun go g W p=>?_) N _ ⟨rfl,0,rfl,by omega,bE _,by simp[words]⟩ (by simp;omega)
 obtain⟨s2,out,i0⟩:=g
 obtain⟨A,i,B,G,X,z⟩:=W
 dsimp only at A B G X z p⊢
 subst A B
 refine Def.bO (fun Y=>?_) (fun Z=>?_)
 case refine_2=>
  refine Def.ret ?_
  rw[mf (by omega),nW,fe]at z
  exact z
 have fin:∀(i3:Nat),i<=i3->i3<=s2.length->ph s2 i i3->(∀c,s2[i3]? =some c->e8 c=false)->∀w:List Int,w=(run s2 i i3).take 12->
   Def (bif decide ((0:Int)<w.length)then(if room out.length ([((bytesOf w),(out.length:Int),(i:Int),(i3:Int))]:List sR).length 40 then(if fits ((i3:Int)+1)then go (s2,out++ [((bytesOf w),(out.length:Int),(i:Int),(i3:Int))],(i3:Int)+1)else none)else none)else(if fits ((i3:Int)+1)then go (s2,out,(i3:Int)+1)else none)) (fun r=>r=words s2):=fun i3 H I bD l w hw=>by
  have t:=bD.lead H I l
  have K:w.length=min 12 (i3-i):=by rw[hw,bN,vd H I]
  refine Def.bO (fun cp=>?_) (fun bL=>?_)
  .refine Def.ite (bW (by simp;omega) (by simp;omega)) (Def.ite (by unfold fits;omega) (p _ ⟨rfl,i3+1,by push_cast;rfl,by omega,by simp;omega,?_⟩ (by dsimp only;omega)))
   dsimp only
   rw[aS,<-Ig l,e5]
   rw[K3 (n:=i3-i) (by omega) t]at z
   rw[<-z,qm,show i+(i3-i)=i3 from by omega,show(i:Int)+((i3-i:Nat):Int)=i3 from by omega,bh,hw]
   unfold run
   simp
  .have:i3=i:=by omega
   subst this
   refine Def.ite (by unfold fits;omega) (p _ ⟨rfl,i3+1,by push_cast;rfl,by omega,by dsimp only;omega,?_⟩ (by dsimp only;omega))
   dsimp only
   rw[<-z,Ig l]
   rfl
 refine Def.iter (fun g=>g.1=s2/\g.2.1=out/\g.2.2.2.2=(i:Int)/\∃i2:Nat,g.2.2.1=(i2:Int)/\i<=i2/\i2<=s2.length/\ph s2 i i2/\g.2.2.2.1=run s2 i i2) (fun g=>s2.length+1-g.2.2.1.toNat) (fun go2 g L o=>?_) N _ ⟨rfl,rfl,rfl,i,rfl,bE _,by omega,fun j c H I=>by omega,by unfold run;simp⟩ (by dsimp only;omega)
 obtain⟨d,b,i20,w,M⟩:=g
 obtain⟨A,Q,S,i2,C,hle,u,f,hw⟩:=L
 dsimp only at A Q S C hw o⊢
 subst A Q S C
 have K:w.length=i2-i:=by rw[hw,vd hle u]
 have k:(∀c,d[i2]? =some c->e8 c=false)->∀ {J:(List UInt8×List sR×Int×List Int×Int)->Option (List sR)},(∀w:List Int,w=(run d i i2).take 12->Def (J (d,b,(i2:Int),w,(i:Int))) (fun r=>r=words d))->
   Def (bif decide ((12:Int)<w.length)then Option.bind (cut w 0 12) fun y=>J (d,b,(i2:Int),y,(i:Int))else J (d,b,(i2:Int),w,(i:Int))) (fun r=>r=words d):=fun l {J} T=>by
  refine Def.bO (fun cp=>?_) (fun bL=>?_)
  .refine Def.cut (by decide) (by decide) (by omega) (T _ ?_)
   rw[<-hw];rfl
  .refine T _ ?_
   rw[<-hw,jS (by omega)]
 refine Def.bO (fun U=>?_) (fun V=>?_)
 .have hi:i2<d.length:=by omega
  rw[aP hi]
  refine Def.bind (Def.eq rfl) fun c F=>?_
  subst F
  rw[QS]
  refine Def.bind (Def.eq rfl) fun r O=>?_
  subst O
  have jA:(!decide (kA (d[i2].toNat:Int)=0))=e8 d[i2]:=rfl
  rw[jA]
  refine Def.bif (fun F=>?_) (fun F=>?_)
  .refine Def.bind (Def.eq rfl) fun c e=>?_
   subst e
   rw[QS]
   refine Def.bind (Def.eq rfl) fun r O=>?_
   subst O
   refine Def.ite (bW (by simp;omega) (by simp;omega)) (Def.ite (by unfold fits;omega) (o _ ⟨rfl,rfl,rfl,i2+1,by push_cast;rfl,by omega,by omega,f.next hi F,?_⟩ (by dsimp only;omega)))
   dsimp only
   rw[Ia hle hi,hw]
   rfl
  .have l:∀c,d[i2]? =some c->e8 c=false:=fun c e=>by rw[bG hi]at e;cases e;exact F
   refine Def.meet (fun g=>∃w:List Int,g=(d,b,(i2:Int),w,(i:Int))/\w=(run d i i2).take 12) (fun g P=>?_) (fun V4 v=>k l fun w hw=>v _ ⟨w,rfl,hw⟩)
   obtain⟨w',rfl,x⟩:=P
   exact fin i2 hle u f l w' x
 .have l:∀c,d[i2]? =some c->e8 c=false:=fun c e=>by rw[kM (by omega)]at e;cases e
  refine Def.meet (fun g=>∃w:List Int,g=(d,b,(i2:Int),w,(i:Int))/\w=(run d i i2).take 12) (fun g P=>?_) (fun V4 v=>k l fun w hw=>v _ ⟨w,rfl,hw⟩)
  obtain⟨w',rfl,x⟩:=P
  exact fin i2 hle u f l w' x
theorem akz (N:Nat) (s:List UInt8) (h:s.length+2<N) (Y:N<=1099511627776):Cl N s=some (bif fI s then words s else []):=by
 refine Def.get ?_
 unfold Cl
 rw[Il N s (by omega) Y]
 refine Def.bind (Def.eq rfl) fun r Z=>?_
 subst Z
 refine Def.bif (fun I=>?_) (fun I=>?_)
 .refine Def.ret ?_
  have:fI s=false:=by simpa using I
  rw[this];rfl
 have v:fI s=true:=by simpa using I
 have aU:s.length<=160:=by
  unfold fI at v
  simp only[a6,bo]at v
  omega
 rw[v,ao]
 refine Def.iter (fun g=>g.1=s/\∃i:Nat,g.2.2=(i:Int)/\i<=s.length/\g.2.1.length<=i/\g.2.1++hn (s.drop i) i g.2.1.length=words s) (fun g=>s.length+1-g.2.2.toNat) (fun go g YV x=>?_) N _ ⟨rfl,0,rfl,by omega,bE _,by simp[words]⟩ (by simp;omega)
 obtain⟨s2,out,i0⟩:=g
 obtain⟨B,i,C,J,cC,A⟩:=YV
 dsimp only at B C J cC A x⊢
 subst B C
 refine Def.bO (fun gr=>?_) (fun ath=>?_)
 case refine_2=>
  refine Def.ret ?_
  rw[mf (by omega),nW,fe]at A
  exact A
 have hi:i<s2.length:=by omega
 rw[aP hi]
 refine Def.bind (Def.eq rfl) fun c k=>?_
 subst k
 obtain⟨r,t,u,F⟩:=QY N s2[i]
 rw[t]
 refine Def.bind (Def.eq rfl) fun K l=>?_
 subst l
 rw[Cp]
 refine Def.bind (Def.eq rfl) fun b a=>?_
 subst a
 refine Def.bif (fun a=>?_) (fun a=>?_)
 .have jA:e8 s2[i]=false:=by show(!decide (kA _=0))=false;rw[<-u];simpa using a
  refine Def.ite (by unfold fits;omega) (x _ ⟨rfl,i+1,by push_cast;rfl,by omega,by dsimp only;omega,?_⟩ (by dsimp only;omega))
  dsimp only
  rw[<-A,Ig (s:=s2) (i:=i) (fun c k=>by rw[bG hi]at k;cases k;exact jA)]
  rfl
 have L:e8 s2[i]=true:=by show(!decide (kA _=0))=true;rw[<-u];simpa using a
 have fin:∀(i3:Nat),i<i3->i3<=s2.length->ph s2 i i3->(∀c,s2[i3]? =some c->e8 c=false)->∀w:List Int,w=(run s2 i i3).take 12->
   Def (if room out.length ([((bytesOf w),(out.length:Int),(i:Int),(i3:Int))]:List sR).length 40 then go (s2,out++ [((bytesOf w),(out.length:Int),(i:Int),(i3:Int))],(i3:Int))else none) (fun r=>r=words s2):=fun i3 aG Q bD cN w hw=>by
  have y:=bD.lead (by omega) Q cN
  refine Def.ite (bW (by simp;omega) (by simp;omega)) (x _ ⟨rfl,i3,rfl,by omega,by simp;omega,?_⟩ (by dsimp only;omega))
  dsimp only
  rw[K3 (n:=i3-i) (by omega) y]at A
  rw[e5,<-A,qm,show i+(i3-i)=i3 from by omega,show(i:Int)+((i3-i:Nat):Int)=i3 from by omega,bh,hw]
  unfold run
  simp
 refine Def.iter (fun g=>g.1=s2/\g.2.1=out/\g.2.2.2.2.2.1=(out.length:Int)/\g.2.2.2.2.2.2.1=(i:Int)/\∃i2:Nat,g.2.2.1=(i2:Int)/\i<=i2/\i2<=s2.length/\ph s2 i i2/\g.2.2.2.1=(run s2 i i2).take 12) (fun g=>s2.length+1-g.2.2.1.toNat) (fun go2 g M o=>?_) N _ ⟨rfl,rfl,rfl,rfl,i,rfl,bE _,by omega,fun j c aG Q=>by omega,by unfold run;simp⟩ (by dsimp only;omega)
 obtain⟨H,S,i20,w,ev,VE,atO,atP⟩:=g
 obtain⟨B,T,U,V,i2,G,hle,e,d,hw⟩:=M
 dsimp only at B T U V G hw o⊢
 subst B T U V G
 have atp:w.length=min 12 (i2-i):=by rw[hw,bN,vd hle e]
 refine Def.bO (fun W=>?_) (fun X=>?_)
 .have f:i2<H.length:=by omega
  rw[aP f]
  refine Def.bind (Def.eq rfl) fun c k=>?_
  subst k
  obtain⟨r,t,u,F⟩:=QY N H[i2]
  rw[t]
  refine Def.bind (Def.eq rfl) fun K l=>?_
  subst l
  rw[Cp]
  refine Def.bind (Def.eq rfl) fun b a=>?_
  subst a
  have z:fX K=e8 H[i2]:=u
  refine Def.bif (fun a=>?_) (fun a=>?_)
  .have k:e8 H[i2]=true:=by rw[<-z];exact a
   refine Def.bO (fun O=>?_) (fun O=>?_)
   .refine Def.bind (Def.eq rfl) fun c k=>?_
    subst k
    rw[t]
    refine Def.bind (Def.eq rfl) fun K l=>?_
    subst l
    refine Def.ite (bW (by simp;omega) (by simp;omega)) (Def.ite (by unfold fits;omega) (o _ ⟨rfl,rfl,rfl,rfl,i2+1,by push_cast;rfl,by omega,by omega,d.next f k,?_⟩ (by dsimp only;omega)))
    dsimp only
    rw[Ia hle f,hw,F a,jS (by rw[vd hle e];omega),jS (by simp[vd hle e];omega)]
    rfl
   .refine Def.ite (by unfold fits;omega) (o _ ⟨rfl,rfl,rfl,rfl,i2+1,by push_cast;rfl,by omega,by omega,d.next f k,?_⟩ (by dsimp only;omega))
    dsimp only
    rw[Ia hle f,hw,List.take_append_of_le_length (by rw[vd hle e];omega)]
  .have P:i<i2:=by
    rcases Nat.lt_or_eq_of_le hle with h|h
    .exact h
    .subst h;rw[z,L]at a;cases a
   exact fin i2 P e d (fun c p=>by rw[bG f]at p;cases p;rw[<-z];exact a) w hw
 .exact fin i2 (by omega) e d (fun c p=>by rw[kM (by omega)]at p;cases p) w hw
def ends :List (List UInt8):=[[105,110,103],[101,100],[101,115],[108,121],[115]]
def jx (s e:List UInt8):Option (List UInt8):=if 3+e.length<=s.length/\s.drop (s.length-e.length)=e then some (s.take (s.length-e.length))else none
def once (s:List UInt8):Option (List UInt8):=ends.findSome? (jx s)
theorem akY {s e t:List UInt8} (he:0<e.length) (h:jx s e=some t):t.length<s.length:=by
 unfold jx at h
 split at h
 .cases h;rw[bN];omega
 .cases h
theorem H5 :∀e,e∈ends->0<e.length/\e.length<=3:=by decide
theorem JX {s t:List UInt8} (h:once s=some t):t.length<s.length:=by
 unfold once at h
 obtain⟨e,he,h⟩:=List.exists_of_findSome?_eq_some h
 exact akY (H5 e he).1 h
def gl (s:List UInt8):List UInt8:=match h:once s with
 |some t=>gl t
 |none=>s
termination_by s.length
decreasing_by exact JX h
theorem KK {s t:List UInt8} (h:once s=some t):gl s=gl t:=by
 rw[gl];split
 .rename_i b a;rw[h]at a;cases a;rfl
 .rename_i a;rw[h]at a;cases a
theorem zg {s:List UInt8} (h:once s=none):gl s=s:=by
 rw[gl];split
 .rename_i b a;rw[h]at a;cases a
 .rfl
theorem alz (N:Nat) (s e:List UInt8) (a:s.length<=100000):Ca N s e=some (decide (e.length<=s.length)&&decide (s.drop (s.length-e.length)=e)):=by
 unfold Ca Ie
 by_cases h:e.length<=s.length
 .rw [aq (by omega:(e.length:Int)<=(s.length:Int)),ao,ai (by unfold fits;omega),aq h]
  unfold cut
  rw[ai (by omega)]
  simp only[ag,cl]
  congr 3
  rw[show((s.length:Int)-(e.length:Int)).toNat=s.length-e.length from by omega,eg,cj]
 .rw [an (by omega:¬(e.length:Int)<=(s.length:Int)),aj,an h]
  rfl
theorem Qz (f:List UInt8->Option (List UInt8)) (l:List (List UInt8)) {n:Nat} (h:n<l.length):(l.drop n).findSome? f=match f l[n]with|some y=>some y|none=>(l.drop (n+1)).findSome? f:=by
 rw[eY h,List.findSome?_cons]
 cases f l[n]<;>rfl
theorem Iq (N:Nat) (s:List UInt8) (h:s.length<N) (G:60<N) (H:N<=1099511627776):vc N s=some (bif okW s then gl s else []):=by
 refine Def.get ?_
 unfold vc
 rw[l7 N s (by omega) H]
 refine Def.bind (Def.eq rfl) fun r I=>?_
 subst I
 refine Def.bif (fun p=>?_) (fun p=>?_)
 .refine Def.ret ?_
  rw[show okW s=false from by simpa using p];rfl
 have i:okW s=true:=by simpa using p
 have S:s.length<=12:=by
  unfold okW at i
  simp only[a6,bo]at i
  omega
 rw[i,ao]
 refine Def.iter (fun g=>g.1.length<=s.length/\gl g.1=gl s/\(g.2=false->once g.1=none)) (fun g=>2*g.1.length+(bif g.2 then 1 else 0)) (fun go g J j=>?_) N _ ⟨bE _,rfl,fun h=>by cases h⟩ (by simp;omega)
 obtain⟨s2,again⟩:=g
 obtain⟨x,d,o⟩:=J
 dsimp only at x d o j⊢
 refine Def.bif (fun t=>?_) (fun t=>Def.ret (by rw[<-d,zg (o t)]))
 subst t
 show Def (iter _ N (s2,false,ends,(5:Int),(0:Int))) _
 refine Def.iter (fun g=>g.1=s2/\g.2.1=false/\g.2.2.1=ends/\g.2.2.2.1=5/\∃n:Nat,g.2.2.2.2=(n:Int)/\n<=5/\(ends.drop n).findSome? (jx s2)=once s2) (fun g=>5-g.2.2.2.2.toNat) (fun go2 g u f=>?_) N _ ⟨rfl,rfl,rfl,rfl,0,rfl,by omega,rfl⟩ (by dsimp only;omega)
 obtain⟨a,K,es,y,T⟩:=g
 obtain⟨z,A,B,C,n,F,U,c⟩:=u
 dsimp only at z A B C F c f⊢
 subst z A B C F
 refine Def.bO (fun L=>?_) (fun M=>?_)
 case refine_2=>
  have:n=5:=by omega
  subst this
  refine j _ ⟨x,d,fun _=>?_⟩ (by dsimp only;simp)
  rw[<-c];rfl
 have k:n<ends.length:=by show n<5;omega
 rw[Qz _ _ k]at c
 rw[aP k]
 refine Def.bind (Def.eq rfl) fun e he=>?_
 subst he
 have O:=H5 _ (br k)
 rw[alz N a _ (by omega)]
 refine Def.bind (Def.eq rfl) fun b l=>?_
 subst l
 have next:jx a ends[n]=none->Def (if fits ((n:Int)+1)then go2 (a,false,ends,5,(n:Int)+1)else none) (fun r=>r=gl s):=fun v=>by
  refine Def.ite (by unfold fits;omega) (f _ ⟨rfl,rfl,rfl,rfl,n+1,by push_cast;rfl,by omega,?_⟩ (by dsimp only;omega))
  rw[<-c,v]
 refine Def.bif (fun l=>?_) (fun l=>?_)
 .simp only [a6,bo]at l
  refine Def.ite (by unfold fits;omega) (Def.bO (fun P=>?_) (fun P=>?_))
  .have v:jx a ends[n]=some (a.take (a.length-ends[n].length)):=by unfold jx;rw[ai ⟨by omega,l.2⟩]
   refine Def.ite (by unfold fits;omega) (Def.cut (by omega) (by omega) (by omega) ?_)
   rw[v]at c
   have Q:(a.take ((a.length:Int)-(ends[n].length:Int)).toNat).drop (0:Int).toNat=a.take (a.length-ends[n].length):=by
    rw[show((a.length:Int)-(ends[n].length:Int)).toNat=a.length-ends[n].length from by omega];rfl
   rw[Q]
   refine j _ ⟨?_,?_,fun h=>by cases h⟩ ?_
   .dsimp only;rw[bN];omega
   .dsimp only;rw[<-d,KK c.symm]
   .dsimp only;rw[bN];simp;omega
  .exact next (by unfold jx;rw[aC (by omega)])
 .refine next ?_
  unfold jx
  rw[aC]
  rintro⟨g1,g2⟩
  rw[aq (by omega:ends[n].length<=a.length),aq g2]at l
  cases l
theorem ai8 (N:Nat) (s:List UInt8) (h:s.length+8<N) (y:s.length<=100000):x5 N s=some ((once s).getD s):=by
 refine Def.get ?_
 unfold x5
 refine Def.iter (fun g=>g.1=s/\∃n:Nat,g.2=(n:Int)/\n<=5/\(ends.drop n).findSome? (jx s)=once s) (fun g=>5-g.2.toNat) (fun go g l d=>?_) N _ ⟨rfl,0,rfl,by omega,rfl⟩ (by dsimp only;omega)
 obtain⟨s2,z⟩:=g
 obtain⟨j,n,k,A,a⟩:=l
 dsimp only at j k a d⊢
 subst j k
 show Def (Option.bind (some ends) _) _
 refine Def.bind (Def.eq rfl) fun es b=>?_
 subst b
 have B:(ends.length:Int)=5:=rfl
 refine Def.bO (fun o=>?_) (fun p=>?_)
 case refine_2=>
  have:n=5:=by omega
  subst this
  refine Def.ret ?_
  rw[<-a];rfl
 have c:n<ends.length:=by omega
 rw[Qz _ _ c]at a
 show Def (Option.bind (some ends) _) _
 refine Def.bind (Def.eq rfl) fun es b=>?_
 subst b
 rw[aP c]
 refine Def.bind (Def.eq rfl) fun e he=>?_
 subst he
 have t:=H5 _ (br c)
 have next:jx s2 ends[n]=none->Def (if fits ((n:Int)+1)then go (s2,(n:Int)+1)else none) (fun r=>r=(once s2).getD s2):=fun f=>by
  refine Def.ite (by unfold fits;omega) (d _ ⟨rfl,n+1,by push_cast;rfl,by omega,?_⟩ (by dsimp only;omega))
  rw[<-a,f]
 refine Def.ite (by unfold fits;omega) (Def.bO (fun u=>?_) (fun u=>?_))
 .refine Def.cut (by omega) (by omega) (by omega) ?_
  have v:(s2.take ((s2.length:Int)).toNat).drop ((s2.length:Int)-(ends[n].length:Int)).toNat=s2.drop (s2.length-ends[n].length):=by
   rw[show((s2.length:Int)-(ends[n].length:Int)).toNat=s2.length-ends[n].length from by omega,eg,cj]
  rw[v]
  refine Def.bO (fun i=>?_) (fun i=>?_)
  .have f:jx s2 ends[n]=some (s2.take (s2.length-ends[n].length)):=by unfold jx;rw[ai ⟨by omega,i⟩]
   refine Def.cut (by omega) (by omega) (by omega) (Def.ret ?_)
   rw[f]at a
   rw[<-a,show((s2.length:Int)-(ends[n].length:Int)).toNat=s2.length-ends[n].length from by omega]
   rfl
  .exact next (by unfold jx;rw[aC (fun x=>i x.2)])
 .exact next (by unfold jx;rw[aC (by omega)])
theorem Ik (N:Nat) (s:List UInt8) (h:s.length+8<N) (i:s.length<=100000):vi N s=some (gl s):=by
 refine Def.get ?_
 unfold vi
 refine Def.iter (fun g=>g.length<=s.length/\gl g=gl s) (fun g=>g.length) (fun go g f b=>?_) N _ ⟨bE _,rfl⟩ (by omega)
 obtain⟨j,a⟩:=f
 dsimp only
 rw[ai8 N g (by omega) (by omega)]
 refine Def.bind (Def.eq rfl) fun r c=>?_
 subst c
 cases d:once g with
 |none=>
  rw[Option.getD_none,aq rfl]
  exact Def.ret (by rw[<-a,zg d])
 |some t=>
  have:=JX d
  rw[mW,an (fun e=>by rw[e]at this;omega)]
  refine Def.bind (Def.eq rfl) fun r c=>?_
  subst c
  exact b _ ⟨by omega,by rw[<-a,KK d]⟩ (by omega)
theorem Ib (N:Nat) (l:List (List UInt8)) (x:List UInt8) (h:l.length<N) (c:l.length<=1000000000):vh N l x=some (decide (x∈l)):=by
 unfold vh
 refine(dh _ l.length (fun n=>(l,x,(n:Int))) (fun n=>some (decide (x∈l.drop n))) (fun go=>?_) (fun go n b a=>?_) N 0 (bg _) (by omega)).trans (by simp)
 .dsimp only
  rw[an (bm _),aj,me]
  simp
 .dsimp only
  rw[aq (by omega:(n:Int)<l.length),ao,aP b,ag,ai (aO (n:=n) (by omega)),eY b]
  simp only[aS]at a
  by_cases e:l[n]=x
  .rw [aq e,ao,aq (by rw[e];exact cb)]
  .rw [an e,aj,a]
   congr 1
   rw[decide_eq_decide,bn]
   exact⟨.inr,fun h=>h.resolve_left (fun h=>e h.symm)⟩
theorem Ck {d ρ:Type} (F:(d->Option ρ)->d->Option ρ) (len:Nat) (st:Nat->d) (a:Nat->Bool) (no fin:Option ρ) (c:∀go,F go (st len)=fin)
  (b:∀go n,n<len->F go (st n)=bif a n then go (st (n+1))else no) (N:Nat) (h:len<N):iter F N (st 0)=bif dL len a then fin else no:=by
 have key:=dh F len st (fun n=>bif(List.range' n (len-n)).all a then fin else no) (fun go=>by rw[c,Nat.sub_self];simp) (fun go n f e=>?_) N 0 (bg _) (by omega)
 .simpa [dL]using key
 .rw [b go n f,e,show len-n=(len-(n+1))+1 from by omega,List.range'_succ,List.all_cons]
  cases a n<;>simp
theorem alC {α:Type} (xs:List α) (P:α->Bool) (a:Nat->Bool) (h:∀(n:Nat) (b:n<xs.length),a n=P xs[n]):dL xs.length a=xs.all P:=by
 unfold dL
 rw[ma,cz,cz]
 constructor
 .intro c x d
  obtain⟨n,b,rfl⟩:=eb.1 d
  rw[<-h n b]
  exact c n (by simp;omega)
 .intro e n b
  simp at b
  rw[h n (by omega)]
  exact e _ (br _)
theorem mr {α d ρ:Type} (F:(d->Option ρ)->d->Option ρ) (xs:List α) (st:Nat->d) (P:α->Bool) (no fin:Option ρ) (c:∀go,F go (st xs.length)=fin)
  (a:∀go n (b:n<xs.length),F go (st n)=bif P xs[n]then go (st (n+1))else no) (N:Nat) (h:xs.length<N):iter F N (st 0)=bif xs.all P then fin else no:=by
 rw[Ck F xs.length st (fun n=>if b:n<xs.length then P xs[n]else false) no fin c (fun go n b=>by rw[dif_pos b];exact a go n b) N h,alC xs P _ (fun n b=>by rw[dif_pos b])]
theorem B3 {s:List UInt8} (h:okW s=true):1<=s.length/\s.length<=12:=by
 unfold okW at h
 simp only[a6,bo]at h
 omega
def nV (xs:List (List UInt8)) (n:Nat):List UInt8:=xs[n]?.getD []
theorem sP {xs:List (List UInt8)} {n:Nat} (h:n<xs.length):xs[n]=nV xs n:=by unfold nV;rw[bG h];rfl
def oU (xs:List (List UInt8)) (n:Nat):Bool:=okW (nV xs n)&&(decide (n=0)||oa (nV xs (n-1)) (nV xs n))
theorem ali (N:Nat) (c:bC<N) (d:N<=1099511627776) (xs:List (List UInt8)) (b:cH bC (.ar .str) xs):BU N xs=some (dL xs.length (oU xs)):=by
 have f:List.length xs<=1048576:=b.1
 have e:1048576<N:=c
 unfold BU
 refine(Ck _ xs.length (fun n=>(xs,xs,(xs.length:Int),(n:Int))) (oU xs) (some false) (some true) (fun go=>?_) (fun go n a=>?_) N (by omega)).trans (by cases dL xs.length (oU xs)<;>rfl)
 .dsimp only
  rw[an (bm _),aj]
 .dsimp only
  have g:List.length xs[n]<=1048576:=b.2 xs[n] (br a)
  rw[aq (by omega:(n:Int)<xs.length),ao,aP a,ag,l7 N _ (by omega) d,ag,ai (aO (n:=n) (by omega)),aS]
  unfold oU oa
  rw[<-sP a]
  cases okW xs[n]with
  |false=>rfl
  |true=>
   rw[bf,aj,cl]
   cases n with
   |zero=>rfl
   |succ n=>
    rw[aq (by omega:(0:Int)<((n+1:Nat):Int)),ao,ai (by unfold fits;omega),show(((n+1:Nat):Int)-1)=(n:Int)from by omega,aP (by omega:n<xs.length),ag,show n+1-1=n from rfl,<-sP (by omega:n<xs.length)]
    cases Op.bytesLess xs[n] xs[n+1]<;>rfl
theorem H9 (N:Nat) (l:List (List UInt8)) (x:List UInt8) (h:l.length<N) (j:l.length<=1000000000):vg N l x=some (decide (x∈l)):=by
 refine Def.get ?_
 unfold vg Ih
 refine Def.bind (P:=fun r:Int=>decide ((0:Int)<=r)=decide (x∈l)) ?_ (fun r f=>Def.ret f)
 refine Def.upto l.length (fun n g=>g=(l,x,(l.length:Int),(n:Int))/\x∉l.take n) (fun go g b=>?_) (fun go n g c b d=>?_) N 0 _ (bg _) ⟨rfl,by simp⟩ (by omega)
 .obtain ⟨rfl,a⟩:=b
  dsimp only
  rw[an (bm _),aj]
  rw[cj]at a
  exact Def.ret (by rw[an a];rfl)
 .obtain ⟨rfl,a⟩:=b
  dsimp only
  rw[aq (by omega:(n:Int)<l.length),ao,aP c,ag]
  refine Def.bO (fun e=>Def.ret ?_) (fun e=>Def.ite (aO (n:=n) (by omega)) (d _ ⟨by rw[aS],?_⟩))
  .rw [aq (by omega:(0:Int)<=(n:Int)),aq (by rw[e];exact br c)]
  .rw [dT c,cE,du]
   exact fun i=>i.elim a e
def td (st:List (List UInt8)) (w:List UInt8):Bool:=okW w&&(decide (gl w=w)&& !decide (w∈st))
def oT (st:List (List UInt8)) (y:eT):Bool:=(decide ((1:Int)<=y.1.length)&&decide ((y.1.length:Int)<=3))&&(okW y.2&&(decide (gl y.2=y.2)&&y.1.all (td st)))
def dQ (c:aK):Bool:=decide ((c.1.length:Int)<=6)&&(dL c.1.length (oU c.1)&&(decide ((c.2.length:Int)<=4)&&c.2.all (oT c.1)))
theorem r6 (N:Nat) (e:bC<N) (a:N<=1099511627776) (c:aK) (b:cH bC gJ c):oI N c.1 c.2=some (dQ c):=by
 obtain⟨c,c2⟩:=c
 have j:1048576<N:=e
 have r:List.length c<=1048576:=b.1.1
 have l:List.length c2<=1048576:=b.2.1
 unfold oI dQ
 dsimp only
 by_cases f:(6:Int)<c.length
 .rw [aq f,ao,an (by omega:¬(c.length:Int)<=6)];rfl
 rw[an f,aj,aq (by omega:(c.length:Int)<=6),cl,ali N e a c b.1,ag]
 cases dL c.length (oU c)with
 |false=>rfl
 |true=>
 rw[bf,aj,cl]
 by_cases g:(4:Int)<c2.length
 .rw [aq g,ao,an (by omega:¬(c2.length:Int)<=4)];rfl
 rw[an g,aj,aq (by omega:(c2.length:Int)<=4),cl]
 refine(mr _ c2 (fun n=>(c2,(c2.length:Int),(n:Int),c,c2)) (oT c) (some false) (some true) (fun go=>?_) (fun go n h=>?_) N (by omega)).trans (by cases c2.all (oT c)<;>rfl)
 .dsimp only
  rw[an (bm _),aj]
 .dsimp only
  have d:=b.2.2 c2[n] (br h)
  have o:List.length c2[n].1<=1048576:=d.1.1
  have p:List.length c2[n].2<=1048576:=d.2
  rw[aq (by omega:(n:Int)<c2.length),ao,aP h,ag,fB,ag]
  unfold oT
  cases(decide ((1:Int)<=c2[n].1.length)&&decide ((c2[n].1.length:Int)<=3))with
  |false=>rfl
  |true=>
  rw[bf,aj,cl,l7 N _ (by omega) a,ag,Iq N _ (by omega) (by omega) a,ag]
  cases okW c2[n].2 with
  |false=>rfl
  |true=>
  rw[bf,aj,cl,ao]
  cases decide (gl c2[n].2=c2[n].2)with
  |false=>rfl
  |true=>
  rw[bf,aj,cl]
  refine mr _ c2[n].1 (fun k=>(c2,(c2.length:Int),(n:Int),false,false,c2[n].1,(c2[n].1.length:Int),(k:Int),c,c2)) (td c) (some false) (go (c2,(c2.length:Int),((n+1:Nat):Int),c,c2)) (fun go2=>?_) (fun go2 k i=>?_) N (by omega)
  .dsimp only
   rw[an (bm _),aj,ai (aO (n:=n) (by omega)),aS]
  .dsimp only
   have hw:List.length c2[n].1[k]<=1048576:=d.1.2 _ (br i)
   rw[aq (by omega:(k:Int)<c2[n].1.length),ao,aP i,ag,l7 N _ (by omega) a,ag,Iq N _ (by omega) (by omega) a,ag,H9 N _ _ (by omega) (by omega),ag,ai (aO (n:=k) (by omega)),aS]
   unfold td
   cases okW c2[n].1[k]with
   |false=>rfl
   |true=>
   rw[bf,aj,cl,ao]
   cases decide (gl c2[n].1[k]=c2[n].1[k])with
   |false=>rfl
   |true=>
   rw[bf,aj,cl]
   cases decide (c2[n].1[k]∈c)<;>rfl
theorem Dd (N:Nat) (g:bC<N) (e:N<=1099511627776) (c:aK) (b:cH bC gJ c):sW N c.1 c.2=some (dQ c):=by
 obtain⟨c,c2⟩:=c
 have h:1048576<N:=g
 have p:List.length c<=1048576:=b.1.1
 have i:List.length c2<=1048576:=b.2.1
 unfold sW dQ
 dsimp only
 refine(Ck _ c.length (fun n=>((n:Int),c,c2)) (oU c) (some false) (bif c2.all (oT c)then some (decide ((c.length:Int)<=6)&&decide ((c2.length:Int)<=4))else some false) (fun go=>?_) (fun go n a=>?_) N (by omega)).trans (by cases dL c.length (oU c)<;>cases c2.all (oT c)<;>cases decide ((c.length:Int)<=6)<;>cases decide ((c2.length:Int)<=4)<;>rfl)
 .dsimp only
  rw[an (bm _),aj]
  refine mr _ c2 (fun n=>((n:Int),c,c2)) (oT c) (some false) _ (fun go=>?_) (fun go n a=>?_) N (by omega)
  .dsimp only
   rw[an (bm _),aj]
   cases decide ((c.length:Int)<=6)<;>rfl
  .dsimp only
   have d:=b.2.2 c2[n] (br a)
   have j:List.length c2[n].1<=1048576:=d.1.1
   have l:List.length c2[n].2<=1048576:=d.2
   rw[aq (by omega:(n:Int)<c2.length),ao,aP a,ag]
   refine(mr _ c2[n].1 (fun k=>((n:Int),(k:Int),c,c2,c2[n].1,c2[n].2)) (td c) (some false) (bif((decide ((1:Int)<=c2[n].1.length)&&decide ((c2[n].1.length:Int)<=3))&&(okW c2[n].2&&decide (gl c2[n].2=c2[n].2)))then go (((n+1:Nat):Int),c,c2)else some false) (fun go2=>?_) (fun go2 k f=>?_) N (by omega)).trans ?_
   .dsimp only
    rw[an (bm _),aj,jD,ag,oH N _ (by omega) e,ag,ai (aO (n:=n) (by omega)),aS]
    cases(decide ((1:Int)<=c2[n].1.length)&&decide ((c2[n].1.length:Int)<=3))with
    |false=>rfl
    |true=>
    cases hw:okW c2[n].2 with
    |false=>rfl
    |true=>
    have:=B3 hw
    rw[bf,aj,aj,cl,cl,Ik N _ (by omega) (by omega),ag]
    cases decide (gl c2[n].2=c2[n].2)<;>rfl
   .dsimp only
    have o:List.length c2[n].1[k]<=1048576:=d.1.2 _ (br f)
    rw[aq (by omega:(k:Int)<c2[n].1.length),ao,aP f,ag,oH N _ (by omega) e,ag]
    unfold td
    cases hw:okW c2[n].1[k]with
    |false=>rfl
    |true=>
    have:=B3 hw
    rw[bf,aj,cl,ag,Ik N _ (by omega) (by omega),ag,ag,ag]
    cases decide (gl c2[n].1[k]=c2[n].1[k])with
    |false=>rfl
    |true=>
    rw[bf,aj,cl,ai (aO (n:=k) (by omega)),aS]
    rw[Ib N _ _ (by omega) (by omega),ag]
    cases decide (c2[n].1[k]∈c)<;>rfl
   .unfold oT
    cases c2[n].1.all (td c)<;>cases(decide ((1:Int)<=c2[n].1.length)&&decide ((c2[n].1.length:Int)<=3))<;>cases okW c2[n].2<;>cases decide (gl c2[n].2=c2[n].2)<;>rfl
 .dsimp only
  have d:List.length c[n]<=1048576:=b.1.2 c[n] (br a)
  rw[aq (by omega:(n:Int)<c.length),ao,aP a,ag,oH N _ (by omega) e,ag,ai (aO (n:=n) (by omega)),aS]
  unfold oU oa
  rw[<-sP a]
  cases okW c[n]with
  |false=>rfl
  |true=>
   rw[bf,aj,cl]
   cases n with
   |zero=>rfl
   |succ n=>
    rw[aq (by omega:(0:Int)<((n+1:Nat):Int)),ao,ag,ai (by unfold fits;omega),show(((n+1:Nat):Int)-1)=(n:Int)from by omega,aP (by omega:n<c.length),ag,show n+1-1=n from rfl,<-sP (by omega:n<c.length),oe]
    cases Op.bytesLess c[n] c[n+1]<;>rfl
abbrev dv :=List UInt8×Int
theorem al9 {len:Nat} {f g:Nat->Bool} (h:∀n,n<len->f n=g n):dL len f=dL len g:=by
 unfold dL
 rw[ma,cz,cz]
 constructor<;>intro c n b<;>have a:=b<;>simp at a
 .rw [<-h n a];exact c n b
 .rw [h n a];exact c n b
theorem QK (n:Nat) (f:Nat->Bool):dL (n+1) f=(dL n f&&f n):=by
 unfold dL
 rw[List.range'_concat,List.all_append]
 simp
theorem aiN :∀n:Nat,n<256->(decide (kA n=0)||(fX (kA n)&&decide (0<=kA n)&&decide (kA n<256)))=true:=by decide+kernel
theorem MK {c:UInt8} (h:e8 c=true):fX (ot c)=true/\0<=ot c/\ot c<256:=by
 have:=aiN c.toNat (UInt8.toNat_lt c)
 unfold e8 at h
 unfold ot
 simp only[lu,a6,bo]at this
 rcases this with a|⟨⟨a,b⟩,d⟩
 .rw [aq a]at h;cases h
 .exact ⟨a,b,d⟩
theorem aj4 {n:Int} (a:0<=n) (b:n<256):((UInt8.ofNat n.toNat).toNat:Int)=n:=by
 have:(UInt8.ofNat n.toNat).toNat=n.toNat%256:=by simp
 rw[this];omega
theorem akV {xs:List Int} (h:∀x,x∈xs->fX x=true/\0<=x/\x<256) (c:0<xs.length) (d:xs.length<=12):okW (bytesOf xs)=true:=by
 have e:(bytesOf xs).length=xs.length:=by unfold bytesOf;simp
 unfold okW
 rw[a6,a6,bo,bo]
 refine⟨?_,by omega,by omega⟩
 unfold dL
 rw[cz]
 intro n b
 simp at b
 have a:n<xs.length:=by omega
 have:eV (bytesOf xs) n=xs[n]:=by
  unfold eV bytesOf
  rw[iC,bG a]
  exact aj4 (h _ (br a)).2.1 (h _ (br a)).2.2
 rw[this]
 exact(h _ (br a)).1
theorem QH :∀(l:List UInt8) (c:UInt8),c∈l.take (lead l)->e8 c=true
 | [],c,h=>by cases h
 |d::l,c,h=>by
  cases a:e8 d with
  |false=>rw[Dg a]at h;cases h
  |true=>
   rw[vw a,hX]at h
   rcases bn.1 h with rfl|h
   .exact a
   .exact QH l c h
theorem ya (l:List UInt8) (p a:Int):∀x,x∈hn l p a->okW x.1=true/\a<=x.2.1:=by
 match l with
 | []=>rw[nW];intro x b;cases b
 |c::t=>
  intro x b
  rw[hn]at b
  split at b
  .rename_i e
   rcases bn.1 b with rfl|b
   .refine ⟨akV (fun y hy=>?_) ?_ ?_,ic _⟩
    .have hy:=fC hy
     obtain⟨d,f,rfl⟩:=cg.1 hy
     exact MK (QH (c::t) d (by rw[vw e];exact f))
    .simp
    .simp;omega
   .have:=ya (t.drop (lead t)) (p+(lead t+1:Nat)) (a+1) x b
    exact⟨this.1,by omega⟩
  .exact ya t (p+1) a x b
termination_by l.length
decreasing_by all_goals (simp; try omega)
theorem Ip (l:List UInt8) (p a:Int):∀x,x∈hn l p a->x.2.1<a+l.length:=by
 match l with
 | []=>rw[nW];intro x b;cases b
 |c::t=>
  intro x b
  rw[hn]at b
  simp only[ba]
  split at b
  .rcases bn.1 b with rfl|b
   .dsimp only;omega
   .have:=Ip (t.drop (lead t)) (p+(lead t+1:Nat)) (a+1) x b
    rw[eF]at this
    omega
  .have:=Ip t (p+1) a x b
   omega
termination_by l.length
decreasing_by all_goals (simp; try omega)
def mO (st:List (List UInt8)) (w:sR):Option dv:=if w.1∈st\/gl w.1∈st then none else some (gl w.1,w.2.1)
def plain (st:List (List UInt8)) (s:List UInt8):List dv:=(words s).filterMap (mO st)
theorem Io (st:List (List UInt8)) (s:List UInt8):(plain st s).length<=s.length:=dS (tJ _ _) (x6 s 0 0)
theorem amm (st:List (List UInt8)) (s:List UInt8):∀x,x∈plain st s->0<=x.2/\x.2<s.length:=by
 intro x b
 obtain⟨w,hw,a⟩:=rQ.1 b
 unfold mO at a
 split at a
 .cases a
 .cases a
  have c:=(ya s 0 0 w hw).2
  have d:=Ip s 0 0 w hw
  exact⟨c,by dsimp only;omega⟩
theorem Aq {α β:Type} (f:α->Option β) (xs:List α) (n:Nat) (h:n<xs.length):(xs.take (n+1)).filterMap f=(xs.take n).filterMap f++(match f xs[n]with|some y=>[y]|none=>[]):=by
 rw[dT h,List.filterMap_append]
 cases a:f xs[n]<;>simp[a]
theorem aiL (N:Nat) (c:aK) (s:List UInt8) (j:s.length<=10000) (k:20000<N) (l:c.1.length<=6):B5 N c.1 c.2 s=some (plain c.1 s):=by
 unfold B5
 rw[alG N s (by omega) (by omega),ag]
 have g:(words s).length<=s.length:=x6 s 0 0
 refine(dh _ (words s).length (fun n=>(((words s).take n).filterMap (mO c.1),words s,(n:Int),c.1,c.2)) (fun _=>some (plain c.1 s)) (fun go=>?_) (fun go n b a=>?_) N 0 (bg _) (by omega)).trans rfl
 .dsimp only
  rw[an (bm _),aj,cj]
  rfl
 .dsimp only
  have hw:=(ya s 0 0 (words s)[n] (br b)).1
  have f:=B3 hw
  have i:(((words s).take n).filterMap (mO c.1)).length<=n:=dS (tJ _ _) (by simp;omega)
  rw[Aq _ _ _ b]at a
  simp only[aS]at a
  rw[aq (by omega:(n:Int)<((words s).length:Int)),ao,aP b,ag,Ik N _ (by omega) (by omega),ag,ag,Ib N _ _ (by omega) (by omega),ag,ai (aO (n:=n) (by omega))]
  unfold mO at a
  by_cases d:(words s)[n].1∈c.1
  .rw [aq d]
   rw[ai (.inl d),fe]at a
   exact a
  .rw [an d,dH,ao,Ib N _ _ (by omega) (by omega),ag]
   by_cases e:gl (words s)[n].1∈c.1
   .rw [aq e]
    rw[ai (.inr e),fe]at a
    exact a
   .rw [an e,dH,ao,ag,ai (bW (by simp only[ba,bH];omega) (by simp only[ba,bH];omega)),ai (aO (n:=n) (by omega))]
    rw[aC (by rintro(h|h)<;>contradiction)]at a
    exact a
def dA (xs:List dv) (n:Nat):dv:=xs[n]?.getD ([],0)
theorem mH {xs:List dv} {n:Nat} (h:n<xs.length):xs[n]=dA xs n:=by unfold dA;rw[bG h];rfl
theorem Ce (xs:List dv) (k n:Nat):dA (xs.drop k) n=dA xs (k+n):=by unfold dA;rw[hV]
def mt (l:List dv) (f:List (List UInt8)) (j:Nat):Bool:=decide ((dA l j).1=nV f j)&&decide ((dA l j).2=(dA l 0).2+j)
def jp (l:List dv) (f:List (List UInt8)):Bool:=dL f.length (fun j=>decide (j<l.length)&&mt l f j)
def mZ (l:List dv):Prop:=∀x,x∈l->0<=x.2/\x.2<1000000
theorem mZ.at {l:List dv} (h:mZ l) (n:Nat):0<=(dA l n).2/\(dA l n).2<1000000:=by
 unfold dA
 cases a:l[n]? with
 |none=>show(0:Int)<=0/\(0:Int)<1000000;omega
 |some x=>exact h x (fY a)
theorem akm (N:Nat) (l:List dv) (f:List (List UInt8)) (c:f.length<=1048576) (d:1048576<N) (b:mZ l):B7 N l f=some (jp l f):=by
 unfold B7 jp
 refine(Ck _ f.length (fun n=>(l,f,(n:Int))) (fun j=>decide (j<l.length)&&mt l f j) (some false) (some true) (fun go=>?_) (fun go n a=>?_) N (by omega)).trans (by cases dL f.length (fun j=>decide (j<l.length)&&mt l f j)<;>rfl)
 .dsimp only
  rw[an (bm _),aj]
 .dsimp only
  rw[aq (by omega:(n:Int)<f.length),ao]
  by_cases h:n<l.length
  .have e:=b.at 0
   rw[an (by omega:¬(l.length:Int)<=(n:Int)),aj,aq h,cl,aP h,ag,aP a,ag,ag,show(0:Int)=((0:Nat):Int)from rfl,aP (by omega:0<l.length),ag,mH h,mH (by omega:0<l.length),sP a,ai (by unfold fits;omega),ai (aO (n:=n) (by omega)),aS]
   unfold mt
   cases decide ((dA l n).1=nV f n)with
   |false=>rfl
   |true=>
    rw[bf,aj,cl]
    cases decide ((dA l n).2=(dA l 0).2+(n:Int))<;>rfl
  .rw [aq (by omega:(l.length:Int)<=(n:Int)),ao,an h];rfl
def gQ (l:List dv) (a:Option eT) (y:eT):Option eT:=bif jp l y.1&&(match a with|none=>true|some b=>decide (b.1.length<y.1.length))then some y else a
theorem alN (l:List dv) (b:Option eT) (y:eT):(gQ l b y=some y/\jp l y.1=true)\/gQ l b y=b:=by
 unfold gQ
 cases a:jp l y.1 with
 |false=>exact .inr rfl
 |true=>
  rw[cl]
  generalize(match b with|none=>true|some b=>decide (b.1.length<y.1.length))=q
  cases q
  .exact .inr rfl
  .exact .inl ⟨rfl,rfl⟩
theorem ajg (l:List dv) (y:eT):gQ l none y=bif jp l y.1 then some y else none:=by unfold gQ;rw[fD]
theorem ak0 (l:List dv) (p y:eT) (h:p.1.length<y.1.length):gQ l (some p) y=bif jp l y.1 then some y else some p:=by unfold gQ;dsimp only;rw[aq h,fD]
theorem aj9 (l:List dv) (p y:eT) (h:¬p.1.length<y.1.length):gQ l (some p) y=some p:=by unfold gQ;dsimp only;rw[an h,rR];rfl
def p8 (c2:List eT) (l:List dv):Option eT:=c2.foldl (gQ l) none
theorem ou {α β:Type} (f:β->α->β) (b:β) (xs:List α) (n:Nat) (h:n<xs.length):(xs.take (n+1)).foldl f b=f ((xs.take n).foldl f b) xs[n]:=by
 rw[dT h,hW];rfl
theorem EE (c2:List eT) (l:List dv) {y:eT} (h:p8 c2 l=some y):y∈c2/\jp l y.1=true:=by
 have key:∀n,n<=c2.length->∀y,(c2.take n).foldl (gQ l) none=some y->y∈c2/\jp l y.1=true:=by
  intro n
  induction n with
  |zero=>intro _ y h;cases h
  |succ n b=>
   intro d y h
   rw[ou _ _ _ _ (by omega)]at h
   rcases alN l ((c2.take n).foldl (gQ l) none) (c2[n]'(by omega))with⟨a,c⟩|a
   .rw [a]at h
    cases h
    exact⟨br _,c⟩
   .rw [a]at h
    exact b (by omega) y h
 exact key c2.length (bE _) y (by rw[cj];exact h)
theorem H6 {l:List dv} {f:List (List UInt8)} (h:jp l f=true):f.length<=l.length:=by
 by_cases a:f.length=0
 .omega
 unfold jp dL at h
 rw[cz]at h
 have:=h (f.length-1) (by simp;omega)
 rw[a6,bo]at this
 omega
theorem alK (N:Nat) (c:aK) (l:List dv) (v:c.2.length<=4) (hy:∀y,y∈c.2->y.1.length<=1048576) (p:1048576<N) (s:mZ l):
  Def (B9 N c.1 c.2 l) fun r=>(r=-1/\p8 c.2 l=none)\/ ∃k:Nat,r=(k:Int)/\∃h:k<c.2.length,p8 c.2 l=some c.2[k]:=by
 unfold B9
 refine Def.upto c.2.length (fun n g=>∃b:Int,g=(l,b,(n:Int),c.1,c.2)/\((b=-1/\(c.2.take n).foldl (gQ l) none=none)\/ ∃k:Nat,b=(k:Int)/\∃h:k<c.2.length,(c.2.take n).foldl (gQ l) none=some c.2[k])) (fun go g j=>?_) (fun go n g f j d=>?_) N 0 _ (bg _) ⟨-1,rfl,.inl ⟨rfl,rfl⟩⟩ (by omega)
 .obtain ⟨b,rfl,a⟩:=j
  dsimp only
  rw[an (bm _),aj]
  rw[cj]at a
  exact Def.ret a
 .obtain ⟨b,rfl,a⟩:=j
  dsimp only
  rw[aq (by omega:(n:Int)<c.2.length),ao,aP f,ag,akm N l _ (hy _ (br f)) p s,ag]
  have e:=ou (gQ l) none c.2 n f
  refine Def.bif (fun i=>?_) (fun i=>?_)
  .refine Def.bO (fun t=>?_) (fun t=>?_)
   .refine Def.ite (aO (n:=n) (by omega)) (d _ ⟨(n:Int),by rw[aS],.inr ⟨n,rfl,f,?_⟩⟩)
    rcases a with⟨_,a⟩|⟨k,rfl,_⟩
    .rw [e,a];unfold gQ;rw[i];rfl
    .omega
   .rcases a with⟨rfl,_⟩|⟨k,rfl,o,a⟩
    .omega
    rw[ag,aP o,ag]
    refine Def.bO (fun u=>?_) (fun u=>?_)
    .refine Def.ite (aO (n:=n) (by omega)) (d _ ⟨(n:Int),by rw[aS],.inr ⟨n,rfl,f,?_⟩⟩)
     rw[e,a];unfold gQ;rw[i];dsimp only;rw[aq (by omega:c.2[k].1.length<c.2[n].1.length)];rfl
    .refine Def.ite (aO (n:=n) (by omega)) (d _ ⟨(k:Int),by rw[aS],.inr ⟨k,rfl,o,?_⟩⟩)
     rw[e,a];unfold gQ;rw[i];dsimp only;rw[an (by omega:¬c.2[k].1.length<c.2[n].1.length)];rfl
  .refine Def.ite (aO (n:=n) (by omega)) (d _ ⟨b,by rw[aS],?_⟩)
   have:(c.2.take (n+1)).foldl (gQ l) none=(c.2.take n).foldl (gQ l) none:=by rw[e];unfold gQ;rw[i];rfl
   rw[this];exact a
theorem aji (N:Nat) (c:List (List UInt8)) (c2:List eT) (b:List dv) (a:Nat) (A:a<b.length) (v:b.length<=100000) (B:c2.length<=4) (hy:∀y,y∈c2->y.1.length<=1048576) (C:1048576<N) (u:mZ b):
  B0 N c c2 b (a:Int)=some (p8 c2 (b.drop a)):=by
 unfold B0
 refine(dh _ c2.length (fun n=>(b,(a:Int),(c2.take n).foldl (gQ (b.drop a)) none,(c2.length:Int),(n:Int),c,c2)) (fun _=>some (p8 c2 (b.drop a))) (fun go=>?_) (fun go n s d=>?_) N 0 (bg _) (by omega)).trans rfl
 .dsimp only
  rw[an (bm _),aj,cj]
  rfl
 dsimp only
 have x:=hy _ (br s)
 have e:=ou (gQ (b.drop a)) none c2 n s
 generalize F:(c2.take n).foldl (gQ (b.drop a)) none=l at e⊢
 simp only[aS]at d
 rw[aq (by omega:(n:Int)<c2.length),ao,aP s,ag,ai (by unfold fits;omega)]
 by_cases hlen:(b.length:Int)-(a:Int)<c2[n].1.length
 .have t:jp (b.drop a) c2[n].1=false:=by
   cases h:jp (b.drop a) c2[n].1 with
   |false=>rfl
   |true=>have:=H6 h;rw[eF]at this;omega
  rw[aq hlen,ao,ai (aO (n:=n) (by omega)),<-d,e]
  unfold gQ
  rw[t]
  rfl
 rw[an hlen,aj]
 have o:dL c2[n].1.length (mt (b.drop a) c2[n].1)=jp (b.drop a) c2[n].1:=by
  unfold jp
  refine al9 fun j G=>?_
  rw[aq (by rw[eF];omega),cl]
 cases l with
 |some p=>
  rw[show(!Option.isNone (some p))=true from rfl,ao,ag]
  by_cases hle:(c2[n].1.length:Int)<=(p.1.length:Int)
  .rw [aq hle,ao,ai (aO (n:=n) (by omega)),<-d,e,aj9 _ _ _ (by omega)]
  .rw [an hle,aj]
   refine(dh _ c2[n].1.length (fun k=>(b,(a:Int),(some p),c2[n],dL k (mt (b.drop a) c2[n].1),(c2.length:Int),(n:Int),false,c2[n].1,(c2[n].1.length:Int),(k:Int),c,c2)) (fun _=>go (b,(a:Int),(bif dL c2[n].1.length (mt (b.drop a) c2[n].1)then some c2[n]else(some p)),(c2.length:Int),(n:Int)+1,c,c2)) (fun go2=>?_) (fun go2 k r f=>?_) N 0 (bg _) (by omega)).trans ?_
   .dsimp only
    rw[an (bm _),aj,ai (aO (n:=n) (by omega)),ai (aO (n:=n) (by omega))]
    cases dL c2[n].1.length (mt (b.drop a) c2[n].1)<;>rfl
   .dsimp only
    rw[<-f,QK]
    have g:a+k<b.length:=by omega
    have z:=(u.at a)
    rw[aq (by omega:(k:Int)<c2[n].1.length),ao,aP r,ag,ai (by unfold fits;omega),show(a:Int)+(k:Int)=((a+k:Nat):Int)from by push_cast;rfl,aP g,ag,aP (by omega:a<b.length),ag,mH g,mH (by omega:a<b.length),sP r,ai (show fits ((dA b a).2+(k:Int))from by unfold fits;omega),aS]
    have i:fits ((k:Int)+1):=aO (n:=k) (by omega)
    simp only[ai i]
    have hm:mt (b.drop a) c2[n].1 k=(decide ((dA b (a+k)).1=nV c2[n].1 k)&&decide ((dA b (a+k)).2=(dA b a).2+(k:Int))):=by unfold mt;rw[Ce,Ce];rfl
    rw[hm]
    cases dL k (mt (b.drop a) c2[n].1)with
    |false=>rfl
    |true=>
     cases decide ((dA b (a+k)).1=nV c2[n].1 k)<;>rfl
   .rw [o,<-d,e,ak0 _ _ _ (by omega)]
 |none=>
  rw[show(!Option.isNone (none:Option eT))=false from rfl,aj]
  refine(dh _ c2[n].1.length (fun k=>(b,(a:Int),(none:Option eT),c2[n],dL k (mt (b.drop a) c2[n].1),(c2.length:Int),(n:Int),false,c2[n].1,(c2[n].1.length:Int),(k:Int),c,c2)) (fun _=>go (b,(a:Int),(bif dL c2[n].1.length (mt (b.drop a) c2[n].1)then some c2[n]else(none:Option eT)),(c2.length:Int),(n:Int)+1,c,c2)) (fun go2=>?_) (fun go2 k r f=>?_) N 0 (bg _) (by omega)).trans ?_
  .dsimp only
   rw[an (bm _),aj,ai (aO (n:=n) (by omega)),ai (aO (n:=n) (by omega))]
   cases dL c2[n].1.length (mt (b.drop a) c2[n].1)<;>rfl
  .dsimp only
   rw[<-f,QK]
   have g:a+k<b.length:=by omega
   have z:=(u.at a)
   rw[aq (by omega:(k:Int)<c2[n].1.length),ao,aP r,ag,ai (by unfold fits;omega),show(a:Int)+(k:Int)=((a+k:Nat):Int)from by push_cast;rfl,aP g,ag,aP (by omega:a<b.length),ag,mH g,mH (by omega:a<b.length),sP r,ai (show fits ((dA b a).2+(k:Int))from by unfold fits;omega),aS]
   have i:fits ((k:Int)+1):=aO (n:=k) (by omega)
   simp only[ai i]
   have hm:mt (b.drop a) c2[n].1 k=(decide ((dA b (a+k)).1=nV c2[n].1 k)&&decide ((dA b (a+k)).2=(dA b a).2+(k:Int))):=by unfold mt;rw[Ce,Ce];rfl
   rw[hm]
   cases dL k (mt (b.drop a) c2[n].1)with
   |false=>rfl
   |true=>
    cases decide ((dA b (a+k)).1=nV c2[n].1 k)<;>rfl
  .rw [o,<-d,e,ajg]
theorem Def.FN {α β:Type} {xs:List α} {k:Nat} {f:List α->Option β} {Q:β->Prop} (h:k<=xs.length) (a:Def (f (xs.drop k)) Q):Def (Option.bind (Go.Proofs.YtnkagklajgimlaaGreatDoor.cut xs (k:Int) (xs.length:Int)) f) Q:=by
 refine Def.cut (by omega) (by omega) (ic _) ?_
 simp only[eg,cj]
 exact a
theorem JP {c:aK} (h:dQ c=true):c.1.length<=6/\c.2.length<=4/\∀y,y∈c.2->1<=y.1.length/\y.1.length<=3/\okW y.2=true/\gl y.2=y.2:=by
 unfold dQ at h
 simp only[a6,bo,cz]at h
 obtain⟨b,_,d,a⟩:=h
 refine⟨by omega,by omega,fun y hy=>?_⟩
 have:=a y hy
 unfold oT at this
 simp only[a6,bo]at this
 exact⟨by omega,by omega,this.2.1,this.2.2.1⟩
def iy (c2:List eT) (l:List dv):List dv:=
 match l with
 | []=>[]
 |t::r=>match p8 c2 (t::r)with
  |none=>t::iy c2 r
  |some y=>(y.2,t.2)::iy c2 (r.drop (y.1.length-1))
termination_by l.length
decreasing_by all_goals (simp; try omega)
theorem wa (c2:List eT):iy c2 []=[]:=by rw[iy]
theorem QW {c2:List eT} {t:dv} {r:List dv} (h:p8 c2 (t::r)=none):iy c2 (t::r)=t::iy c2 r:=by rw[iy,h]
theorem QN {c2:List eT} {t:dv} {r:List dv} {y:eT} (h:p8 c2 (t::r)=some y) (hy:1<=y.1.length):iy c2 (t::r)=(y.2,t.2)::iy c2 ((t::r).drop y.1.length):=by
 rw[iy,h]
 show(y.2,t.2)::iy c2 (r.drop (y.1.length-1))=_
 obtain⟨k,a⟩:∃k,y.1.length=k+1:=⟨y.1.length-1,by omega⟩
 rw[a]
 rfl
theorem EI (c2:List eT) (l:List dv):(iy c2 l).length<=l.length:=by
 match l with
 | []=>rw[wa];exact bE _
 |t::r=>
  rw[iy]
  split
  .have:=EI c2 r
   simp only[ba];omega
  .rename_i y _
   have:=EI c2 (r.drop (y.1.length-1))
   rw[eF]at this
   simp only[ba];omega
termination_by l.length
decreasing_by all_goals (simp; try omega)
def dk (c:aK) (s:List UInt8):List dv:=iy c.2 (plain c.1 s)
theorem o9 (c:aK) (s:List UInt8):(dk c s).length<=s.length:=dS (EI _ _) (Io _ _)
theorem Iu (st:List (List UInt8)) (s:List UInt8) (b:s.length<=10000):mZ (plain st s):=fun x a=>by
 have:=amm st s x a
 exact⟨this.1,by omega⟩
theorem mZ.drop {l:List dv} (h:mZ l) (n:Nat):mZ (l.drop n):=fun x a=>h x (qi a)
theorem yu (N:Nat) (c:aK) (s:List UInt8) (u:s.length<=10000) (z:1048576<N) (A:dQ c=true):q8 N c.1 c.2 s=some (dk c s):=by
 obtain⟨B,C,d⟩:=JP A
 refine Def.get ?_
 unfold q8
 rw[aiL N c s u (by omega) B]
 refine Def.bind (Def.eq rfl) fun r F=>?_
 subst F
 have G:=Io c.1 s
 have o:=Iu c.1 s u
 refine Def.iter (fun g=>g.2.2=(c.1,c.2)/\mZ g.2.1/\g.1.length+g.2.1.length<=10000/\g.1++iy c.2 g.2.1=dk c s) (fun g=>g.2.1.length) (fun go g H a=>?_) N _ ⟨rfl,o,by simp;omega,rfl⟩ (by dsimp only;omega)
 obtain⟨out,l,c3,c4⟩:=g
 obtain⟨v,j,hlen,f⟩:=H
 dsimp only at v j hlen f a⊢
 cases v
 match l with
 | []=>
  refine Def.bO (fun h=>absurd h (by simp)) (fun _=>Def.ret ?_)
  rw[wa,fe]at f
  exact f
 |t::r=>
  have x:0<(t::r).length:=by simp
  rw[aq (by omega:(0:Int)<((t::r).length:Int)),ao]
  refine Def.bind (alK N c (t::r) C (fun y hy=>by have:=(d y hy).2.1;omega) z j) fun k b=>?_
  rcases b with⟨rfl,b⟩|⟨k,rfl,i,b⟩
  .rw [aq (by decide:(-1:Int)<0),ao,show(0:Int)=((0:Nat):Int)from rfl,aP x]
   refine Def.bind (Def.eq rfl) fun e he=>?_
   rw[he]
   refine Def.ite (bW (by simp only[ba,bH]at hlen⊢;omega) (by simp only[ba,bH]at hlen⊢;omega)) ?_
   refine Def.FN (k:=1) (by omega) (a _ ⟨rfl,j.drop 1,?_,?_⟩ ?_)
   .dsimp only;simp only[bh,ba,bH,eF]at hlen⊢;omega
   .dsimp only;rw[<-f,QW b,e5];rfl
   .dsimp only;simp only[ba,eF];omega
  .have hy:=d _ (br i)
   have p:=H6 (EE _ _ b).2
   rw[an (by omega:¬(k:Int)<0),aj,aP i,show(0:Int)=((0:Nat):Int)from rfl,aP x]
   refine Def.bind (Def.eq rfl) fun y he=>?_
   rw[he]
   refine Def.bind (Def.eq rfl) fun e he=>?_
   rw[he]
   refine Def.ite (bW (by simp only[ba,bH]at hlen⊢;omega) (by simp only[ba,bH]at hlen⊢;omega)) ?_
   refine Def.bind (Def.eq rfl) fun y he=>?_
   rw[he]
   refine Def.FN p (a _ ⟨rfl,j.drop _,?_,?_⟩ ?_)
   .dsimp only;simp only[bh,ba,bH,eF]at hlen p⊢;omega
   .dsimp only;rw[<-f,QN b hy.1,e5];rfl
   .dsimp only;simp only[ba,eF]at p⊢;omega
theorem EJ (N:Nat) (c:aK) (s:List UInt8) (O:s.length<N) (I:bC<N) (u:N<=1099511627776) (P:cH bC gJ c):sU N c.1 c.2 s=some (bif dQ c&&fI s then dk c s else []):=by
 have v:1048576<N:=I
 refine Def.get ?_
 unfold sU
 rw[r6 N I u c P]
 refine Def.bind (Def.eq rfl) fun r i=>?_
 subst i
 cases Q:dQ c with
 |false=>exact Def.ret rfl
 |true=>
 obtain⟨iL,S,k⟩:=JP Q
 rw[bf,aj,Il N s O u]
 refine Def.bind (Def.eq rfl) fun r i=>?_
 subst i
 cases x:fI s with
 |false=>exact Def.ret rfl
 |true=>
 have z:s.length<=160:=by
  unfold fI at x
  simp only[a6,bo]at x
  omega
 rw[bf,aj,akz N s (by omega) u,x,ao]
 refine Def.bind (Def.eq rfl) fun r i=>?_
 subst i
 have T:(words s).length<=s.length:=x6 s 0 0
 have U:=Io c.1 s
 have A:=Iu c.1 s (by omega)
 refine Def.upto (words s).length (fun n g=>g=([],((words s).take n).filterMap (mO c.1),words s,((words s).length:Int),(n:Int),c.1,c.2)) (fun go g B=>?_) (fun go n g C B d=>?_) N 0 _ (bg _) rfl (by omega)
 .subst B
  dsimp only
  rw[an (bm _),aj,cj]
  change Def (iter _ N ([],plain c.1 s,0,c.1,c.2)) _
  refine Def.iter (fun g=>g.2.1=plain c.1 s/\g.2.2.2=(c.1,c.2)/\∃a:Nat,g.2.2.1=(a:Int)/\a<=(plain c.1 s).length/\g.1.length<=a/\g.1++iy c.2 ((plain c.1 s).drop a)=dk c s) (fun g=>(plain c.1 s).length-g.2.2.1.toNat) (fun go g V d=>?_) N _ ⟨rfl,rfl,0,rfl,bg _,by simp,by simp[dk]⟩ (by dsimp only;omega)
  obtain⟨out,l,a0,c3,c4⟩:=g
  obtain⟨J,K,a,L,W,fR,f⟩:=V
  dsimp only at J K L fR f d⊢
  cases K
  subst J L
  refine Def.bO (fun X=>?_) (fun Y=>?_)
  .have j:a<(plain c.1 s).length:=by omega
   rw[aji N c.1 c.2 _ a j (by omega) S (fun y hy=>by have:=(k y hy).2.1;omega) v A]
   refine Def.bind (Def.eq rfl) fun r i=>?_
   subst i
   rw[eY j]at f
   cases o:p8 c.2 ((plain c.1 s).drop a)with
   |none=>
    rw[eY j]at o
    rw[QW o]at f
    rw[show(Option.isNone (none:Option eT))=true from rfl,ao,aP j]
    refine Def.bind (Def.eq rfl) fun e he=>?_
    subst he
    refine Def.ite (bW (by simp only[ba,bH];omega) (by simp only[ba,bH];omega)) (Def.ite (aO (n:=a) (by omega)) (d _ ⟨rfl,rfl,a+1,by push_cast;rfl,by omega,by simp;omega,?_⟩ (by dsimp only;omega)))
    dsimp only
    rw[<-f,e5];rfl
   |some y=>
    have t:=o
    rw[eY j]at o
    have hy:=k _ (EE _ _ t).1
    have Z:=H6 (EE _ _ t).2
    rw[eF]at Z
    rw[QN o hy.1,<-eY j,qm]at f
    rw[show(Option.isNone (some y))=false from rfl,aj]
    refine Def.bind (Def.eq rfl) fun p F=>?_
    subst F
    rw[aP j]
    refine Def.bind (Def.eq rfl) fun e he=>?_
    subst he
    refine Def.ite (bW (by simp only[ba,bH];omega) (by simp only[ba,bH];omega)) ?_
    refine Def.bind (Def.eq rfl) fun p F=>?_
    subst F
    refine Def.ite (by unfold fits;omega) (d _ ⟨rfl,rfl,a+p.1.length,by push_cast;rfl,by omega,by simp;omega,?_⟩ (by dsimp only;omega))
    dsimp only
    rw[<-f,e5];rfl
  .refine Def.ret ?_
   rw[mf (by omega),wa,fe]at f
   exact f
 .subst B
  dsimp only
  have hw:=(ya s 0 0 (words s)[n] (br C)).1
  have M:=B3 hw
  have mz:(((words s).take n).filterMap (mO c.1)).length<=n:=dS (tJ _ _) (by simp;omega)
  have b:=Aq (mO c.1) (words s) n C
  rw[aq (by omega:(n:Int)<((words s).length:Int)),ao,aP C,ag,Iq N _ (by omega) (by omega) u,ag,hw,ao,H9 N _ _ (by omega) (by omega),ag]
  by_cases G:(words s)[n].1∈c.1
  .rw [aq G,bf,aj]
   rw[show mO c.1 (words s)[n]=none from ai (.inl G)]at b;simp only[fe]at b
   exact Def.ite (aO (n:=n) (by omega)) (d _ (by rw[b,aS]))
  .rw [an G,dH,ao,H9 N _ _ (by omega) (by omega),ag]
   by_cases H:gl (words s)[n].1∈c.1
   .rw [aq H,bf,aj]
    rw[show mO c.1 (words s)[n]=none from ai (.inr H)]at b;simp only[fe]at b
    exact Def.ite (aO (n:=n) (by omega)) (d _ (by rw[b,aS]))
   .rw [an H,dH,ao]
    rw[show mO c.1 (words s)[n]=some (gl (words s)[n].1,(words s)[n].2.1)from aC (by rintro(h|h)<;>contradiction)]at b;simp only at b
    exact Def.ite (bW (by simp only[ba,bH];omega) (by simp only[ba,bH];omega)) (Def.ite (aO (n:=n) (by omega)) (d _ (by rw[b,aS])))
def l0 (l:List Int) (n:Int):Option Int:=l.find? fun x=>decide (n<x)
def lY :List (List Int)->Int->Option Int
 | [],last=>some last
 |l::r,last=>(l0 l last).bind (lY r)
def oN (P:Int->Bool):List (List Int)->Int->Bool
 | [],last=>P last
 |l::r,last=>l.any fun x=>decide (last<x)&&oN P r x
def iA (l:List Int):Prop:=l.Pairwise fun a b=>a<b
theorem Rs {l:List Int} {n:Int} (h:l0 l n=none):∀x,x∈l->¬n<x:=fun x a=>by
 have:=wv.1 h x a
 simpa using this
theorem vo :∀ {l:List Int} {n v:Int},iA l->l0 l n=some v->v∈l/\n<v/\∀x,x∈l->n<x->v<=x
 | [],_,_,_,h=>by simp[l0]at h
 |a::l,n,v,e,h=>by
  obtain⟨f,g⟩:=en.1 e
  unfold l0 at h
  rw[n0]at h
  by_cases d:n<a
  .rw [aq d]at h
   obtain rfl:a=v:=by simpa using h
   refine⟨cb,d,fun x b _=>?_⟩
   rcases bn.1 b with rfl|b
   .exact ic _
   .exact Int.le_of_lt (f x b)
  .rw [an d]at h
   obtain⟨i,j,k⟩:=vo g (show l0 l n=some v from h)
   refine⟨ch _ i,j,fun x b c=>?_⟩
   rcases bn.1 b with rfl|b
   .exact absurd c d
   .exact k x b c
theorem Pd :∀(r:List (List Int)),(∀l,l∈r->iA l)->∀a b:Int,a<=b->∀e,lY r b=some e->∃d,lY r a=some d/\d<=e
 | [],_,a,b,c,e,h=>by
  obtain rfl:b=e:=by simpa[lY]using h
  exact⟨a,rfl,c⟩
 |l::r,hu,a,b,c,e,h=>by
  unfold lY at h⊢
  obtain⟨x,j,k⟩:=jR.1 h
  obtain⟨g,i,_⟩:=vo (hu l cb) j
  cases hy:l0 l a with
  |none=>exact absurd (Int.lt_of_le_of_lt c i) (Rs hy x g)
  |some y=>
   obtain⟨_,_,o⟩:=vo (hu l cb) hy
   have f:=o x g (Int.lt_of_le_of_lt c i)
   rw[ag]
   exact Pd r (fun l p=>hu l (ch _ p)) y x f e k
theorem CZ (P:Int->Bool) (h:∀a b:Int,a<=b->P b=true->P a=true):∀(r:List (List Int)),(∀l,l∈r->iA l)->∀last:Int,oN P r last=match lY r last with|none=>false|some e=>P e
 | [],_,last=>rfl
 |l::r,hu,last=>by
  have f:∀l,l∈r->iA l:=fun l k=>hu l (ch _ k)
  unfold oN lY
  cases hy:l0 l last with
  |none=>
   rw[Option.bind_none]
   show _=false
   rw[qg]
   intro x i
   have:=Rs hy x i
   simp[this]
  |some y=>
   obtain⟨o,p,s⟩:=vo (hu l cb) hy
   rw[ag]
   have key:(l.any fun x=>decide (last<x)&&oN P r x)=oN P r y:=by
    rw[ma,List.any_eq_true]
    constructor
    .rintro ⟨x,i,g⟩
     rw[a6,bo]at g
     have c:=g.2
     rw[CZ P h r f x]at c
     rw[CZ P h r f y]
     cases he:lY r x with
     |none=>rw[he]at c;cases c
     |some e=>
      rw[he]at c
      obtain⟨d,t,j⟩:=Pd r f y x (s x i g.1) e he
      rw[t]
      exact h d e j c
    .intro g
     exact⟨y,o,by rw[aq p,g];rfl⟩
   rw[key]
   exact CZ P h r f y
theorem aeU {x:Int} (a:0<=x) (b:x<=9223372036854775807):IntKind.i64.wrap ((IntKind.u64.wrap x).fdiv (2^(min (1:Int).toNat (IntKind.bits .u64))))=x/2:=by
 rw[wrap_u64 a (by omega),show(2:Int)^(min (1:Int).toNat (IntKind.bits .u64))=2 from rfl,E5 _ (by omega)]
 exact wrap_i64 (by omega) (by omega)
theorem ac9 (N:Nat) (x y:Int):CL N x y=some (decide (x<y)):=by
 have e:pP N x=some false:=by unfold pP;simp
 unfold CL
 rw[e,ag,aj]
theorem ad4 (N:Nat) (x:Int):yn N x=some false:=by unfold yn;simp
def I0 (l:List Int) (n:Int) (i:Nat):Prop:=i<=l.length/\(∀(k:Nat) (h:k<l.length),k<i->l[k]<n)/\∀(k:Nat) (h:k<l.length),i<=k->n<=l[k]
theorem RL {l:List Int} (hu:iA l) {i j:Nat} (a:j<l.length) (h:i<j):l[i]<l[j]:=gx.1 hu i j (by omega) a h
theorem ado (N:Nat) (u:bC<N) (l:List Int) (n:Int) (hu:iA l) (A:l.length<=1048576):Def (CE N l n) fun r=>∃i:Nat,r.1=(i:Int)/\I0 l n i:=by
 have v:1048576<N:=u
 unfold CE
 refine Def.iter (fun g=>∃i j:Nat,g=(l,n,(l.length:Int),(i:Int),(j:Int))/\i<=j/\j<=l.length/\(∀(k:Nat) (h:k<l.length),k<i->l[k]<n)/\∀(k:Nat) (h:k<l.length),j<=k->n<=l[k]) (fun g=>(g.2.2.2.2-g.2.2.2.1).toNat) ?_ N _ ⟨0,l.length,rfl,by omega,bE _,fun k h o=>by omega,fun k h o=>by omega⟩ (by dsimp only;omega)
 rintro go _ ⟨i,j,rfl,y,s,b,c⟩ d
 dsimp only
 refine Def.bO (fun e=>?_) (fun e=>?_)
 .have hm:=aeU (x:=(i:Int)+(j:Int)) (by omega) (by omega)
  have p:((i:Int)+(j:Int))/2=(((i+j)/2:Nat):Int):=by omega
  rw[p]at hm
  have t:(i+j)/2<l.length:=by omega
  simp only[hm]
  refine Def.ite (by unfold fits;omega) (Def.ite (by omega) ?_)
  rw[aP t,ag,ac9,ag]
  refine Def.bO (fun f=>Def.ite (aO (by omega)) ?_) (fun f=>?_)
  .refine d _ ⟨(i+j)/2+1,j,by rw[aS],by omega,s,fun k h o=>?_,c⟩ (by dsimp only;omega)
   by_cases a:k=(i+j)/2
   .subst a;exact f
   .exact Int.lt_trans (RL hu t (by omega:k<(i+j)/2)) f
  .refine d _ ⟨i,(i+j)/2,rfl,by omega,by omega,b,fun k h o=>?_⟩ (by dsimp only;omega)
   by_cases a:k=(i+j)/2
   .subst a;omega
   .have:=RL hu h (by omega:(i+j)/2<k)
    omega
 .obtain rfl:i=j:=by omega
  have fin:∃m:Nat,(i:Int)=(m:Int)/\I0 l n m:=⟨i,rfl,s,b,c⟩
  refine Def.bO (fun f=>?_) (fun f=>Def.ret fin)
  rw[aP (by omega:i<l.length),ag]
  refine Def.bO (fun z=>Def.ret fin) (fun z=>?_)
  rw[ag,ad4,ag,aj]
  exact Def.ret fin
theorem aeV {l:List Int} {last:Int} {i:Nat} (h:I0 l (last+1) i):l0 l last=l[i]? :=by
 obtain⟨o,d,e⟩:=h
 unfold l0
 by_cases hi:i<l.length
 .rw [bG hi]
  have f:l=l.take i++(l[i]::l.drop (i+1)):=by rw[List.getElem_cons_drop,ko]
  have g:(l.take i).find? (fun x=>decide (last<x))=none:=by
   rw[wv]
   intro x b
   obtain⟨k,c,rfl⟩:=eb.1 b
   have a:k<i/\k<l.length:=by rw[bN]at c;omega
   have:=d k a.2 a.1
   rw[List.getElem_take]
   simp only[bo]
   omega
  have j:last<l[i]:=by have:=e i hi (bE _);omega
  generalize p:l[i]=v at*
  rw[f,List.find?_append,g,Option.none_or,n0,aq j]
 .rw [kM (by omega),wv]
  intro x b
  obtain⟨k,c,rfl⟩:=eb.1 b
  have:=d k c (by omega)
  simp only[bo]
  omega
theorem adI (N:Nat) (b:bC<N) (l:List Int) (last:Int) (hu:iA l) (c:l.length<=1048576):CY N l (last+1)=some (match l0 l last with|none=>(0,false)|some x=>(x,true)):=by
 obtain⟨r,d,i,e,a⟩:=ado N b l (last+1) hu c
 unfold CY
 rw[d,ag,aeV a,e]
 by_cases hi:i<l.length
 .rw [an (by omega),aj,aP hi,ag,bG hi]
 .have:=a.1
  rw[aq (by omega),ao,kM (by omega)]
def jg (l:List Int) (n:Nat):Int:=l[n]?.getD 0
theorem vr {l:List Int} {n:Nat} (h:n<l.length):l[n]=jg l n:=by unfold jg;rw[bG h];rfl
def wi (l:List Int) (n:Nat):Bool:=(decide (0<=jg l n)&&decide (jg l n<=999999999))&&(decide (n=0)|| !decide (jg l n<=jg l (n-1)))
def hO (l:List Int):Bool:=dL l.length (wi l)&&decide ((l.length:Int)<=60)
theorem Pq (N:Nat) (b:bC<N) (e:N<=1099511627776) (l:List Int) (f:l.length<=1048576):yg N l=some (hO l):=by
 have c:1048576<N:=b
 unfold yg
 refine kx _ l.length (fun n=>(l,l,(l.length:Int),(n:Int))) (wi l) _ (fun go=>?_) (fun go n a=>?_) N (by omega)
 .dsimp only
  rw[an (bm _),aj]
 .dsimp only
  have d:fits ((n:Int)+1):=aO (by omega)
  rw[aq (by omega:(n:Int)<l.length),ao,aP a]
  simp only[ag,fB,ai d,aS,vr a]
  unfold wi
  match n,a with
  |0,a=>
   rw[an (by omega:¬(0:Int)<((0:Nat):Int)),aj,aq (rfl:0=0),ly,fD]
   cases(decide (0<=jg l 0)&&decide (jg l 0<=999999999))<;>rfl
  |n+1,a=>
   rw[aq (by omega:(0:Int)<((n+1:Nat):Int)),ao,show((n+1:Nat):Int)-1=(n:Int)from by omega,ai (by unfold fits;omega),aP (by omega:n<l.length),ag,vr (by omega:n<l.length),an (by omega:¬n+1=0),fL,mX]
   cases(decide (0<=jg l (n+1))&&decide (jg l (n+1)<=999999999))<;>cases decide (jg l (n+1)<=jg l n)<;>rfl
theorem RW (N:Nat) (b:bC<N) (e:N<=1099511627776) (l:List Int) (f:l.length<=1048576):yh N l=some (hO l):=by
 have c:1048576<N:=b
 unfold yh
 refine kx _ l.length (fun n=>(l,(n:Int))) (wi l) _ (fun go=>?_) (fun go n a=>?_) N (by omega)
 .dsimp only
  rw[an (bm _),aj]
 .dsimp only
  have d:fits ((n:Int)+1):=aO (by omega)
  rw[aq (by omega:(n:Int)<l.length),ao,aP a]
  simp only[ag,jD,ai d,aS,vr a]
  unfold wi
  match n,a with
  |0,a=>
   rw[an (by omega:¬(0:Int)<((0:Nat):Int)),aj,aq (rfl:0=0),ly,fD]
   cases(decide (0<=jg l 0)&&decide (jg l 0<=999999999))<;>rfl
  |n+1,a=>
   rw[aq (by omega:(0:Int)<((n+1:Nat):Int)),ao,show((n+1:Nat):Int)-1=(n:Int)from by omega,ai (by unfold fits;omega),aP (by omega:n<l.length),ag,vr (by omega:n<l.length),an (by omega:¬n+1=0),fL,mX]
   cases(decide (0<=jg l (n+1))&&decide (jg l (n+1)<=999999999))<;>cases decide (jg l (n+1)<=jg l n)<;>rfl
theorem qc {l:List Int} (h:hO l=true):iA l/\l.length<=60/\∀x,x∈l->0<=x/\x<=999999999:=by
 unfold hO dL at h
 rw[a6,cz,bo]at h
 obtain⟨f,t⟩:=h
 have c:∀(n:Nat) (b:n<l.length),(0<=l[n]/\l[n]<=999999999)/\(n=0\/ ∃h:n-1<l.length,l[n-1]<l[n]):=fun n b=>by
  have:=f n (by simp;omega)
  unfold wi at this
  simp only[a6,lu,bo,nZ,decide_eq_false_iff_not]at this
  rw[<-vr b]at this
  refine⟨this.1,this.2.imp id fun a=>⟨by omega,?_⟩⟩
  rw[vr (by omega:n-1<l.length)]
  omega
 have g:∀(d i:Nat) (hi:i+d+1<l.length),l[i]<l[i+d+1]:=fun d=>by
  induction d with
  |zero=>
   intro i hi
   rcases(c (i+1) hi).2 with a|⟨_,a⟩
   .omega
   .simpa using a
  |succ d k=>
   intro i hi
   have o:=k i (by omega)
   rcases(c (i+d+2) (by omega)).2 with a|⟨_,a⟩
   .omega
   .have p:l[i+d+1]<l[i+d+2]:=by simpa using a
    exact Int.lt_trans o p
 refine⟨gx.2 fun i j hi u r=>?_,by omega,fun x s=>?_⟩
 .have:=g (j-i-1) i (by omega)
  have e:i+(j-i-1)+1=j:=by omega
  simpa only[e]using this
 .obtain ⟨n,b,rfl⟩:=eb.1 s
  exact(c n b).1
def rF (m:Nat) (start a:Int) (e:Int):Bool:=decide (e-start-((m:Int)-1)<=a)
theorem RA (N:Nat) (h:bC<N) (p:N<=1099511627776) (lists:List (List Int)) (j:∀l,l∈lists->l.length<=1048576/\∀x,x∈l->0<=x/\x<=999999999) (r:lists.length<=1048576) (start a:Int) (s:0<=start/\start<=999999999):
  ∀(m D k:Nat),k+m=lists.length->m<D->∀last:Int,0<=last->last<=999999999->sZ N D lists (k:Int) last start a=some (oN (rF lists.length start a) (lists.drop k) last)
 |0,D+1,k,t,_,last,u,v=>by
  have e:(k:Int)=(lists.length:Int):=by omega
  rw[sZ,aq e,ao,ai (by unfold fits;omega),ai (by unfold fits;omega),ai (by unfold fits;omega),mf (by omega)]
  rfl
 |m+1,D+1,k,t,B,last,u,v=>by
  have y:1048576<N:=h
  have b:k<lists.length:=by omega
  have f:=j _ (br b)
  have z:=RA N h p lists j r start a s m D (k+1) (by omega) (by omega)
  rw[sZ,an (by omega:¬(k:Int)=(lists.length:Int)),aj,eY b,oN]
  refine(dh _ lists[k].length (fun i=>(lists,(k:Int),last,start,a,(i:Int))) (fun i=>some ((lists[k].drop i).any fun x=>decide (last<x)&&oN (rF lists.length start a) (lists.drop (k+1)) x)) (fun go=>?_) (fun go i hi c=>?_) N 0 (bg _) (by omega)).trans (by rw[rP])
  .dsimp only
   rw[aP b,ag,an (bm _),aj,me]
   rfl
  .dsimp only
   have A:fits ((i:Int)+1):=aO (by omega)
   have g:fits ((k:Int)+1):=aO (by omega)
   have o:=f.2 _ (br hi)
   have d:=z _ o.1 o.2
   simp only[aS]at c d
   simp only[aP b,ag,aP hi,ai A,ai g,d,c]
   rw[aq (by omega:(i:Int)<lists[k].length),ao,eY hi,qh]
   cases decide (last<lists[k][i])<;>cases oN (rF lists.length start a) (lists.drop (k+1)) lists[k][i]<;>rfl
theorem Gb {α b ρ:Type} (F:(b->Option ρ)->b->Option ρ) (xs:List α) (st:Nat->b) (P:α->Bool) (no:Option ρ) (a:∀go n (i:n<xs.length),F go (st n)=bif P xs[n]then go (st (n+1))else no):
  ∀N n,xs.length-n<N->(∃(k:Nat) (d:k<xs.length),n<=k/\P xs[k]=false)->iter F N (st n)=no
 |0,n,h,_=>by omega
 |N+1,n,h,⟨k,d,f,c⟩=>by
  show F (iter F N) (st n)=no
  rw[a _ n (by omega)]
  cases g:P xs[n]with
  |false=>rfl
  |true=>
   have:n≠k:=fun e=>by subst e;rw[g]at c;cases c
   exact Gb F xs st P no a N (n+1) (by omega) ⟨k,d,by omega,c⟩
theorem adU {α d ρ:Type} (F:(d->Option ρ)->d->Option ρ) (xs:List α) (st:Nat->d) (P:α->Bool) (no fin:Option ρ) (c:xs.all P=true->∀go,F go (st xs.length)=fin)
  (b:∀go n (i:n<xs.length),F go (st n)=bif P xs[n]then go (st (n+1))else no) (N:Nat) (h:xs.length<N):iter F N (st 0)=bif xs.all P then fin else no:=by
 cases a:xs.all P with
 |true=>rw[mr F xs st P no fin (c a) b N h,a]
 |false=>
  refine Gb F xs st P no b N 0 (by omega) ?_
  rw[List.all_eq_false]at a
  obtain⟨x,e,f⟩:=a
  obtain⟨k,g,rfl⟩:=eb.1 e
  exact⟨k,g,by omega,by simpa using f⟩
def jm (lists:List (List Int)) (a p:Int):Bool:=oN (rF lists.length p a) (lists.drop 1) p
def IY (lists:List (List Int)) (a:Int):Bool:=lists.all hO&&((decide ((1:Int)<=lists.length)&&decide ((lists.length:Int)<=6))&&(decide (0<=a)&&decide (a<=5)))
def ry (lists:List (List Int)) (a:Int):List Int:=bif IY lists a then(lists.headD []).filter (jm lists a)else []
theorem adR (N:Nat) (i:bC<N) (t:N<=1099511627776) (lists:List (List Int)) (b:Int) (z:lists.length<=1048576) (u:∀l,l∈lists->l.length<=1048576):CI N lists b=some (ry lists b):=by
 have A:1048576<N:=i
 unfold CI ry IY
 refine(adU _ lists (fun n=>(lists,b,([]:List Int),(n:Int))) hO (some []) (some (bif((decide ((1:Int)<=lists.length)&&decide ((lists.length:Int)<=6))&&(decide (0<=b)&&decide (b<=5)))&&lists.all hO then(lists.headD []).filter (jm lists b)else [])) (fun e go=>?_) (fun go n g=>?_) N (by omega)).trans ?_
 .dsimp only
  rw[an (bm _),aj,jD,ag]
  cases B:(decide ((1:Int)<=lists.length)&&decide ((lists.length:Int)<=6))with
  |false=>rfl
  |true=>
   rw[bf,aj,jD,ag]
   cases C:(decide (0<=b)&&decide (b<=5))with
   |false=>rfl
   |true=>
    rw[bf,aj,e]
    have d:0<lists.length:=by
     rw[a6,bo,bo]at B
     omega
    rw[a6,bo,bo]at C
    have v:∀l,l∈lists->l.length<=1048576/\∀x,x∈l->0<=x/\x<=999999999:=fun l h=>⟨u l h,(qc (cz.1 e l h)).2.2⟩
    have j:=v _ (br d)
    have F:lists.headD []=lists[0]:=by cases lists with|nil=>exact absurd d (by simp)|cons a l=>rfl
    rw[F]
    have o:∀k:Nat,(lists[0].take k|>.filter (jm lists b)).length<=k:=fun k=>dS (ho _ _) (by rw[bN];omega)
    refine(dh _ lists[0].length (fun n=>(lists,b,(lists[0].take n).filter (jm lists b),(n:Int))) (fun n=>some (lists[0].filter (jm lists b))) (fun go2=>?_) (fun go2 n g c=>?_) N 0 (bg _) (by omega)).trans rfl
    .dsimp only
     rw[show(0:Int)=((0:Nat):Int)from rfl,aP d,ag,an (bm _),aj,cj]
    .dsimp only
     have G:fits ((n:Int)+1):=aO (by omega)
     have p:=j.2 _ (br g)
     have r:idx lists (0:Int)=some lists[0]:=aP (n:=0) d
     have H:=RA N i t lists v z lists[0][n] b p (lists.length-1) N 1 (by omega) (by omega) lists[0][n] p.1 p.2
     have s:sZ N N lists 1 lists[0][n] lists[0][n] b=some (jm lists b lists[0][n]):=H
     have f:room ((lists[0].take n).filter (jm lists b)).length ([lists[0][n]]:List Int).length 8:=by
      have:=o n
      refine bW ?_ ?_<;>rw[bS]<;>omega
     simp only[aS,dT g,jP,iY,List.filter_nil]at c
     simp only[r,ag,aP g,s,ai G,ai f]
     rw[aq (by omega:(n:Int)<lists[0].length),ao]
     cases y:jm lists b lists[0][n]with
     |true=>
      rw[y]at c
      exact c
     |false=>
      rw[y]at c
      simpa using c
 .dsimp only
  have:=u _ (br g)
  rw[aq (by omega:(n:Int)<lists.length),ao,aP g,ag,RW N i t _ this,ag,ai (aO (n:=n) (by omega)),aS]
  cases hO lists[n]<;>rfl
 .cases lists.all hO<;>simp
theorem Pf {d ρ:Type} {F:(d->Option ρ)->d->Option ρ} {v:Option ρ} (len:Nat) (I:Nat->d->Prop) (b:∀go g,I len g->F go g=v) (a:∀go n g,n<len->I n g->(∀c,I (n+1) c->go c=v)->F go g=v):∀N n g,n<=len->I n g->len-n<N->iter F N g=v
 |0,n,g,_,_,h=>absurd h (pc _)
 |N+1,n,g,j,i,h=>by
  show F (iter F N) g=v
  by_cases e:n=len
  .subst e;exact b _ g i
  .exact a _ n g (by omega) i fun c f=>Pf len I b a N (n+1) c (by omega) f (by omega)
theorem aen (N:Nat) (a:bC<N) (c:N<=1099511627776) (lists:List (List Int)) (f:lists.length<=1048576) (d:∀l,l∈lists->l.length<=1048576):CH N lists=some (lists.all hO&&decide ((lists.length:Int)<=6)):=by
 have e:1048576<N:=a
 unfold CH
 refine(mr _ lists (fun n=>(lists,lists,(lists.length:Int),(n:Int))) hO (some false) (some (decide ((lists.length:Int)<=6))) (fun go=>?_) (fun go n b=>?_) N (by omega)).trans (by cases lists.all hO<;>rfl)
 .dsimp only
  rw[an (bm _),aj]
 .dsimp only
  have:=d _ (br b)
  rw[aq (by omega:(n:Int)<lists.length),ao,aP b,ag,Pq N a c _ this,ag,ai (aO (n:=n) (by omega)),aS]
  cases hO lists[n]<;>rfl
theorem aey (lists:List (List Int)) (hu:∀l,l∈lists->iA l) (c p:Int):jm lists c p=match lY (lists.drop 1) p with|none=>false|some e=>rF lists.length p c e:=by
 unfold jm
 refine CZ _ (fun a b d h=>?_) _ (fun l f=>hu l (qi f)) p
 unfold rF at h⊢
 rw[bo]at h⊢
 omega
theorem adM (N:Nat) (y:bC<N) (I:N<=1099511627776) (lists:List (List Int)) (b:Int) (J:lists.length<=1048576) (K:∀l,l∈lists->l.length<=1048576):C0 N lists b=some (ry lists b):=by
 have L:1048576<N:=y
 unfold C0 IV ry IY
 rw[aen N y I lists J K,fB,ag]
 by_cases i:0<lists.length
 case neg=>
  rw[an (by omega:¬(0:Int)<lists.length),an (by omega:¬(1:Int)<=lists.length)]
  cases lists.all hO<;>rfl
 rw[aq (by omega:(0:Int)<lists.length),aq (by omega:(1:Int)<=lists.length),ao,cl,ag]
 cases r:lists.all hO with
 |false=>rfl
 |true=>
  cases M:decide ((lists.length:Int)<=6)with
  |false=>rfl
  |true=>
   rw[cl,bf,aj,ag]
   cases O:(decide (0<=b)&&decide (b<=5))with
   |false=>rfl
   |true=>
    rw[a6,bo,bo]at O
    rw[bo]at M
    have j:∀l,l∈lists->iA l/\l.length<=60/\∀x,x∈l->0<=x/\x<=999999999:=fun l o=>qc (cz.1 r l o)
    have z:=j _ (br i)
    have P:lists.headD []=lists[0]:=by cases lists with|nil=>exact absurd i (by simp)|cons a l=>rfl
    have A:idx lists (0:Int)=some lists[0]:=aP (n:=0) i
    have s:cut lists 1 (lists.length:Int)=some (lists.drop 1):=by
     unfold cut
     rw[ai ⟨by omega,by omega,ic _⟩,eg,cj]
     rfl
    rw[bf,aj,A,ag,P]
    refine(dh _ lists[0].length (fun n=>(lists,b,(lists[0].take n).filter (jm lists b),lists[0],(lists[0].length:Int),(n:Int))) (fun n=>some (lists[0].filter (jm lists b))) (fun go=>?_) (fun go n B d=>?_) N 0 (bg _) (by omega)).trans rfl
    .dsimp only
     rw[an (bm _),aj,cj]
    .dsimp only
     have C:fits ((n:Int)+1):=aO (by omega)
     have Q:=z.2.2 _ (br B)
     have p:room ((lists[0].take n).filter (jm lists b)).length ([lists[0][n]]:List Int).length 8:=by
      have:(lists[0].take n|>.filter (jm lists b)).length<=n:=dS (ho _ _) (by rw[bN];omega)
      refine bW ?_ ?_<;>rw[bS]<;>omega
     simp only[aS,dT B,jP,iY,List.filter_nil]at d
     rw[aq (by omega:(n:Int)<lists[0].length),ao,aP B,ag,s,ag]
     refine Pf (lists.drop 1).length (fun k g=>∃(last:Int) (ok:Bool),g=(lists,b,(lists[0].take n).filter (jm lists b),lists[0][n],last,ok,lists[0],(lists[0].length:Int),(n:Int),lists.drop 1,((lists.drop 1).length:Int),(k:Int))/\(0<=last/\last<=999999999)/\((ok=true/\lY ((lists.drop 1).drop k) last=lY (lists.drop 1) lists[0][n])\/(ok=false/\lY (lists.drop 1) lists[0][n]=none))) (fun go2 g F=>?_) (fun go2 k g u F e=>?_) N 0 _ (bg _) ⟨lists[0][n],true,rfl,Q,.inl ⟨rfl,by rw[rP]⟩⟩ (by rw[eF];omega)
     .obtain ⟨last,ok,rfl,S,G⟩:=F
      dsimp only
      rw[an (bm _),aj]
      have f:=aey lists (fun l o=>(j l o).1) b lists[0][n]
      rcases G with⟨rfl,c⟩|⟨rfl,c⟩
      .rw [me]at c
       rw[<-c]at f
       have t:jm lists b lists[0][n]=decide (last<=lists[0][n]+(lists.length:Int)-1+b):=by
        rw[f]
        show rF _ _ _ last=_
        unfold rF
        congr 1
        exact propext ⟨fun h=>by omega,fun h=>by omega⟩
       rw[ao,ai (by unfold fits;omega),ai (by unfold fits;omega),ai (by unfold fits;omega),<-t,ai p,ai C]
       cases v:jm lists b lists[0][n]with
       |true=>rw[v]at d;exact d
       |false=>
        rw[v]at d
        simp only[aj,ai C]
        simpa using d
      .rw [c]at f
       rw[aj,ai C]
       have v:jm lists b lists[0][n]=false:=f
       rw[v]at d
       simpa using d
     .obtain ⟨last,ok,rfl,S,G⟩:=F
      dsimp only
      have hm:=j _ (qi (br u))
      have H:fits ((k:Int)+1):=aO (by rw[eF]at u;omega)
      rw[aq (by omega:(k:Int)<((lists.drop 1).length:Int)),ao,aP u,ag,ai (by unfold fits;omega),adI N y _ last hm.1 (by omega),ag]
      simp only[ai H]
      rcases G with⟨rfl,c⟩|⟨rfl,c⟩
      .rw [ao]
       rw[eY u,lY]at c
       cases hy:l0 (lists.drop 1)[k] last with
       |none=>
        rw[hy,Option.bind_none]at c
        exact e _ ⟨0,false,by rw[aS],⟨by omega,by omega⟩,.inr ⟨rfl,c.symm⟩⟩
       |some x=>
        rw[hy,ag]at c
        exact e _ ⟨x,true,by rw[aS],hm.2.2 _ (vo hm.1 hy).1,.inl ⟨rfl,c⟩⟩
      .rw [aj]
       cases hy:l0 (lists.drop 1)[k] last with
       |none=>exact e _ ⟨0,false,by rw[aS],⟨by omega,by omega⟩,.inr ⟨rfl,c⟩⟩
       |some x=>exact e _ ⟨x,false,by rw[aS],hm.2.2 _ (vo hm.1 hy).1,.inr ⟨rfl,c⟩⟩
theorem adQ (sep:List UInt8):e9 [] sep=[]:=rfl
theorem IM (xs:List (List UInt8)) (x sep:List UInt8):e9 (xs++ [x]) sep=match xs with| []=>x|_::_=>e9 xs sep++sep++x:=by
 unfold e9
 cases xs with
 |nil=>exact Lib.join_one x sep
 |cons a r=>
  show Lib.join (a::(r++ [x])) sep=Lib.join (a::r) sep++sep++x
  rw[Lib.join_cons,Lib.join_cons]
  unfold Lib.joinTail
  simp[e5]
theorem yd (xs:List (List UInt8)) (sep:List UInt8) (b:sep.length<=1048576) (a:∀x,x∈xs->x.length<=1048576):∀n,n<=xs.length->(e9 (xs.take n) sep).length<=n*2097152
 |0,_=>by simp[adQ]
 |n+1,c=>by
  have d:=yd xs sep b a n (by omega)
  have:=a _ (br (show n<xs.length by omega))
  rw[dT (by omega:n<xs.length),IM]
  split
  .omega
  .rename_i h
   rw[bh,bh]
   omega
theorem Rk (N:Nat) (f:bC<N) (o:N<=1099511627776) (xs:List (List UInt8)) (sep:List UInt8) (p:xs.length<=1048576) (g:sep.length<=1048576) (d:∀x,x∈xs->x.length<=1048576):yj N xs sep=some (e9 xs sep):=by
 have i:1048576<N:=f
 unfold yj
 refine(dh _ xs.length (fun n=>(xs,sep,e9 (xs.take n) sep,(n:Int))) (fun n=>some (e9 xs sep)) (fun go=>?_) (fun go n c b=>?_) N 0 (bg _) (by omega)).trans rfl
 .dsimp only
  rw[an (bm _),aj,cj]
 .dsimp only
  have j:fits ((n:Int)+1):=aO (by omega)
  have k:=yd xs sep g d n (by omega)
  have l:=d _ (br c)
  simp only[aS,dT c,IM]at b
  rw[aq (by omega:(n:Int)<xs.length),ao]
  unfold meet
  simp only[aP c,ag,ai j]
  cases n with
  |zero=>
   rw[an (by omega:¬(0:Int)<((0:Nat):Int)),aj,ai (by omega)]
   exact b
  |succ n=>
   have e:∃a r,xs.take (n+1)=a::r:=by
    cases h:xs.take (n+1)with
    |nil=>have:=congrArg List.length h;rw[bN]at this;simp only[bH]at this;omega
    |cons a r=>exact⟨a,r,rfl⟩
   obtain⟨a,r,e⟩:=e
   rw[e]at b k⊢
   rw[aq (by omega:(0:Int)<((n+1:Nat):Int)),ao,ai (by omega),ai (by rw[bh];omega)]
   exact b
theorem Q9 (N:Nat) (xs:List (List UInt8)) (sep:List UInt8) (c:xs.length<=1048576) (a:sep.length<=1048576) (b:∀x,x∈xs->x.length<=1048576):yp N xs sep=some (e9 xs sep):=by
 have h:=yd xs sep a b xs.length (bE _)
 rw[cj]at h
 unfold yp yi
 rw[ai ⟨by omega,by omega⟩]
theorem RB {s:List UInt8} (h:okW s=true):fI s=true/\s.length<=12:=by
 unfold okW dL at h
 unfold fI dL
 rw[a6,cz,a6,bo,bo]at h
 refine⟨?_,by omega⟩
 rw[a6,cz,bo]
 refine⟨fun n a=>?_,by omega⟩
 have:=h.1 n a
 unfold fX at this
 simp only[lu,a6,bo]at this
 rw[an (by omega:¬eV s n<32),an (by omega:¬126<eV s n)]
 rfl
def EH (c:aK) (s:List UInt8):List UInt8:=match dk c s with| []=>[]|t::_=>t.1
theorem Pc (l:List dv):(bif decide ((l.length:Int)=0)then some []else Option.bind (idx l 0) fun(e:(List UInt8)×Int)=>some e.1)=some (match l with| []=>[]|t::_=>t.1):=by
 cases l with
 |nil=>rfl
 |cons t l=>rw[an (by rw[ba];omega),aj];rfl
theorem aaW (N:Nat) (c:aK) (s:List UInt8) (a:bC<N) (b:N<=1099511627776) (d:cH bC gJ c) (e:dQ c=true) (hw:okW s=true):CJ N c.1 c.2 s=some (EH c s):=by
 have f:1048576<N:=a
 obtain⟨g,h⟩:=RB hw
 unfold CJ
 rw[l7 N s (by omega) b,ag,hw,bf,aj,EJ N c s (by omega) a b d,ag,e,g,fD,ao]
 exact Pc _
theorem aqD (N:Nat) (c:aK) (s:List UInt8) (b:bC<N) (d:N<=1099511627776) (f:cH bC gJ c) (e:dQ c=true) (hw:okW s=true):CG N c.1 c.2 s=some (EH c s):=by
 have a:1048576<N:=b
 obtain⟨g,h⟩:=RB hw
 unfold CG
 rw[Dd N b d c f,ag,e,bf,aj,oH N s (by omega) d,ag,hw,bf,aj,yu N c s (by omega) a e,ag]
 exact Pc _
def jG :List gz->List UInt8->Int
 | [],_=> -1
 |e::l,name=>bif decide (e.1=name)then e.2 else jG l name
theorem anO (N:Nat) (c:bC<N) (f:N<=1099511627776) (d:Int) (d2:List eo) (d3:List gz) (name:List UInt8) (g:d3.length<=1048576):CT N d d2 d3 name=some (jG d3 name):=by
 have e:1048576<N:=c
 unfold CT
 refine(dh _ d3.length (fun n=>(name,(n:Int),d,d2,d3)) (fun n=>some (jG (d3.drop n) name)) (fun go=>?_) (fun go n b a=>?_) N 0 (bg _) (by omega)).trans rfl
 .dsimp only
  rw[an (bm _),aj,me]
  rfl
 .dsimp only
  simp only[aS]at a
  rw[aq (by omega:(n:Int)<d3.length),ao,aP b]
  simp only[ag,ai (aO (n:=n) (by omega)),a]
  rw[eY b,jG]
  cases decide (d3[n].1=name)<;>rfl
theorem XE (N:Nat) (b:bC<N) (e:N<=1099511627776) (d:Int) (d2:List eo) (d3:List gz) (name:List UInt8) (f:cH bC fN (d,d2,d3)) (g:gF (d,d2,d3)=true) (i:d3.length<=1048576):CV N d d2 d3 name=some (jG d3 name):=by
 have h:1048576<N:=b
 unfold CV
 rw[Aj N b e d d2 d3 f,ag,g,ao]
 refine(dh _ d3.length (fun n=>(name,d3,(d3.length:Int),(n:Int))) (fun n=>some (jG (d3.drop n) name)) (fun go=>?_) (fun go n c a=>?_) N 0 (bg _) (by omega)).trans rfl
 .dsimp only
  rw[an (bm _),aj,me]
  rfl
 .dsimp only
  simp only[aS]at a
  rw[aq (by omega:(n:Int)<d3.length),ao,aP c]
  simp only[ag,ai (aO (n:=n) (by omega)),a]
  rw[eY c,jG]
  cases decide (d3[n].1=name)<;>rfl
end Go.Proofs.YtnkagklajgimlaaGreatDoor
