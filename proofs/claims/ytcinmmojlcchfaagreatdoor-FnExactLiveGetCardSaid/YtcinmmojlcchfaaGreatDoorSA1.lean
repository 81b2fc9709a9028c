import Derived.Test.YtcinmmojlcchfaaGreatDoorFS
set_option linter.unusedVariables false
set_option linter.unusedSimpArgs false
namespace Go.Proofs.YtcinmmojlcchfaaGreatDoor
open Go.RowKit
theorem jG {δ:Type} (F:(δ->Option Bool)->δ->Option Bool) (len:Nat) (st:Nat->δ) (chk:Nat->Bool) (fin:Bool) (hend:∀go,F go (st len)=some fin)
  (hstep:∀go n,n<len->F go (st n)=bif chk n then go (st (n+1))else some false) (N:Nat) (h:len<N):iter F N (st 0)=some (((List.range' 0 len).all chk)&&fin):=by
 have key:=iter_scan F len st (fun n=>some (((List.range' n (len-n)).all chk)&&fin)) (fun go=>by rw[hend,Nat.sub_self];simp) (fun go n hn hgo=>?_) N 0 (zaf _) (by omega)
 .simpa using key
 .rw [hstep go n hn,hgo,show len-n=(len-(n+1))+1 from by omega,List.range'_succ,List.all_cons]
  cases chk n<;>simp
def allN (len:Nat) (chk:Nat->Bool):Bool:=(List.range' 0 len).all chk
theorem bytesLess_or :∀(x y:List UInt8),(Op.bytesLess x y||decide (x=y))= !Op.bytesLess y x
 | [],[]=>by simp[Op.bytesLess]
 |_::_,[]=>by simp[Op.bytesLess]
 | [],_::_=>by simp[Op.bytesLess]
 |a::x,b::y=>by
  have ih:=bytesLess_or x y
  simp only[Op.bytesLess]
  rcases zbl a.toNat b.toNat with h|h|h
  .have h1:a<b:=UInt8.lt_iff_toNat_lt.2 h
   have h2:¬b<a:=fun e=>by have:=UInt8.lt_iff_toNat_lt.1 e;omega
   have h3:¬b=a:=fun e=>by rw[e]at h;omega
   simp[h1,h2,h3]
  .have h1:a=b:=UInt8.toNat_inj.1 h
   subst h1
   have h2:¬a<a:=fun e=>by have:=UInt8.lt_iff_toNat_lt.1 e;omega
   simpa[h2]using ih
  .have h1:b<a:=UInt8.lt_iff_toNat_lt.2 h
   have h2:¬a<b:=fun e=>by have:=UInt8.lt_iff_toNat_lt.1 e;omega
   have h3:¬a=b:=fun e=>by rw[e]at h;omega
   simp[h1,h2,h3]
def wB (n:Int):Bool:=(decide (97<=n)&&decide (n<=122))||(decide (48<=n)&&decide (n<=57))
theorem jeg (N:Nat) (n:Int):jaw N n=some (wB n):=by
 unfold jaw wB
 cases decide (97<=n)<;>cases decide (n<=122)<;>cases decide (48<=n)<;>cases decide (n<=57)<;>rfl
theorem jqB :∀n:Nat,n<256->(match jt 0 (n:Int)with|some r=>(decide (r=(n:Int))&& !decide ((n:Int)=0))==wB n|none=>false)=true:=by decide+kernel
theorem jsO (N:Nat) (c:UInt8):∃r,jt N (c.toNat:Int)=some r/\(decide (r=(c.toNat:Int))&& !decide ((c.toNat:Int)=0))=wB c.toNat:=by
 have h:=jqB c.toNat (UInt8.toNat_lt c)
 have e:jt N (c.toNat:Int)=jt 0 (c.toNat:Int):=rfl
 rw[e]
 cases hr:jt 0 (c.toNat:Int)with
 |none=>rw[hr]at h;cases h
 |some r=>rw[hr]at h;exact⟨r,rfl,by simpa using h⟩
def atB (s:List UInt8) (n:Nat):Int:=((s[n]?.getD 0).toNat:Int)
theorem jbL {s:List UInt8} {n:Nat} (h:n<s.length):(s[n].toNat:Int)=atB s n:=by unfold atB;rw[zc h];rfl
theorem jJR (N:Nat) (n a b:Int):jm N n a b=some (decide (a<=n)&&decide (n<=b)):=by
 unfold jm;cases decide (a<=n)<;>rfl
theorem jJO (N:Nat) (n a b:Int):jJ N n a b=some (decide (a<=n)&&decide (n<=b)):=by
 unfold jJ;cases decide (a<=n)<;>rfl
def okW (s:List UInt8):Bool:=allN s.length (fun n=>wB (atB s n))&&(decide ((1:Int)<=s.length)&&decide ((s.length:Int)<=12))
theorem jaJ (N:Nat) (s:List UInt8) (h:s.length<N) (hN:N<=1099511627776):jO N s=some (okW s):=by
 unfold jO
 refine jG _ s.length (fun n=>(s,(s.length:Int),(n:Int))) (fun n=>wB (atB s n)) _ (fun go=>?_) (fun go n hn=>?_) N h
 .dsimp only
  rw[zd (zcd _),ze,jJR,za]
 .dsimp only
  rw[zb (by omega:(n:Int)<s.length),zg,idx_at hn,za,jeg,za,jbL hn,zf (fits_nat (n:=n) (by omega)),cast_succ']
  cases wB (atB s n)<;>rfl
theorem ja7 (N:Nat) (s:List UInt8) (h:s.length<N) (hN:N<=1099511627776):jT N s=some (okW s):=by
 unfold jT
 refine jG _ s.length (fun n=>(s,(n:Int))) (fun n=>wB (atB s n)) _ (fun go=>?_) (fun go n hn=>?_) N h
 .dsimp only
  rw[zd (zcd _),ze,jJO,za]
 .dsimp only
  obtain⟨r,h1,h2⟩:=jsO N s[n]
  rw[zb (by omega:(n:Int)<s.length),zg,idx_at hn,za,h1,za,za,za,zf (fits_nat (n:=n) (by omega)),cast_succ',<-jbL hn,<-h2]
  cases decide (r=(s[n].toNat:Int))<;>cases decide ((s[n].toNat:Int)=0)<;>rfl
def okT (s:List UInt8):Bool:=allN s.length (fun n=> !decide (atB s n<32)&& !decide (126<atB s n))&&decide ((s.length:Int)<=160)
theorem jdd (N:Nat) (s:List UInt8) (h:s.length<N) (hN:N<=1099511627776):jaF N s=some (okT s):=by
 unfold jaF
 refine jG _ s.length (fun n=>(s,(s.length:Int),(n:Int))) (fun n=> !decide (atB s n<32)&& !decide (126<atB s n)) _ (fun go=>?_) (fun go n hn=>?_) N h
 .dsimp only
  rw[zd (zcd _),ze]
 .dsimp only
  rw[zb (by omega:(n:Int)<s.length),zg,idx_at hn,za,za,jbL hn,zf (fits_nat (n:=n) (by omega)),cast_succ']
  cases decide (atB s n<32)<;>cases decide (126<atB s n)<;>rfl
theorem jmP (N:Nat) (s:List UInt8) (h:s.length<N) (hN:N<=1099511627776):jcu N s=some (okT s):=by
 unfold jcu
 refine jG _ s.length (fun n=>(s,(n:Int))) (fun n=> !decide (atB s n<32)&& !decide (126<atB s n)) _ (fun go=>?_) (fun go n hn=>?_) N h
 .dsimp only
  rw[zd (zcd _),ze]
 .dsimp only
  rw[zb (by omega:(n:Int)<s.length),zg,idx_at hn,za,za,jbL hn,zf (fits_nat (n:=n) (by omega)),cast_succ']
  cases decide (atB s n<32)<;>cases decide (126<atB s n)<;>rfl
def ahd (p e:List UInt8):Bool:=Op.bytesLess p e
def fAt (xs:List EField) (n:Nat):EField:=xs[n]?.getD ([],[])
def aAt (xs:List EAttr) (n:Nat):EAttr:=xs[n]?.getD ([],0)
theorem fAt_eq {xs:List EField} {n:Nat} (h:n<xs.length):xs[n]=fAt xs n:=by unfold fAt;rw[zc h];rfl
theorem aAt_eq {xs:List EAttr} {n:Nat} (h:n<xs.length):xs[n]=aAt xs n:=by unfold aAt;rw[zc h];rfl
def okF (xs:List EField) (n:Nat):Bool:=okW (fAt xs n).1&&okT (fAt xs n).2&&(decide (n=0)||ahd (fAt xs (n-1)).1 (fAt xs n).1)
def okA (xs:List EAttr) (n:Nat):Bool:=okW (aAt xs n).1&&(decide (0<=(aAt xs n).2)&&decide ((aAt xs n).2<=999999999))&&(decide (n=0)||ahd (aAt xs (n-1)).1 (aAt xs n).1)
def okDoc (x:EDoc):Bool:=(decide (1<=x.1)&&decide (x.1<=9999))&&decide ((x.2.1.length:Int)<=3)&&decide ((x.2.2.length:Int)<=3)&&allN x.2.1.length (okF x.2.1)&&allN x.2.2.length (okA x.2.2)
theorem docOk_spec (N:Nat) (hM:Sm<N) (hN:N<=1099511627776) (d:Int) (fs:List EField) (ats:List EAttr) (ho:okD Sm TDoc (d,fs,ats)):i_DocOk_m N d fs ats=some (okDoc (d,fs,ats)):=by
 have hfl:List.length fs<=1048576:=ho.2.1.1
 have hal:List.length ats<=1048576:=ho.2.2.1
 have hM':1048576<N:=hM
 unfold i_DocOk_m
 rw[jJR,za]
 unfold okDoc
 dsimp only
 cases h1:(decide (1<=d)&&decide (d<=9999))with
 |false=>rfl
 |true=>
  rw[zn,ze,zaj]
  by_cases h2:(3:Int)<fs.length
  .rw [zb h2,zg,zd (by omega:¬(fs.length:Int)<=3)];rfl
  rw[zd h2,ze,zb (by omega:(fs.length:Int)<=3),zaj]
  by_cases h3:(3:Int)<ats.length
  .rw [zb h3,zg,zd (by omega:¬(ats.length:Int)<=3)];rfl
  rw[zd h3,ze,zb (by omega:(ats.length:Int)<=3),zaj]
  refine jG _ fs.length (fun n=>(fs,(fs.length:Int),(n:Int),d,fs,ats)) (okF fs) _ (fun go=>?_) (fun go n hn=>?_) N (by omega)
  .dsimp only
   rw[zd (zcd _),ze]
   refine(jG _ ats.length (fun n=>(ats,(ats.length:Int),(n:Int),d,fs,ats)) (okA ats) true (fun go=>?_) (fun go n hn=>?_) N (by omega)).trans (by rw[zaV];rfl)
   .dsimp only
    rw[zd (zcd _),ze]
   .dsimp only
    have hx:=ho.2.2.2 ats[n] (zr hn)
    have hx1:List.length ats[n].1<=1048576:=hx.1
    rw[zb (by omega:(n:Int)<ats.length),zg,idx_at hn,za,jaJ N _ (by omega) hN,za,jJR,za,zf (fits_nat (n:=n) (by omega)),cast_succ']
    unfold okA ahd
    rw[<-aAt_eq hn]
    cases okW ats[n].1 with
    |false=>rfl
    |true=>
     cases(decide (0<=ats[n].2)&&decide (ats[n].2<=999999999))with
     |false=>rfl
     |true=>
      rw[zn,ze,ze,zaj,zaj]
      cases n with
      |zero=>rfl
      |succ n=>
       rw[zb (by omega:(0:Int)<((n+1:Nat):Int)),zg,zf (by unfold fits;omega),show(((n+1:Nat):Int)-1)=(n:Int)from by omega,idx_at (by omega),za,aAt_eq (n:=n) (by omega),zd (by omega:¬n+1=0),zbf,zbq]
       cases Op.bytesLess (aAt ats n).1 ats[n+1].1<;>rfl
  .dsimp only
   have hx:=ho.2.1.2 fs[n] (zr hn)
   have hx1:List.length fs[n].1<=1048576:=hx.1
   have hx2:List.length fs[n].2<=1048576:=hx.2
   rw[zb (by omega:(n:Int)<fs.length),zg,idx_at hn,za,jaJ N _ (by omega) hN,za,jdd N _ (by omega) hN,za,zf (fits_nat (n:=n) (by omega)),cast_succ']
   unfold okF ahd
   rw[<-fAt_eq hn]
   cases okW fs[n].1 with
   |false=>rfl
   |true=>
    cases okT fs[n].2 with
    |false=>rfl
    |true=>
     rw[zn,ze,ze,zaj,zaj]
     cases n with
     |zero=>rfl
     |succ n=>
      rw[zb (by omega:(0:Int)<((n+1:Nat):Int)),zg,zf (by unfold fits;omega),show(((n+1:Nat):Int)-1)=(n:Int)from by omega,idx_at (by omega),za,fAt_eq (n:=n) (by omega),zd (by omega:¬n+1=0),zbf,zbq]
      cases Op.bytesLess (fAt fs n).1 fs[n+1].1<;>rfl
theorem l6Ok_spec (N:Nat) (hM:Sm<N) (hN:N<=1099511627776) (d:Int) (fs:List EField) (ats:List EAttr) (ho:okD Sm TDoc (d,fs,ats)):jcb N d fs ats=some (okDoc (d,fs,ats)):=by
 have hfl:List.length fs<=1048576:=ho.2.1.1
 have hal:List.length ats<=1048576:=ho.2.2.1
 have hM':1048576<N:=hM
 unfold jcb
 refine(jG _ fs.length (fun n=>((n:Int),d,fs,ats)) (okF fs) (allN ats.length (okA ats)&&((decide (1<=d)&&decide (d<=9999))&&decide ((fs.length:Int)<=3)&&decide ((ats.length:Int)<=3))) (fun go=>?_) (fun go n hn=>?_) N (by omega)).trans ?_
 .dsimp only
  rw[zd (zcd _),ze]
  refine(jG _ ats.length (fun n=>((n:Int),d,fs,ats)) (okA ats) ((decide (1<=d)&&decide (d<=9999))&&decide ((fs.length:Int)<=3)&&decide ((ats.length:Int)<=3)) (fun go=>?_) (fun go n hn=>?_) N (by omega)).trans rfl
  .dsimp only
   rw[zd (zcd _),ze,jJO,za,jJO,za,zb (by omega:(0:Int)<=fs.length),zaj]
   cases(decide (1<=d)&&decide (d<=9999))<;>cases decide ((fs.length:Int)<=3)<;>rfl
  .dsimp only
   have hx:=ho.2.2.2 ats[n] (zr hn)
   have hx1:List.length ats[n].1<=1048576:=hx.1
   rw[zb (by omega:(n:Int)<ats.length),zg,idx_at hn,za,ja7 N _ (by omega) hN,za,za,jJO,za,za,zf (fits_nat (n:=n) (by omega)),cast_succ']
   unfold okA ahd
   rw[<-aAt_eq hn]
   cases okW ats[n].1 with
   |false=>rfl
   |true=>
    cases(decide (0<=ats[n].2)&&decide (ats[n].2<=999999999))with
    |false=>rfl
    |true=>
     rw[zn,ze,ze,zaj,zaj]
     cases n with
     |zero=>rfl
     |succ n=>
      rw[zb (by omega:(0:Int)<((n+1:Nat):Int)),zg,zf (by unfold fits;omega),show(((n+1:Nat):Int)-1)=(n:Int)from by omega,idx_at (by omega),za,aAt_eq (n:=n) (by omega),zd (by omega:¬n+1=0),zbf,zbq,bytesLess_or]
      cases Op.bytesLess (aAt ats n).1 ats[n+1].1<;>rfl
 .dsimp only
  have hx:=ho.2.1.2 fs[n] (zr hn)
  have hx1:List.length fs[n].1<=1048576:=hx.1
  have hx2:List.length fs[n].2<=1048576:=hx.2
  rw[zb (by omega:(n:Int)<fs.length),zg,idx_at hn,za,ja7 N _ (by omega) hN,za,jmP N _ (by omega) hN,za,zf (fits_nat (n:=n) (by omega)),cast_succ']
  unfold okF ahd
  rw[<-fAt_eq hn]
  cases okW fs[n].1 with
  |false=>rfl
  |true=>
   cases okT fs[n].2 with
   |false=>rfl
   |true=>
    rw[zn,ze,ze,zaj,zaj]
    cases n with
    |zero=>rfl
    |succ n=>
     rw[zb (by omega:(0:Int)<((n+1:Nat):Int)),zg,zf (by unfold fits;omega),show(((n+1:Nat):Int)-1)=(n:Int)from by omega,idx_at (by omega),za,fAt_eq (n:=n) (by omega),zd (by omega:¬n+1=0),zbf,zbq,bytesLess_or]
     cases Op.bytesLess (fAt fs n).1 fs[n+1].1<;>rfl
 .have e:∀a b c d e:Bool,(a&&(b&&(c&&d&&e)))=(c&&d&&e&&a&&b):=by decide
  unfold okDoc
  dsimp only
  exact congrArg some (e _ _ _ _ _)
def dAt (xs:List EDoc) (n:Nat):EDoc:=xs[n]?.getD (0,[],[])
theorem dAt_eq {xs:List EDoc} {n:Nat} (h:n<xs.length):xs[n]=dAt xs n:=by unfold dAt;rw[zc h];rfl
def okDc (xs:List EDoc) (n:Nat):Bool:=okDoc (dAt xs n)&&(decide (n=0)|| !decide ((dAt xs n).1<=(dAt xs (n-1)).1))
def okDocs (xs:List EDoc):Bool:=allN xs.length (okDc xs)&&decide ((xs.length:Int)<=16)
theorem docsOk_spec (N:Nat) (hM:Sm<N) (hN:N<=1099511627776) (xs:List EDoc) (ho:∀x,x∈xs->okD Sm TDoc x) (hl:xs.length<=1048576):jbf N xs=some (okDocs xs):=by
 have hM':1048576<N:=hM
 unfold jbf
 refine jG _ xs.length (fun n=>(xs,xs,(xs.length:Int),(n:Int))) (okDc xs) _ (fun go=>?_) (fun go n hn=>?_) N (by omega)
 .dsimp only
  rw[zd (zcd _),ze]
 .dsimp only
  rw[zb (by omega:(n:Int)<xs.length),zg,idx_at hn,za,docOk_spec N hM hN xs[n].1 xs[n].2.1 xs[n].2.2 (ho xs[n] (zr hn)),za,zf (fits_nat (n:=n) (by omega)),cast_succ']
  unfold okDc
  rw[<-dAt_eq hn]
  cases okDoc xs[n]with
  |false=>rfl
  |true=>
   rw[zn,ze,zaj]
   cases n with
   |zero=>rfl
   |succ n=>
    rw[zb (by omega:(0:Int)<((n+1:Nat):Int)),zg,zf (by unfold fits;omega),show(((n+1:Nat):Int)-1)=(n:Int)from by omega,idx_at (by omega),za,dAt_eq (n:=n) (by omega),zd (by omega:¬n+1=0),zbf,zbq]
    cases decide (xs[n+1].1<=(dAt xs n).1)<;>rfl
theorem l6Docs_spec (N:Nat) (hM:Sm<N) (hN:N<=1099511627776) (xs:List EDoc) (ho:∀x,x∈xs->okD Sm TDoc x) (hl:xs.length<=1048576):jbU N xs=some (okDocs xs):=by
 have hM':1048576<N:=hM
 unfold jbU
 refine jG _ xs.length (fun n=>(xs,(n:Int))) (okDc xs) _ (fun go=>?_) (fun go n hn=>?_) N (by omega)
 .dsimp only
  rw[zd (zcd _),ze]
 .dsimp only
  rw[zb (by omega:(n:Int)<xs.length),zg,idx_at hn,za,l6Ok_spec N hM hN xs[n].1 xs[n].2.1 xs[n].2.2 (ho xs[n] (zr hn)),za,za,zf (fits_nat (n:=n) (by omega)),cast_succ']
  unfold okDc
  rw[<-dAt_eq hn]
  cases okDoc xs[n]with
  |false=>rfl
  |true=>
   rw[zn,ze,zaj]
   cases n with
   |zero=>rfl
   |succ n=>
    rw[zb (by omega:(0:Int)<((n+1:Nat):Int)),zg,zf (by unfold fits;omega),show(((n+1:Nat):Int)-1)=(n:Int)from by omega,idx_at (by omega),za,dAt_eq (n:=n) (by omega),zd (by omega:¬n+1=0),zbf,zbq]
    cases decide (xs[n+1].1<=(dAt xs n).1)<;>rfl
abbrev jah :=List UInt8×Int×Int×Int
def fo (n:Int):Int:=if 65<=n/\n<=90 then n+32 else if wB n=true then n else 0
theorem jq2 :∀n:Nat,n<256->(jt 0 (n:Int)==some (fo n))=true:=by decide+kernel
theorem jhz (N:Nat) (c:UInt8):jt N (c.toNat:Int)=some (fo c.toNat):=by
 have e:jt N (c.toNat:Int)=jt 0 (c.toNat:Int):=rfl
 rw[e];exact eq_of_beq (jq2 c.toNat (UInt8.toNat_lt c))
theorem jrQ :∀n:Nat,n<256->(match jI 0 (n:Int)with|some r=>(wB r== !decide (fo n=0))&&(!wB r||decide (r=fo n))|none=>false)=true:=by decide+kernel
theorem jig (N:Nat) (c:UInt8):∃r,jI N (c.toNat:Int)=some r/\wB r= !decide (fo c.toNat=0)/\(wB r=true->r=fo c.toNat):=by
 have h:=jrQ c.toNat (UInt8.toNat_lt c)
 have e:jI N (c.toNat:Int)=jI 0 (c.toNat:Int):=rfl
 rw[e]
 cases hr:jI 0 (c.toNat:Int)with
 |none=>rw[hr]at h;cases h
 |some r=>
  rw[hr]at h
  simp only[zj,beq_iff_eq,za1,Bool.not_eq_true',zw]at h
  refine⟨r,rfl,h.1,fun hw=>?_⟩
  rcases h.2 with h2|h2
  .rw [hw]at h2;cases h2
  .exact h2
def isL (c:UInt8):Bool:= !decide (fo c.toNat=0)
def foB (c:UInt8):Int:=fo c.toNat
def lead (l:List UInt8):Nat:=(l.takeWhile isL).length
theorem jVK (l:List UInt8):lead l<=l.length:=by unfold lead;exact(List.takeWhile_prefix isL).length_le
theorem jJ3 {c:UInt8} {l:List UInt8} (h:isL c=true):lead (c::l)=lead l+1:=by unfold lead;rw[List.takeWhile_cons_of_pos h,zi]
theorem jKg {c:UInt8} {l:List UInt8} (h:isL c=false):lead (c::l)=0:=by unfold lead;rw[List.takeWhile_cons_of_neg (by simp[h])];rfl
theorem jfU :∀(l:List UInt8) (n:Nat),n<=l.length->(∀(i:Nat) (c:UInt8),i<n->l[i]? =some c->isL c=true)->(∀c,l[n]? =some c->isL c=false)->lead l=n
 | [],n,h,_,_=>by simp at h;subst h;rfl
 |c::l,0,_,_,h2=>jKg (h2 c rfl)
 |c::l,n+1,h,h1,h2=>by
  rw[jJ3 (h1 0 c (by omega) rfl),jfU l n (by simpa using h) (fun i d hi hd=>h1 (i+1) d (by omega) (by simpa using hd)) (fun d hd=>h2 d (by simpa using hd))]
def jJG (l:List UInt8) (p a:Int):List jah:=
 match l with
 | []=>[]
 |c::t=>if isL c=true then
   (bytesOf ((((c::t).take (lead t+1)).map foB).take 12),a,p,p+(lead t+1:Nat))::jJG (t.drop (lead t)) (p+(lead t+1:Nat)) (a+1)
  else jJG t (p+1) a
termination_by l.length
decreasing_by all_goals (simp; try omega)
theorem wordsF_nil (p a:Int):jJG [] p a=[]:=by rw[jJG]
theorem jL7 {c:UInt8} {t:List UInt8} (h:isL c=false) (p a:Int):jJG (c::t) p a=jJG t (p+1) a:=by rw[jJG,zu (by simp[h])]
theorem jjL {l:List UInt8} {n:Nat} (hn:0<n) (hl:lead l=n) (p a:Int):jJG l p a=(bytesOf (((l.take n).map foB).take 12),a,p,p+n)::jJG (l.drop n) (p+n) (a+1):=by
 match l with
 | []=>subst hl;exact absurd hn (by decide)
 |c::t=>
  have hc:isL c=true:=by
   cases h:isL c with
   |true=>rfl
   |false=>rw[jKg h]at hl;omega
  rw[jJ3 hc]at hl
  subst hl
  rw[jJG,zf hc]
  rfl
def words (s:List UInt8):List jah:=jJG s 0 0
theorem ja9 (l:List UInt8) (p a:Int):(jJG l p a).length<=l.length:=by
 match l with
 | []=>rw[wordsF_nil];exact zae _
 |c::t=>
  rw[jJG]
  split
  .have:=ja9 (t.drop (lead t)) (p+(lead t+1:Nat)) (a+1)
   simp only[zi,zaQ]at this⊢
   omega
  .have:=ja9 t (p+1) a
   simp only[zi];omega
termination_by l.length
decreasing_by all_goals (simp; try omega)
theorem jnX {l:List UInt8} {i:Nat} (h:i<l.length):l.drop i=l[i]::l.drop (i+1):=zan h
theorem jdG {s:List UInt8} {i:Nat} (h:∀c,s[i]? =some c->isL c=false) (a:Int):jJG (s.drop i) (i:Int) a=jJG (s.drop (i+1)) ((i:Int)+1) a:=by
 by_cases hi:i<s.length
 .rw [jnX hi,jL7 (h _ (zc hi))]
 .rw [zbw (by omega),zbw (by omega),wordsF_nil,wordsF_nil]
def AllL (s:List UInt8) (f i:Nat):Prop:=∀(j:Nat) (c:UInt8),f<=j->j<i->s[j]? =some c->isL c=true
theorem AllL.next {s:List UInt8} {f i:Nat} (h:AllL s f i) (hi:i<s.length) (hc:isL s[i]=true):AllL s f (i+1):=fun j c h1 h2 h3=>by
 by_cases e:j=i
 .subst e;rw[zc hi]at h3;cases h3;exact hc
 .exact h j c h1 (by omega) h3
theorem AllL.lead {s:List UInt8} {f i:Nat} (h:AllL s f i) (hf:f<=i) (hi:i<=s.length) (he:∀c,s[i]? =some c->isL c=false):lead (s.drop f)=i-f:=
 jfU _ _ (by simp;omega) (fun j c h1 h2=>by rw[zaL]at h2;exact h (f+j) c (by omega) (by omega) h2) (fun c hc=>by rw[zaL,show f+(i-f)=i from by omega]at hc;exact he c hc)
def run (s:List UInt8) (f i:Nat):List Int:=((s.drop f).take (i-f)).map foB
theorem jcZ {s:List UInt8} {f i:Nat} (hf:f<=i) (hi:i<s.length):run s f (i+1)=run s f i++ [foB s[i]]:=by
 unfold run
 rw[show i+1-f=(i-f)+1 from by omega,List.take_add_one,zaL,show f+(i-f)=i from by omega,zc hi,zaK]
 rfl
theorem jaE {s:List UInt8} {f i:Nat} (hf:f<=i) (hi:i<=s.length):(run s f i).length=i-f:=by unfold run;simp;omega
theorem js4 (N:Nat) (s:List UInt8) (h:s.length+2<N) (hs:s.length<=100000):jb3 N s=some (words s):=by
 refine Def.get ?_
 unfold jb3
 refine Def.iter (fun g=>g.1=s/\∃i:Nat,g.2.2=(i:Int)/\i<=s.length+1/\g.2.1.length<=i/\g.2.1++jJG (s.drop i) i g.2.1.length=words s) (fun g=>s.length+1-g.2.2.toNat) (fun go g hI hgo=>?_) N _ ⟨rfl,0,rfl,by omega,zae _,by simp[words]⟩ (by simp;omega)
 obtain⟨s2,out,i0⟩:=g
 obtain⟨e1,i,hi0,hi1,ho,hW⟩:=hI
 dsimp only at e1 hi0 hi1 ho hW hgo⊢
 subst e1 hi0
 refine Def.dif (fun hlt=>?_) (fun hge=>?_)
 case refine_2=>
  refine Def.ret ?_
  rw[zbw (by omega),wordsF_nil,zat]at hW
  exact hW
 have fin:∀(i3:Nat),i<=i3->i3<=s2.length->AllL s2 i i3->(∀c,s2[i3]? =some c->isL c=false)->∀w:List Int,w=(run s2 i i3).take 12->
   Def (bif decide ((0:Int)<w.length)then(if room out.length ([((bytesOf w),(out.length:Int),(i:Int),(i3:Int))]:List jah).length 40 then(if fits ((i3:Int)+1)then go (s2,out++ [((bytesOf w),(out.length:Int),(i:Int),(i3:Int))],(i3:Int)+1)else none)else none)else(if fits ((i3:Int)+1)then go (s2,out,(i3:Int)+1)else none)) (fun r=>r=words s2):=fun i3 h1 h2 h3 h4 w hw=>by
  have hlead:=h3.lead h1 h2 h4
  have hwl:w.length=min 12 (i3-i):=by rw[hw,zah,jaE h1 h2]
  refine Def.dif (fun hp=>?_) (fun hz=>?_)
  .refine Def.ite (room_of (by simp;omega) (by simp;omega)) (Def.ite (by unfold fits;omega) (hgo _ ⟨rfl,i3+1,by push_cast;rfl,by omega,by simp;omega,?_⟩ (by dsimp only;omega)))
   dsimp only
   rw[cast_succ',<-jdG h4,zao]
   rw[jjL (n:=i3-i) (by omega) hlead]at hW
   rw[<-hW,zcc,show i+(i3-i)=i3 from by omega,show(i:Int)+((i3-i:Nat):Int)=i3 from by omega,zam,hw]
   unfold run
   simp
  .have:i3=i:=by omega
   subst this
   refine Def.ite (by unfold fits;omega) (hgo _ ⟨rfl,i3+1,by push_cast;rfl,by omega,by dsimp only;omega,?_⟩ (by dsimp only;omega))
   dsimp only
   rw[<-hW,jdG h4]
   rfl
 refine Def.iter (fun g=>g.1=s2/\g.2.1=out/\g.2.2.2.2=(i:Int)/\∃i2:Nat,g.2.2.1=(i2:Int)/\i<=i2/\i2<=s2.length/\AllL s2 i i2/\g.2.2.2.1=run s2 i i2) (fun g=>s2.length+1-g.2.2.1.toNat) (fun go2 g hI2 hgo2=>?_) N _ ⟨rfl,rfl,rfl,i,rfl,zae _,by omega,fun j c h1 h2=>by omega,by unfold run;simp⟩ (by dsimp only;omega)
 obtain⟨s3,out2,i20,w,from0⟩:=g
 obtain⟨e1,e2,e3,i2,hi2,hle,hl2,hall,hw⟩:=hI2
 dsimp only at e1 e2 e3 hi2 hw hgo2⊢
 subst e1 e2 e3 hi2
 have hwl:w.length=i2-i:=by rw[hw,jaE hle hl2]
 have exits:(∀c,s3[i2]? =some c->isL c=false)->∀ {J:(List UInt8×List jah×Int×List Int×Int)->Option (List jah)},(∀w:List Int,w=(run s3 i i2).take 12->Def (J (s3,out2,(i2:Int),w,(i:Int))) (fun r=>r=words s3))->
   Def (bif decide ((12:Int)<w.length)then Option.bind (cut w 0 12) fun y=>J (s3,out2,(i2:Int),y,(i:Int))else J (s3,out2,(i2:Int),w,(i:Int))) (fun r=>r=words s3):=fun h4 {J} hJ=>by
  refine Def.dif (fun hp=>?_) (fun hz=>?_)
  .refine Def.cut (by decide) (by decide) (by omega) (hJ _ ?_)
   rw[<-hw];rfl
  .refine hJ _ ?_
   rw[<-hw,zba (by omega)]
 refine Def.dif (fun hlt2=>?_) (fun hge2=>?_)
 .have hi:i2<s3.length:=by omega
  rw[idx_at hi]
  refine Def.bind (Def.eq rfl) fun c hc=>?_
  subst hc
  rw[jhz]
  refine Def.bind (Def.eq rfl) fun r hr=>?_
  subst hr
  have hL:(!decide (fo (s3[i2].toNat:Int)=0))=isL s3[i2]:=rfl
  rw[hL]
  refine Def.bif (fun hc=>?_) (fun hc=>?_)
  .refine Def.bind (Def.eq rfl) fun c hc'=>?_
   subst hc'
   rw[jhz]
   refine Def.bind (Def.eq rfl) fun r hr=>?_
   subst hr
   refine Def.ite (room_of (by simp;omega) (by simp;omega)) (Def.ite (by unfold fits;omega) (hgo2 _ ⟨rfl,rfl,rfl,i2+1,by push_cast;rfl,by omega,by omega,hall.next hi hc,?_⟩ (by dsimp only;omega)))
   dsimp only
   rw[jcZ hle hi,hw]
   rfl
  .have h4:∀c,s3[i2]? =some c->isL c=false:=fun c hc'=>by rw[zc hi]at hc';cases hc';exact hc
   refine Def.meet (fun g=>∃w:List Int,g=(s3,out2,(i2:Int),w,(i:Int))/\w=(run s3 i i2).take 12) (fun g hg=>?_) (fun J' hJ'=>exits h4 fun w hw=>hJ' _ ⟨w,rfl,hw⟩)
   obtain⟨w',rfl,hw'⟩:=hg
   exact fin i2 hle hl2 hall h4 w' hw'
 .have h4:∀c,s3[i2]? =some c->isL c=false:=fun c hc'=>by rw[zaM (by omega)]at hc';cases hc'
  refine Def.meet (fun g=>∃w:List Int,g=(s3,out2,(i2:Int),w,(i:Int))/\w=(run s3 i i2).take 12) (fun g hg=>?_) (fun J' hJ'=>exits h4 fun w hw=>hJ' _ ⟨w,rfl,hw⟩)
  obtain⟨w',rfl,hw'⟩:=hg
  exact fin i2 hle hl2 hall h4 w' hw'
theorem jox (N:Nat) (s:List UInt8) (h:s.length+2<N) (hN:N<=1099511627776):jct N s=some (bif okT s then words s else []):=by
 refine Def.get ?_
 unfold jct
 rw[jdd N s (by omega) hN]
 refine Def.bind (Def.eq rfl) fun r hr=>?_
 subst hr
 refine Def.bif (fun h0=>?_) (fun h0=>?_)
 .refine Def.ret ?_
  have:okT s=false:=by simpa using h0
  rw[this];rfl
 have hok:okT s=true:=by simpa using h0
 have hs:s.length<=160:=by
  unfold okT at hok
  simp only[zj,zw]at hok
  omega
 rw[hok,zg]
 refine Def.iter (fun g=>g.1=s/\∃i:Nat,g.2.2=(i:Int)/\i<=s.length/\g.2.1.length<=i/\g.2.1++jJG (s.drop i) i g.2.1.length=words s) (fun g=>s.length+1-g.2.2.toNat) (fun go g hI hgo=>?_) N _ ⟨rfl,0,rfl,by omega,zae _,by simp[words]⟩ (by simp;omega)
 obtain⟨s2,out,i0⟩:=g
 obtain⟨e1,i,hi0,hi1,ho,hW⟩:=hI
 dsimp only at e1 hi0 hi1 ho hW hgo⊢
 subst e1 hi0
 refine Def.dif (fun hlt=>?_) (fun hge=>?_)
 case refine_2=>
  refine Def.ret ?_
  rw[zbw (by omega),wordsF_nil,zat]at hW
  exact hW
 have hi:i<s2.length:=by omega
 rw[idx_at hi]
 refine Def.bind (Def.eq rfl) fun c hc=>?_
 subst hc
 obtain⟨r,hr1,hr2,hr3⟩:=jig N s2[i]
 rw[hr1]
 refine Def.bind (Def.eq rfl) fun r' hr'=>?_
 subst hr'
 rw[jeg]
 refine Def.bind (Def.eq rfl) fun b hb=>?_
 subst hb
 refine Def.bif (fun hb=>?_) (fun hb=>?_)
 .have hL:isL s2[i]=false:=by show(!decide (fo _=0))=false;rw[<-hr2];simpa using hb
  refine Def.ite (by unfold fits;omega) (hgo _ ⟨rfl,i+1,by push_cast;rfl,by omega,by dsimp only;omega,?_⟩ (by dsimp only;omega))
  dsimp only
  rw[<-hW,jdG (s:=s2) (i:=i) (fun c hc=>by rw[zc hi]at hc;cases hc;exact hL)]
  rfl
 have hL0:isL s2[i]=true:=by show(!decide (fo _=0))=true;rw[<-hr2];simpa using hb
 have fin:∀(i3:Nat),i<i3->i3<=s2.length->AllL s2 i i3->(∀c,s2[i3]? =some c->isL c=false)->∀w:List Int,w=(run s2 i i3).take 12->
   Def (if room out.length ([((bytesOf w),(out.length:Int),(i:Int),(i3:Int))]:List jah).length 40 then go (s2,out++ [((bytesOf w),(out.length:Int),(i:Int),(i3:Int))],(i3:Int))else none) (fun r=>r=words s2):=fun i3 h1 h2 h3 h4 w hw=>by
  have hlead:=h3.lead (by omega) h2 h4
  refine Def.ite (room_of (by simp;omega) (by simp;omega)) (hgo _ ⟨rfl,i3,rfl,by omega,by simp;omega,?_⟩ (by dsimp only;omega))
  dsimp only
  rw[jjL (n:=i3-i) (by omega) hlead]at hW
  rw[zao,<-hW,zcc,show i+(i3-i)=i3 from by omega,show(i:Int)+((i3-i:Nat):Int)=i3 from by omega,zam,hw]
  unfold run
  simp
 refine Def.iter (fun g=>g.1=s2/\g.2.1=out/\g.2.2.2.2.2.1=(out.length:Int)/\g.2.2.2.2.2.2.1=(i:Int)/\∃i2:Nat,g.2.2.1=(i2:Int)/\i<=i2/\i2<=s2.length/\AllL s2 i i2/\g.2.2.2.1=(run s2 i i2).take 12) (fun g=>s2.length+1-g.2.2.1.toNat) (fun go2 g hI2 hgo2=>?_) N _ ⟨rfl,rfl,rfl,rfl,i,rfl,zae _,by omega,fun j c h1 h2=>by omega,by unfold run;simp⟩ (by dsimp only;omega)
 obtain⟨s3,out2,i20,w,w1,w2,w3,w4⟩:=g
 obtain⟨e1,e2,e3,e4,i2,hi2,hle,hl2,hall,hw⟩:=hI2
 dsimp only at e1 e2 e3 e4 hi2 hw hgo2⊢
 subst e1 e2 e3 e4 hi2
 have hwl:w.length=min 12 (i2-i):=by rw[hw,zah,jaE hle hl2]
 refine Def.dif (fun hlt2=>?_) (fun hge2=>?_)
 .have hi':i2<s3.length:=by omega
  rw[idx_at hi']
  refine Def.bind (Def.eq rfl) fun c hc=>?_
  subst hc
  obtain⟨r,hr1,hr2,hr3⟩:=jig N s3[i2]
  rw[hr1]
  refine Def.bind (Def.eq rfl) fun r' hr'=>?_
  subst hr'
  rw[jeg]
  refine Def.bind (Def.eq rfl) fun b hb=>?_
  subst hb
  have hLe:wB r'=isL s3[i2]:=hr2
  refine Def.bif (fun hb=>?_) (fun hb=>?_)
  .have hc:isL s3[i2]=true:=by rw[<-hLe];exact hb
   refine Def.dif (fun h12=>?_) (fun h12=>?_)
   .refine Def.bind (Def.eq rfl) fun c hc=>?_
    subst hc
    rw[hr1]
    refine Def.bind (Def.eq rfl) fun r' hr'=>?_
    subst hr'
    refine Def.ite (room_of (by simp;omega) (by simp;omega)) (Def.ite (by unfold fits;omega) (hgo2 _ ⟨rfl,rfl,rfl,rfl,i2+1,by push_cast;rfl,by omega,by omega,hall.next hi' hc,?_⟩ (by dsimp only;omega)))
    dsimp only
    rw[jcZ hle hi',hw,hr3 hb,zba (by rw[jaE hle hl2];omega),zba (by simp[jaE hle hl2];omega)]
    rfl
   .refine Def.ite (by unfold fits;omega) (hgo2 _ ⟨rfl,rfl,rfl,rfl,i2+1,by push_cast;rfl,by omega,by omega,hall.next hi' hc,?_⟩ (by dsimp only;omega))
    dsimp only
    rw[jcZ hle hi',hw,List.take_append_of_le_length (by rw[jaE hle hl2];omega)]
  .have hne:i<i2:=by
    rcases Nat.lt_or_eq_of_le hle with h|h
    .exact h
    .subst h;rw[hLe,hL0]at hb;cases hb
   exact fin i2 hne hl2 hall (fun c hc'=>by rw[zc hi']at hc';cases hc';rw[<-hLe];exact hb) w hw
 .exact fin i2 (by omega) hl2 hall (fun c hc'=>by rw[zaM (by omega)]at hc';cases hc') w hw
def ends :List (List UInt8):=[[105,110,103],[101,100],[101,115],[108,121],[115]]
def jq (s e:List UInt8):Option (List UInt8):=if 3+e.length<=s.length/\s.drop (s.length-e.length)=e then some (s.take (s.length-e.length))else none
def once (s:List UInt8):Option (List UInt8):=ends.findSome? (jq s)
theorem jqF {s e t:List UInt8} (he:0<e.length) (h:jq s e=some t):t.length<s.length:=by
 unfold jq at h
 split at h
 .cases h;rw[zah];omega
 .cases h
theorem jc0 :∀e,e∈ends->0<e.length/\e.length<=3:=by decide
theorem jjJ {s t:List UInt8} (h:once s=some t):t.length<s.length:=by
 unfold once at h
 obtain⟨e,he,h⟩:=List.exists_of_findSome?_eq_some h
 exact jqF (jc0 e he).1 h
def jf (s:List UInt8):List UInt8:=match h:once s with
 |some t=>jf t
 |none=>s
termination_by s.length
decreasing_by exact jjJ h
theorem jfq {s t:List UInt8} (h:once s=some t):jf s=jf t:=by
 rw[jf];split
 .rename_i t' h';rw[h]at h';cases h';rfl
 .rename_i h';rw[h]at h';cases h'
theorem jht {s:List UInt8} (h:once s=none):jf s=s:=by
 rw[jf];split
 .rename_i t' h';rw[h]at h';cases h'
 .rfl
theorem jro (N:Nat) (s e:List UInt8) (hs:s.length<=100000):jcN N s e=some (decide (e.length<=s.length)&&decide (s.drop (s.length-e.length)=e)):=by
 unfold jcN jdF
 by_cases h:e.length<=s.length
 .rw [zb (by omega:(e.length:Int)<=(s.length:Int)),zg,zf (by unfold fits;omega),zb h]
  unfold cut
  rw[zf (by omega)]
  simp only[za,zaj]
  congr 3
  rw[show((s.length:Int)-(e.length:Int)).toNat=s.length-e.length from by omega,zai,zq]
 .rw [zd (by omega:¬(e.length:Int)<=(s.length:Int)),ze,zd h]
  rfl
theorem jfL (f:List UInt8->Option (List UInt8)) (l:List (List UInt8)) {n:Nat} (h:n<l.length):(l.drop n).findSome? f=match f l[n]with|some y=>some y|none=>(l.drop (n+1)).findSome? f:=by
 rw[zan h,List.findSome?_cons]
 cases f l[n]<;>rfl
theorem jdw (N:Nat) (s:List UInt8) (h:s.length<N) (h60:60<N) (hN:N<=1099511627776):jaB N s=some (bif okW s then jf s else []):=by
 refine Def.get ?_
 unfold jaB
 rw[jaJ N s (by omega) hN]
 refine Def.bind (Def.eq rfl) fun r hr=>?_
 subst hr
 refine Def.bif (fun h0=>?_) (fun h0=>?_)
 .refine Def.ret ?_
  rw[show okW s=false from by simpa using h0];rfl
 have hok:okW s=true:=by simpa using h0
 have hs:s.length<=12:=by
  unfold okW at hok
  simp only[zj,zw]at hok
  omega
 rw[hok,zg]
 refine Def.iter (fun g=>g.1.length<=s.length/\jf g.1=jf s/\(g.2=false->once g.1=none)) (fun g=>2*g.1.length+(bif g.2 then 1 else 0)) (fun go g hI hgo=>?_) N _ ⟨zae _,rfl,fun h=>by cases h⟩ (by simp;omega)
 obtain⟨s2,again⟩:=g
 obtain⟨hl,hst,hag⟩:=hI
 dsimp only at hl hst hag hgo⊢
 refine Def.bif (fun ha=>?_) (fun ha=>Def.ret (by rw[<-hst,jht (hag ha)]))
 subst ha
 show Def (iter _ N (s2,false,ends,(5:Int),(0:Int))) _
 refine Def.iter (fun g=>g.1=s2/\g.2.1=false/\g.2.2.1=ends/\g.2.2.2.1=5/\∃n:Nat,g.2.2.2.2=(n:Int)/\n<=5/\(ends.drop n).findSome? (jq s2)=once s2) (fun g=>5-g.2.2.2.2.toNat) (fun go2 g hI2 hgo2=>?_) N _ ⟨rfl,rfl,rfl,rfl,0,rfl,by omega,rfl⟩ (by dsimp only;omega)
 obtain⟨s3,ag2,es,five,n0⟩:=g
 obtain⟨e1,e2,e3,e4,n,e5,hn,hfs⟩:=hI2
 dsimp only at e1 e2 e3 e4 e5 hfs hgo2⊢
 subst e1 e2 e3 e4 e5
 refine Def.dif (fun hlt=>?_) (fun hge=>?_)
 case refine_2=>
  have:n=5:=by omega
  subst this
  refine hgo _ ⟨hl,hst,fun _=>?_⟩ (by dsimp only;simp)
  rw[<-hfs];rfl
 have hn5:n<ends.length:=by show n<5;omega
 rw[jfL _ _ hn5]at hfs
 rw[idx_at hn5]
 refine Def.bind (Def.eq rfl) fun e he=>?_
 subst he
 have hep:=jc0 _ (zr hn5)
 rw[jro N s3 _ (by omega)]
 refine Def.bind (Def.eq rfl) fun b hb=>?_
 subst hb
 have next:jq s3 ends[n]=none->Def (if fits ((n:Int)+1)then go2 (s3,false,ends,5,(n:Int)+1)else none) (fun r=>r=jf s):=fun hc=>by
  refine Def.ite (by unfold fits;omega) (hgo2 _ ⟨rfl,rfl,rfl,rfl,n+1,by push_cast;rfl,by omega,?_⟩ (by dsimp only;omega))
  rw[<-hfs,hc]
 refine Def.bif (fun hb=>?_) (fun hb=>?_)
 .simp only [zj,zw]at hb
  refine Def.ite (by unfold fits;omega) (Def.dif (fun h3=>?_) (fun h3=>?_))
  .have hc:jq s3 ends[n]=some (s3.take (s3.length-ends[n].length)):=by unfold jq;rw[zf ⟨by omega,hb.2⟩]
   refine Def.ite (by unfold fits;omega) (Def.cut (by omega) (by omega) (by omega) ?_)
   rw[hc]at hfs
   have ht:(s3.take ((s3.length:Int)-(ends[n].length:Int)).toNat).drop (0:Int).toNat=s3.take (s3.length-ends[n].length):=by
    rw[show((s3.length:Int)-(ends[n].length:Int)).toNat=s3.length-ends[n].length from by omega];rfl
   rw[ht]
   refine hgo _ ⟨?_,?_,fun h=>by cases h⟩ ?_
   .dsimp only;rw[zah];omega
   .dsimp only;rw[<-hst,jfq hfs.symm]
   .dsimp only;rw[zah];simp;omega
  .exact next (by unfold jq;rw[zu (by omega)])
 .refine next ?_
  unfold jq
  rw[zu]
  rintro⟨g1,g2⟩
  rw[zb (by omega:ends[n].length<=s3.length),zb g2]at hb
  cases hb
theorem jlK (N:Nat) (s:List UInt8) (h:s.length+8<N) (hs:s.length<=100000):ja6 N s=some ((once s).getD s):=by
 refine Def.get ?_
 unfold ja6
 refine Def.iter (fun g=>g.1=s/\∃n:Nat,g.2=(n:Int)/\n<=5/\(ends.drop n).findSome? (jq s)=once s) (fun g=>5-g.2.toNat) (fun go g hI hgo=>?_) N _ ⟨rfl,0,rfl,by omega,rfl⟩ (by dsimp only;omega)
 obtain⟨s2,n0⟩:=g
 obtain⟨e1,n,e2,hn,hfs⟩:=hI
 dsimp only at e1 e2 hfs hgo⊢
 subst e1 e2
 show Def (Option.bind (some ends) _) _
 refine Def.bind (Def.eq rfl) fun es hes=>?_
 subst hes
 have h5:(ends.length:Int)=5:=rfl
 refine Def.dif (fun hlt=>?_) (fun hge=>?_)
 case refine_2=>
  have:n=5:=by omega
  subst this
  refine Def.ret ?_
  rw[<-hfs];rfl
 have hn5:n<ends.length:=by omega
 rw[jfL _ _ hn5]at hfs
 show Def (Option.bind (some ends) _) _
 refine Def.bind (Def.eq rfl) fun es hes=>?_
 subst hes
 rw[idx_at hn5]
 refine Def.bind (Def.eq rfl) fun e he=>?_
 subst he
 have hep:=jc0 _ (zr hn5)
 have next:jq s2 ends[n]=none->Def (if fits ((n:Int)+1)then go (s2,(n:Int)+1)else none) (fun r=>r=(once s2).getD s2):=fun hc=>by
  refine Def.ite (by unfold fits;omega) (hgo _ ⟨rfl,n+1,by push_cast;rfl,by omega,?_⟩ (by dsimp only;omega))
  rw[<-hfs,hc]
 refine Def.ite (by unfold fits;omega) (Def.dif (fun h3=>?_) (fun h3=>?_))
 .refine Def.cut (by omega) (by omega) (by omega) ?_
  have hd:(s2.take ((s2.length:Int)).toNat).drop ((s2.length:Int)-(ends[n].length:Int)).toNat=s2.drop (s2.length-ends[n].length):=by
   rw[show((s2.length:Int)-(ends[n].length:Int)).toNat=s2.length-ends[n].length from by omega,zai,zq]
  rw[hd]
  refine Def.dif (fun hq=>?_) (fun hq=>?_)
  .have hc:jq s2 ends[n]=some (s2.take (s2.length-ends[n].length)):=by unfold jq;rw[zf ⟨by omega,hq⟩]
   refine Def.cut (by omega) (by omega) (by omega) (Def.ret ?_)
   rw[hc]at hfs
   rw[<-hfs,show((s2.length:Int)-(ends[n].length:Int)).toNat=s2.length-ends[n].length from by omega]
   rfl
  .exact next (by unfold jq;rw[zu (fun hh=>hq hh.2)])
 .exact next (by unfold jq;rw[zu (by omega)])
theorem jdT (N:Nat) (s:List UInt8) (h:s.length+8<N) (hs:s.length<=100000):jaq N s=some (jf s):=by
 refine Def.get ?_
 unfold jaq
 refine Def.iter (fun g=>g.length<=s.length/\jf g=jf s) (fun g=>g.length) (fun go g hI hgo=>?_) N _ ⟨zae _,rfl⟩ (by omega)
 obtain⟨hl,hst⟩:=hI
 dsimp only
 rw[jlK N g (by omega) (by omega)]
 refine Def.bind (Def.eq rfl) fun r hr=>?_
 subst hr
 cases ho:once g with
 |none=>
  rw[Option.getD_none,zb rfl]
  exact Def.ret (by rw[<-hst,jht ho])
 |some t=>
  have:=jjJ ho
  rw[za8,zd (fun e=>by rw[e]at this;omega)]
  refine Def.bind (Def.eq rfl) fun r hr=>?_
  subst hr
  exact hgo _ ⟨by omega,by rw[<-hst,jfq ho]⟩ (by omega)
theorem jd2 (N:Nat) (l:List (List UInt8)) (x:List UInt8) (h:l.length<N) (hl:l.length<=1000000000):jap N l x=some (decide (x∈l)):=by
 unfold jap
 refine(iter_scan _ l.length (fun n=>(l,x,(n:Int))) (fun n=>some (decide (x∈l.drop n))) (fun go=>?_) (fun go n hn hgo=>?_) N 0 (zaf _) (by omega)).trans (by simp)
 .dsimp only
  rw[zd (zcd _),ze,zbp]
  simp
 .dsimp only
  rw[zb (by omega:(n:Int)<l.length),zg,idx_at hn,za,zf (fits_nat (n:=n) (by omega)),zan hn]
  simp only[cast_succ']at hgo
  by_cases e:l[n]=x
  .rw [zb e,zg,zb (by rw[e];exact zy)]
  .rw [zd e,ze,hgo]
   congr 1
   rw[decide_eq_decide,zp]
   exact⟨.inr,fun h=>h.resolve_left (fun h=>e h.symm)⟩
theorem jcr {δ ρ:Type} (F:(δ->Option ρ)->δ->Option ρ) (len:Nat) (st:Nat->δ) (chk:Nat->Bool) (no fin:Option ρ) (hend:∀go,F go (st len)=fin)
  (hstep:∀go n,n<len->F go (st n)=bif chk n then go (st (n+1))else no) (N:Nat) (h:len<N):iter F N (st 0)=bif allN len chk then fin else no:=by
 have key:=iter_scan F len st (fun n=>bif(List.range' n (len-n)).all chk then fin else no) (fun go=>by rw[hend,Nat.sub_self];simp) (fun go n hn hgo=>?_) N 0 (zaf _) (by omega)
 .simpa [allN]using key
 .rw [hstep go n hn,hgo,show len-n=(len-(n+1))+1 from by omega,List.range'_succ,List.all_cons]
  cases chk n<;>simp
theorem jrw {α:Type} (xs:List α) (P:α->Bool) (chk:Nat->Bool) (h:∀(n:Nat) (hn:n<xs.length),chk n=P xs[n]):allN xs.length chk=xs.all P:=by
 unfold allN
 rw[zbH,zax,zax]
 constructor
 .intro hc x hx
  obtain⟨n,hn,rfl⟩:=zav.1 hx
  rw[<-h n hn]
  exact hc n (by simp;omega)
 .intro hp n hn
  simp at hn
  rw[h n (by omega)]
  exact hp _ (zr _)
theorem check_list {α δ ρ:Type} (F:(δ->Option ρ)->δ->Option ρ) (xs:List α) (st:Nat->δ) (P:α->Bool) (no fin:Option ρ) (hend:∀go,F go (st xs.length)=fin)
  (hstep:∀go n (hn:n<xs.length),F go (st n)=bif P xs[n]then go (st (n+1))else no) (N:Nat) (h:xs.length<N):iter F N (st 0)=bif xs.all P then fin else no:=by
 rw[jcr F xs.length st (fun n=>if hn:n<xs.length then P xs[n]else false) no fin hend (fun go n hn=>by rw[dif_pos hn];exact hstep go n hn) N h,jrw xs P _ (fun n hn=>by rw[dif_pos hn])]
theorem jbS {s:List UInt8} (h:okW s=true):1<=s.length/\s.length<=12:=by
 unfold okW at h
 simp only[zj,zw]at h
 omega
def wAt (xs:List (List UInt8)) (n:Nat):List UInt8:=xs[n]?.getD []
theorem jae {xs:List (List UInt8)} {n:Nat} (h:n<xs.length):xs[n]=wAt xs n:=by unfold wAt;rw[zc h];rfl
def okUp (xs:List (List UInt8)) (n:Nat):Bool:=okW (wAt xs n)&&(decide (n=0)||ahd (wAt xs (n-1)) (wAt xs n))
theorem jrG (N:Nat) (hM:Sm<N) (hN:N<=1099511627776) (xs:List (List UInt8)) (ho:okD Sm (.sl .str) xs):jb2 N xs=some (allN xs.length (okUp xs)):=by
 have hl:List.length xs<=1048576:=ho.1
 have hM':1048576<N:=hM
 unfold jb2
 refine(jcr _ xs.length (fun n=>(xs,xs,(xs.length:Int),(n:Int))) (okUp xs) (some false) (some true) (fun go=>?_) (fun go n hn=>?_) N (by omega)).trans (by cases allN xs.length (okUp xs)<;>rfl)
 .dsimp only
  rw[zd (zcd _),ze]
 .dsimp only
  have hx:List.length xs[n]<=1048576:=ho.2 xs[n] (zr hn)
  rw[zb (by omega:(n:Int)<xs.length),zg,idx_at hn,za,jaJ N _ (by omega) hN,za,zf (fits_nat (n:=n) (by omega)),cast_succ']
  unfold okUp ahd
  rw[<-jae hn]
  cases okW xs[n]with
  |false=>rfl
  |true=>
   rw[zn,ze,zaj]
   cases n with
   |zero=>rfl
   |succ n=>
    rw[zb (by omega:(0:Int)<((n+1:Nat):Int)),zg,zf (by unfold fits;omega),show(((n+1:Nat):Int)-1)=(n:Int)from by omega,idx_at (by omega:n<xs.length),za,show n+1-1=n from rfl,<-jae (by omega:n<xs.length)]
    cases Op.bytesLess xs[n] xs[n+1]<;>rfl
theorem jcV (N:Nat) (l:List (List UInt8)) (x:List UInt8) (h:l.length<N) (hl:l.length<=1000000000):jao N l x=some (decide (x∈l)):=by
 refine Def.get ?_
 unfold jao jdH
 refine Def.bind (P:=fun r:Int=>decide ((0:Int)<=r)=decide (x∈l)) ?_ (fun r hr=>Def.ret hr)
 refine Def.upto l.length (fun n g=>g=(l,x,(l.length:Int),(n:Int))/\x∉l.take n) (fun go g hg=>?_) (fun go n g hn hg hgo=>?_) N 0 _ (zaf _) ⟨rfl,by simp⟩ (by omega)
 .obtain ⟨rfl,hx⟩:=hg
  dsimp only
  rw[zd (zcd _),ze]
  rw[zq]at hx
  exact Def.ret (by rw[zd hx];rfl)
 .obtain ⟨rfl,hx⟩:=hg
  dsimp only
  rw[zb (by omega:(n:Int)<l.length),zg,idx_at hn,za]
  refine Def.dif (fun e=>Def.ret ?_) (fun e=>Def.ite (fits_nat (n:=n) (by omega)) (hgo _ ⟨by rw[cast_succ'],?_⟩))
  .rw [zb (by omega:(0:Int)<=(n:Int)),zb (by rw[e];exact zr hn)]
  .rw [zo hn,zaB,zaD]
   exact fun hh=>hh.elim hx e
def jaI (st:List (List UInt8)) (w:List UInt8):Bool:=okW w&&(decide (jf w=w)&& !decide (w∈st))
def jL (st:List (List UInt8)) (y:ESyn):Bool:=(decide ((1:Int)<=y.1.length)&&decide ((y.1.length:Int)<=3))&&(okW y.2&&(decide (jf y.2=y.2)&&y.1.all (jaI st)))
def okConf (c:EConf):Bool:=decide ((c.1.length:Int)<=6)&&(allN c.1.length (okUp c.1)&&(decide ((c.2.length:Int)<=4)&&c.2.all (jL c.1)))
theorem confOk_spec (N:Nat) (hM:Sm<N) (hN:N<=1099511627776) (c:EConf) (ho:okD Sm TConf c):jaj N c.1 c.2=some (okConf c):=by
 obtain⟨c,c2⟩:=c
 have hM':1048576<N:=hM
 have hc:List.length c<=1048576:=ho.1.1
 have hc2:List.length c2<=1048576:=ho.2.1
 unfold jaj okConf
 dsimp only
 by_cases h6:(6:Int)<c.length
 .rw [zb h6,zg,zd (by omega:¬(c.length:Int)<=6)];rfl
 rw[zd h6,ze,zb (by omega:(c.length:Int)<=6),zaj,jrG N hM hN c ho.1,za]
 cases allN c.length (okUp c)with
 |false=>rfl
 |true=>
 rw[zn,ze,zaj]
 by_cases h4:(4:Int)<c2.length
 .rw [zb h4,zg,zd (by omega:¬(c2.length:Int)<=4)];rfl
 rw[zd h4,ze,zb (by omega:(c2.length:Int)<=4),zaj]
 refine(check_list _ c2 (fun n=>(c2,(c2.length:Int),(n:Int),c,c2)) (jL c) (some false) (some true) (fun go=>?_) (fun go n hn=>?_) N (by omega)).trans (by cases c2.all (jL c)<;>rfl)
 .dsimp only
  rw[zd (zcd _),ze]
 .dsimp only
  have hx:=ho.2.2 c2[n] (zr hn)
  have hx1:List.length c2[n].1<=1048576:=hx.1.1
  have hx2:List.length c2[n].2<=1048576:=hx.2
  rw[zb (by omega:(n:Int)<c2.length),zg,idx_at hn,za,jJR,za]
  unfold jL
  cases(decide ((1:Int)<=c2[n].1.length)&&decide ((c2[n].1.length:Int)<=3))with
  |false=>rfl
  |true=>
  rw[zn,ze,zaj,jaJ N _ (by omega) hN,za,jdw N _ (by omega) (by omega) hN,za]
  cases okW c2[n].2 with
  |false=>rfl
  |true=>
  rw[zn,ze,zaj,zg]
  cases decide (jf c2[n].2=c2[n].2)with
  |false=>rfl
  |true=>
  rw[zn,ze,zaj]
  refine check_list _ c2[n].1 (fun k=>(c2,(c2.length:Int),(n:Int),false,false,c2[n].1,(c2[n].1.length:Int),(k:Int),c,c2)) (jaI c) (some false) (go (c2,(c2.length:Int),((n+1:Nat):Int),c,c2)) (fun go2=>?_) (fun go2 k hk=>?_) N (by omega)
  .dsimp only
   rw[zd (zcd _),ze,zf (fits_nat (n:=n) (by omega)),cast_succ']
  .dsimp only
   have hw:List.length c2[n].1[k]<=1048576:=hx.1.2 _ (zr hk)
   rw[zb (by omega:(k:Int)<c2[n].1.length),zg,idx_at hk,za,jaJ N _ (by omega) hN,za,jdw N _ (by omega) (by omega) hN,za,jcV N _ _ (by omega) (by omega),za,zf (fits_nat (n:=k) (by omega)),cast_succ']
   unfold jaI
   cases okW c2[n].1[k]with
   |false=>rfl
   |true=>
   rw[zn,ze,zaj,zg]
   cases decide (jf c2[n].1[k]=c2[n].1[k])with
   |false=>rfl
   |true=>
   rw[zn,ze,zaj]
   cases decide (c2[n].1[k]∈c)<;>rfl
theorem l2Ok_spec (N:Nat) (hM:Sm<N) (hN:N<=1099511627776) (c:EConf) (ho:okD Sm TConf c):jcw N c.1 c.2=some (okConf c):=by
 obtain⟨c,c2⟩:=c
 have hM':1048576<N:=hM
 have hc:List.length c<=1048576:=ho.1.1
 have hc2:List.length c2<=1048576:=ho.2.1
 unfold jcw okConf
 dsimp only
 refine(jcr _ c.length (fun n=>((n:Int),c,c2)) (okUp c) (some false) (bif c2.all (jL c)then some (decide ((c.length:Int)<=6)&&decide ((c2.length:Int)<=4))else some false) (fun go=>?_) (fun go n hn=>?_) N (by omega)).trans (by cases allN c.length (okUp c)<;>cases c2.all (jL c)<;>cases decide ((c.length:Int)<=6)<;>cases decide ((c2.length:Int)<=4)<;>rfl)
 .dsimp only
  rw[zd (zcd _),ze]
  refine check_list _ c2 (fun n=>((n:Int),c,c2)) (jL c) (some false) _ (fun go=>?_) (fun go n hn=>?_) N (by omega)
  .dsimp only
   rw[zd (zcd _),ze]
   cases decide ((c.length:Int)<=6)<;>rfl
  .dsimp only
   have hx:=ho.2.2 c2[n] (zr hn)
   have hx1:List.length c2[n].1<=1048576:=hx.1.1
   have hx2:List.length c2[n].2<=1048576:=hx.2
   rw[zb (by omega:(n:Int)<c2.length),zg,idx_at hn,za]
   refine(check_list _ c2[n].1 (fun k=>((n:Int),(k:Int),c,c2,c2[n].1,c2[n].2)) (jaI c) (some false) (bif((decide ((1:Int)<=c2[n].1.length)&&decide ((c2[n].1.length:Int)<=3))&&(okW c2[n].2&&decide (jf c2[n].2=c2[n].2)))then go (((n+1:Nat):Int),c,c2)else some false) (fun go2=>?_) (fun go2 k hk=>?_) N (by omega)).trans ?_
   .dsimp only
    rw[zd (zcd _),ze,jJO,za,ja7 N _ (by omega) hN,za,zf (fits_nat (n:=n) (by omega)),cast_succ']
    cases(decide ((1:Int)<=c2[n].1.length)&&decide ((c2[n].1.length:Int)<=3))with
    |false=>rfl
    |true=>
    cases hw:okW c2[n].2 with
    |false=>rfl
    |true=>
    have:=jbS hw
    rw[zn,ze,ze,zaj,zaj,jdT N _ (by omega) (by omega),za]
    cases decide (jf c2[n].2=c2[n].2)<;>rfl
   .dsimp only
    have hw0:List.length c2[n].1[k]<=1048576:=hx.1.2 _ (zr hk)
    rw[zb (by omega:(k:Int)<c2[n].1.length),zg,idx_at hk,za,ja7 N _ (by omega) hN,za]
    unfold jaI
    cases hw:okW c2[n].1[k]with
    |false=>rfl
    |true=>
    have:=jbS hw
    rw[zn,ze,zaj,za,jdT N _ (by omega) (by omega),za,za,za]
    cases decide (jf c2[n].1[k]=c2[n].1[k])with
    |false=>rfl
    |true=>
    rw[zn,ze,zaj,zf (fits_nat (n:=k) (by omega)),cast_succ']
    rw[jd2 N _ _ (by omega) (by omega),za]
    cases decide (c2[n].1[k]∈c)<;>rfl
   .unfold jL
    cases c2[n].1.all (jaI c)<;>cases(decide ((1:Int)<=c2[n].1.length)&&decide ((c2[n].1.length:Int)<=3))<;>cases okW c2[n].2<;>cases decide (jf c2[n].2=c2[n].2)<;>rfl
 .dsimp only
  have hx:List.length c[n]<=1048576:=ho.1.2 c[n] (zr hn)
  rw[zb (by omega:(n:Int)<c.length),zg,idx_at hn,za,ja7 N _ (by omega) hN,za,zf (fits_nat (n:=n) (by omega)),cast_succ']
  unfold okUp ahd
  rw[<-jae hn]
  cases okW c[n]with
  |false=>rfl
  |true=>
   rw[zn,ze,zaj]
   cases n with
   |zero=>rfl
   |succ n=>
    rw[zb (by omega:(0:Int)<((n+1:Nat):Int)),zg,za,zf (by unfold fits;omega),show(((n+1:Nat):Int)-1)=(n:Int)from by omega,idx_at (by omega:n<c.length),za,show n+1-1=n from rfl,<-jae (by omega:n<c.length),bytesLess_or]
    cases Op.bytesLess c[n] c[n+1]<;>rfl
abbrev ETerm :=List UInt8×Int
theorem jtc {len:Nat} {f g:Nat->Bool} (h:∀n,n<len->f n=g n):allN len f=allN len g:=by
 unfold allN
 rw[zbH,zax,zax]
 constructor<;>intro hh n hn<;>have hn':=hn<;>simp at hn'
 .rw [<-h n hn'];exact hh n hn
 .rw [h n hn'];exact hh n hn
theorem jh8 (n:Nat) (f:Nat->Bool):allN (n+1) f=(allN n f&&f n):=by
 unfold allN
 rw[List.range'_concat,List.all_append]
 simp
theorem jkY :∀n:Nat,n<256->(decide (fo n=0)||(wB (fo n)&&decide (0<=fo n)&&decide (fo n<256)))=true:=by decide+kernel
theorem jlE {c:UInt8} (h:isL c=true):wB (foB c)=true/\0<=foB c/\foB c<256:=by
 have:=jkY c.toNat (UInt8.toNat_lt c)
 unfold isL at h
 unfold foB
 simp only[za1,zj,zw]at this
 rcases this with h1|⟨⟨h1,h2⟩,h3⟩
 .rw [zb h1]at h;cases h
 .exact ⟨h1,h2,h3⟩
theorem jne {n:Int} (h0:0<=n) (h1:n<256):((UInt8.ofNat n.toNat).toNat:Int)=n:=by
 have:(UInt8.ofNat n.toNat).toNat=n.toNat%256:=by simp
 rw[this];omega
theorem jq9 {xs:List Int} (h:∀x,x∈xs->wB x=true/\0<=x/\x<256) (h0:0<xs.length) (h1:xs.length<=12):okW (bytesOf xs)=true:=by
 have hl:(bytesOf xs).length=xs.length:=by unfold bytesOf;simp
 unfold okW
 rw[zj,zj,zw,zw]
 refine⟨?_,by omega,by omega⟩
 unfold allN
 rw[zax]
 intro n hn
 simp at hn
 have hn':n<xs.length:=by omega
 have:atB (bytesOf xs) n=xs[n]:=by
  unfold atB bytesOf
  rw[zaF,zc hn']
  exact jne (h _ (zr hn')).2.1 (h _ (zr hn')).2.2
 rw[this]
 exact(h _ (zr hn')).1
theorem jgw :∀(l:List UInt8) (c:UInt8),c∈l.take (lead l)->isL c=true
 | [],c,h=>by cases h
 |d::l,c,h=>by
  cases hd:isL d with
  |false=>rw[jKg hd]at h;cases h
  |true=>
   rw[jJ3 hd,zbG]at h
   rcases zp.1 h with rfl|h
   .exact hd
   .exact jgw l c h
theorem jbs (l:List UInt8) (p a:Int):∀x,x∈jJG l p a->okW x.1=true/\a<=x.2.1:=by
 match l with
 | []=>rw[wordsF_nil];intro x hx;cases hx
 |c::t=>
  intro x hx
  rw[jJG]at hx
  split at hx
  .rename_i hc
   rcases zp.1 hx with rfl|hx
   .refine ⟨jq9 (fun y hy=>?_) ?_ ?_,Int.le_refl _⟩
    .have hy:=zaP hy
     obtain⟨d,hd,rfl⟩:=zab.1 hy
     exact jlE (jgw (c::t) d (by rw[jJ3 hc];exact hd))
    .simp
    .simp;omega
   .have:=jbs (t.drop (lead t)) (p+(lead t+1:Nat)) (a+1) x hx
    exact⟨this.1,by omega⟩
  .exact jbs t (p+1) a x hx
termination_by l.length
decreasing_by all_goals (simp; try omega)
theorem jdr (l:List UInt8) (p a:Int):∀x,x∈jJG l p a->x.2.1<a+l.length:=by
 match l with
 | []=>rw[wordsF_nil];intro x hx;cases hx
 |c::t=>
  intro x hx
  rw[jJG]at hx
  simp only[zi]
  split at hx
  .rcases zp.1 hx with rfl|hx
   .dsimp only;omega
   .have:=jdr (t.drop (lead t)) (p+(lead t+1:Nat)) (a+1) x hx
    rw[zaQ]at this
    omega
  .have:=jdr t (p+1) a x hx
   omega
termination_by l.length
decreasing_by all_goals (simp; try omega)
def jE (st:List (List UInt8)) (w:jah):Option ETerm:=if w.1∈st\/jf w.1∈st then none else some (jf w.1,w.2.1)
def plain (st:List (List UInt8)) (s:List UInt8):List ETerm:=(words s).filterMap (jE st)
theorem jdp (st:List (List UInt8)) (s:List UInt8):(plain st s).length<=s.length:=zau (List.length_filterMap_le _ _) (ja9 s 0 0)
theorem jtx (st:List (List UInt8)) (s:List UInt8):∀x,x∈plain st s->0<=x.2/\x.2<s.length:=by
 intro x hx
 obtain⟨w,hw,hp⟩:=zbs.1 hx
 unfold jE at hp
 split at hp
 .cases hp
 .cases hp
  have h1:=(jbs s 0 0 w hw).2
  have h2:=jdr s 0 0 w hw
  exact⟨h1,by dsimp only;omega⟩
theorem filterMap_step {α β:Type} (f:α->Option β) (xs:List α) (n:Nat) (h:n<xs.length):(xs.take (n+1)).filterMap f=(xs.take n).filterMap f++(match f xs[n]with|some y=>[y]|none=>[]):=by
 rw[zo h,List.filterMap_append]
 cases hf:f xs[n]<;>simp[hf]
theorem jkT (N:Nat) (c:EConf) (s:List UInt8) (hs:s.length<=10000) (hN:20000<N) (hc:c.1.length<=6):jbY N c.1 c.2 s=some (plain c.1 s):=by
 unfold jbY
 rw[js4 N s (by omega) (by omega),za]
 have hwl:(words s).length<=s.length:=ja9 s 0 0
 refine(iter_scan _ (words s).length (fun n=>(((words s).take n).filterMap (jE c.1),words s,(n:Int),c.1,c.2)) (fun _=>some (plain c.1 s)) (fun go=>?_) (fun go n hn hgo=>?_) N 0 (zaf _) (by omega)).trans rfl
 .dsimp only
  rw[zd (zcd _),ze,zq]
  rfl
 .dsimp only
  have hw:=(jbs s 0 0 (words s)[n] (zr hn)).1
  have hwl2:=jbS hw
  have hfl:(((words s).take n).filterMap (jE c.1)).length<=n:=zau (List.length_filterMap_le _ _) (by simp;omega)
  rw[filterMap_step _ _ _ hn]at hgo
  simp only[cast_succ']at hgo
  rw[zb (by omega:(n:Int)<((words s).length:Int)),zg,idx_at hn,za,jdT N _ (by omega) (by omega),za,za,jd2 N _ _ (by omega) (by omega),za,zf (fits_nat (n:=n) (by omega))]
  unfold jE at hgo
  by_cases h1:(words s)[n].1∈c.1
  .rw [zb h1]
   rw[zf (.inl h1),zat]at hgo
   exact hgo
  .rw [zd h1,zaI,zg,jd2 N _ _ (by omega) (by omega),za]
   by_cases h2:jf (words s)[n].1∈c.1
   .rw [zb h2]
    rw[zf (.inr h2),zat]at hgo
    exact hgo
   .rw [zd h2,zaI,zg,za,zf (room_of (by simp only[zi,zac];omega) (by simp only[zi,zac];omega)),zf (fits_nat (n:=n) (by omega))]
    rw[zu (by rintro(h|h)<;>contradiction)]at hgo
    exact hgo
def tAt (xs:List ETerm) (n:Nat):ETerm:=xs[n]?.getD ([],0)
theorem jau {xs:List ETerm} {n:Nat} (h:n<xs.length):xs[n]=tAt xs n:=by unfold tAt;rw[zc h];rfl
theorem jce (xs:List ETerm) (k n:Nat):tAt (xs.drop k) n=tAt xs (k+n):=by unfold tAt;rw[zaL]
def mt (l:List ETerm) (f:List (List UInt8)) (j:Nat):Bool:=decide ((tAt l j).1=wAt f j)&&decide ((tAt l j).2=(tAt l 0).2+j)
def jp (l:List ETerm) (f:List (List UInt8)):Bool:=allN f.length (fun j=>decide (j<l.length)&&mt l f j)
def AtOk (l:List ETerm):Prop:=∀x,x∈l->0<=x.2/\x.2<1000000
theorem AtOk.at {l:List ETerm} (h:AtOk l) (n:Nat):0<=(tAt l n).2/\(tAt l n).2<1000000:=by
 unfold tAt
 cases hx:l[n]? with
 |none=>show(0:Int)<=0/\(0:Int)<1000000;omega
 |some x=>exact h x (zak hx)
theorem joH (N:Nat) (l:List ETerm) (f:List (List UInt8)) (hf:f.length<=1048576) (hN:1048576<N) (hl:AtOk l):jcC N l f=some (jp l f):=by
 unfold jcC jp
 refine(jcr _ f.length (fun n=>(l,f,(n:Int))) (fun j=>decide (j<l.length)&&mt l f j) (some false) (some true) (fun go=>?_) (fun go n hn=>?_) N (by omega)).trans (by cases allN f.length (fun j=>decide (j<l.length)&&mt l f j)<;>rfl)
 .dsimp only
  rw[zd (zcd _),ze]
 .dsimp only
  rw[zb (by omega:(n:Int)<f.length),zg]
  by_cases h:n<l.length
  .have h0:=hl.at 0
   rw[zd (by omega:¬(l.length:Int)<=(n:Int)),ze,zb h,zaj,idx_at h,za,idx_at hn,za,za,show(0:Int)=((0:Nat):Int)from rfl,idx_at (by omega:0<l.length),za,jau h,jau (by omega:0<l.length),jae hn,zf (by unfold fits;omega),zf (fits_nat (n:=n) (by omega)),cast_succ']
   unfold mt
   cases decide ((tAt l n).1=wAt f n)with
   |false=>rfl
   |true=>
    rw[zn,ze,zaj]
    cases decide ((tAt l n).2=(tAt l 0).2+(n:Int))<;>rfl
  .rw [zb (by omega:(l.length:Int)<=(n:Int)),zg,zd h];rfl
def jg (l:List ETerm) (best:Option ESyn) (y:ESyn):Option ESyn:=bif jp l y.1&&(match best with|none=>true|some b=>decide (b.1.length<y.1.length))then some y else best
theorem jsT (l:List ETerm) (b:Option ESyn) (y:ESyn):(jg l b y=some y/\jp l y.1=true)\/jg l b y=b:=by
 unfold jg
 cases hb:jp l y.1 with
 |false=>exact .inr rfl
 |true=>
  rw[zaj]
  generalize(match b with|none=>true|some b=>decide (b.1.length<y.1.length))=q
  cases q
  .exact .inr rfl
  .exact .inl ⟨rfl,rfl⟩
theorem jlc (l:List ETerm) (y:ESyn):jg l none y=bif jp l y.1 then some y else none:=by unfold jg;rw[zaV]
theorem jqL (l:List ETerm) (p y:ESyn) (h:p.1.length<y.1.length):jg l (some p) y=bif jp l y.1 then some y else some p:=by unfold jg;dsimp only;rw[zb h,zaV]
theorem jno (l:List ETerm) (p y:ESyn) (h:¬p.1.length<y.1.length):jg l (some p) y=some p:=by unfold jg;dsimp only;rw[zd h,zcf];rfl
def syn (c2:List ESyn) (l:List ETerm):Option ESyn:=c2.foldl (jg l) none
theorem foldl_step {α β:Type} (f:β->α->β) (b:β) (xs:List α) (n:Nat) (h:n<xs.length):(xs.take (n+1)).foldl f b=f ((xs.take n).foldl f b) xs[n]:=by
 rw[zo h,zaX];rfl
theorem jcX (c2:List ESyn) (l:List ETerm) {y:ESyn} (h:syn c2 l=some y):y∈c2/\jp l y.1=true:=by
 have key:∀n,n<=c2.length->∀y,(c2.take n).foldl (jg l) none=some y->y∈c2/\jp l y.1=true:=by
  intro n
  induction n with
  |zero=>intro _ y h;cases h
  |succ n ih=>
   intro hn y h
   rw[foldl_step _ _ _ _ (by omega)]at h
   rcases jsT l ((c2.take n).foldl (jg l) none) (c2[n]'(by omega))with⟨h1,h2⟩|h1
   .rw [h1]at h
    cases h
    exact⟨zr _,h2⟩
   .rw [h1]at h
    exact ih (by omega) y h
 exact key c2.length (zae _) y (by rw[zq];exact h)
theorem jc1 {l:List ETerm} {f:List (List UInt8)} (h:jp l f=true):f.length<=l.length:=by
 by_cases h0:f.length=0
 .omega
 unfold jp allN at h
 rw[zax]at h
 have:=h (f.length-1) (by simp;omega)
 rw[zj,zw]at this
 omega
theorem jsF (N:Nat) (c:EConf) (l:List ETerm) (hc:c.2.length<=4) (hy:∀y,y∈c.2->y.1.length<=1048576) (hN:1048576<N) (hl:AtOk l):
  Def (jcJ N c.1 c.2 l) fun r=>(r=-1/\syn c.2 l=none)\/ ∃k:Nat,r=(k:Int)/\∃h:k<c.2.length,syn c.2 l=some c.2[k]:=by
 unfold jcJ
 refine Def.upto c.2.length (fun n g=>∃b:Int,g=(l,b,(n:Int),c.1,c.2)/\((b=-1/\(c.2.take n).foldl (jg l) none=none)\/ ∃k:Nat,b=(k:Int)/\∃h:k<c.2.length,(c.2.take n).foldl (jg l) none=some c.2[k])) (fun go g hg=>?_) (fun go n g hn hg hgo=>?_) N 0 _ (zaf _) ⟨-1,rfl,.inl ⟨rfl,rfl⟩⟩ (by omega)
 .obtain ⟨b,rfl,hb⟩:=hg
  dsimp only
  rw[zd (zcd _),ze]
  rw[zq]at hb
  exact Def.ret hb
 .obtain ⟨b,rfl,hb⟩:=hg
  dsimp only
  rw[zb (by omega:(n:Int)<c.2.length),zg,idx_at hn,za,joH N l _ (hy _ (zr hn)) hN hl,za]
  have hst:=foldl_step (jg l) none c.2 n hn
  refine Def.bif (fun h1=>?_) (fun h1=>?_)
  .refine Def.dif (fun h2=>?_) (fun h2=>?_)
   .refine Def.ite (fits_nat (n:=n) (by omega)) (hgo _ ⟨(n:Int),by rw[cast_succ'],.inr ⟨n,rfl,hn,?_⟩⟩)
    rcases hb with⟨_,hb⟩|⟨k,rfl,_⟩
    .rw [hst,hb];unfold jg;rw[h1];rfl
    .omega
   .rcases hb with⟨rfl,_⟩|⟨k,rfl,hk,hb⟩
    .omega
    rw[za,idx_at hk,za]
    refine Def.dif (fun h3=>?_) (fun h3=>?_)
    .refine Def.ite (fits_nat (n:=n) (by omega)) (hgo _ ⟨(n:Int),by rw[cast_succ'],.inr ⟨n,rfl,hn,?_⟩⟩)
     rw[hst,hb];unfold jg;rw[h1];dsimp only;rw[zb (by omega:c.2[k].1.length<c.2[n].1.length)];rfl
    .refine Def.ite (fits_nat (n:=n) (by omega)) (hgo _ ⟨(k:Int),by rw[cast_succ'],.inr ⟨k,rfl,hk,?_⟩⟩)
     rw[hst,hb];unfold jg;rw[h1];dsimp only;rw[zd (by omega:¬c.2[k].1.length<c.2[n].1.length)];rfl
  .refine Def.ite (fits_nat (n:=n) (by omega)) (hgo _ ⟨b,by rw[cast_succ'],?_⟩)
   have:(c.2.take (n+1)).foldl (jg l) none=(c.2.take n).foldl (jg l) none:=by rw[hst];unfold jg;rw[h1];rfl
   rw[this];exact hb
theorem jlh (N:Nat) (c:List (List UInt8)) (c2:List ESyn) (ts:List ETerm) (a:Nat) (ha:a<ts.length) (hts:ts.length<=100000) (hc:c2.length<=4) (hy:∀y,y∈c2->y.1.length<=1048576) (hN:1048576<N) (hl:AtOk ts):
  jbH N c c2 ts (a:Int)=some (syn c2 (ts.drop a)):=by
 unfold jbH
 refine(iter_scan _ c2.length (fun n=>(ts,(a:Int),(c2.take n).foldl (jg (ts.drop a)) none,(c2.length:Int),(n:Int),c,c2)) (fun _=>some (syn c2 (ts.drop a))) (fun go=>?_) (fun go n hn hgo=>?_) N 0 (zaf _) (by omega)).trans rfl
 .dsimp only
  rw[zd (zcd _),ze,zq]
  rfl
 dsimp only
 have hy1:=hy _ (zr hn)
 have hst:=foldl_step (jg (ts.drop a)) none c2 n hn
 generalize hb:(c2.take n).foldl (jg (ts.drop a)) none=best at hst⊢
 simp only[cast_succ']at hgo
 rw[zb (by omega:(n:Int)<c2.length),zg,idx_at hn,za,zf (by unfold fits;omega)]
 by_cases hlen:(ts.length:Int)-(a:Int)<c2[n].1.length
 .have hnb:jp (ts.drop a) c2[n].1=false:=by
   cases h:jp (ts.drop a) c2[n].1 with
   |false=>rfl
   |true=>have:=jc1 h;rw[zaQ]at this;omega
  rw[zb hlen,zg,zf (fits_nat (n:=n) (by omega)),<-hgo,hst]
  unfold jg
  rw[hnb]
  rfl
 rw[zd hlen,ze]
 have hmt:allN c2[n].1.length (mt (ts.drop a) c2[n].1)=jp (ts.drop a) c2[n].1:=by
  unfold jp
  refine jtc fun j hj=>?_
  rw[zb (by rw[zaQ];omega),zaj]
 cases best with
 |some p=>
  rw[show(!Option.isNone (some p))=true from rfl,zg,za]
  by_cases hle:(c2[n].1.length:Int)<=(p.1.length:Int)
  .rw [zb hle,zg,zf (fits_nat (n:=n) (by omega)),<-hgo,hst,jno _ _ _ (by omega)]
  .rw [zd hle,ze]
   refine(iter_scan _ c2[n].1.length (fun k=>(ts,(a:Int),(some p),c2[n],allN k (mt (ts.drop a) c2[n].1),(c2.length:Int),(n:Int),false,c2[n].1,(c2[n].1.length:Int),(k:Int),c,c2)) (fun _=>go (ts,(a:Int),(bif allN c2[n].1.length (mt (ts.drop a) c2[n].1)then some c2[n]else(some p)),(c2.length:Int),(n:Int)+1,c,c2)) (fun go2=>?_) (fun go2 k hk hgo2=>?_) N 0 (zaf _) (by omega)).trans ?_
   .dsimp only
    rw[zd (zcd _),ze,zf (fits_nat (n:=n) (by omega)),zf (fits_nat (n:=n) (by omega))]
    cases allN c2[n].1.length (mt (ts.drop a) c2[n].1)<;>rfl
   .dsimp only
    rw[<-hgo2,jh8]
    have hak:a+k<ts.length:=by omega
    have h0:=(hl.at a)
    rw[zb (by omega:(k:Int)<c2[n].1.length),zg,idx_at hk,za,zf (by unfold fits;omega),show(a:Int)+(k:Int)=((a+k:Nat):Int)from by push_cast;rfl,idx_at hak,za,idx_at (by omega:a<ts.length),za,jau hak,jau (by omega:a<ts.length),jae hk,zf (show fits ((tAt ts a).2+(k:Int))from by unfold fits;omega),cast_succ']
    have hfk:fits ((k:Int)+1):=fits_nat (n:=k) (by omega)
    simp only[zf hfk]
    have hm:mt (ts.drop a) c2[n].1 k=(decide ((tAt ts (a+k)).1=wAt c2[n].1 k)&&decide ((tAt ts (a+k)).2=(tAt ts a).2+(k:Int))):=by unfold mt;rw[jce,jce];rfl
    rw[hm]
    cases allN k (mt (ts.drop a) c2[n].1)with
    |false=>rfl
    |true=>
     cases decide ((tAt ts (a+k)).1=wAt c2[n].1 k)<;>rfl
   .rw [hmt,<-hgo,hst,jqL _ _ _ (by omega)]
 |none=>
  rw[show(!Option.isNone (none:Option ESyn))=false from rfl,ze]
  refine(iter_scan _ c2[n].1.length (fun k=>(ts,(a:Int),(none:Option ESyn),c2[n],allN k (mt (ts.drop a) c2[n].1),(c2.length:Int),(n:Int),false,c2[n].1,(c2[n].1.length:Int),(k:Int),c,c2)) (fun _=>go (ts,(a:Int),(bif allN c2[n].1.length (mt (ts.drop a) c2[n].1)then some c2[n]else(none:Option ESyn)),(c2.length:Int),(n:Int)+1,c,c2)) (fun go2=>?_) (fun go2 k hk hgo2=>?_) N 0 (zaf _) (by omega)).trans ?_
  .dsimp only
   rw[zd (zcd _),ze,zf (fits_nat (n:=n) (by omega)),zf (fits_nat (n:=n) (by omega))]
   cases allN c2[n].1.length (mt (ts.drop a) c2[n].1)<;>rfl
  .dsimp only
   rw[<-hgo2,jh8]
   have hak:a+k<ts.length:=by omega
   have h0:=(hl.at a)
   rw[zb (by omega:(k:Int)<c2[n].1.length),zg,idx_at hk,za,zf (by unfold fits;omega),show(a:Int)+(k:Int)=((a+k:Nat):Int)from by push_cast;rfl,idx_at hak,za,idx_at (by omega:a<ts.length),za,jau hak,jau (by omega:a<ts.length),jae hk,zf (show fits ((tAt ts a).2+(k:Int))from by unfold fits;omega),cast_succ']
   have hfk:fits ((k:Int)+1):=fits_nat (n:=k) (by omega)
   simp only[zf hfk]
   have hm:mt (ts.drop a) c2[n].1 k=(decide ((tAt ts (a+k)).1=wAt c2[n].1 k)&&decide ((tAt ts (a+k)).2=(tAt ts a).2+(k:Int))):=by unfold mt;rw[jce,jce];rfl
   rw[hm]
   cases allN k (mt (ts.drop a) c2[n].1)with
   |false=>rfl
   |true=>
    cases decide ((tAt ts (a+k)).1=wAt c2[n].1 k)<;>rfl
  .rw [hmt,<-hgo,hst,jlc]
theorem Def.cutTo {α β:Type} {xs:List α} {k:Nat} {f:List α->Option β} {Q:β->Prop} (h:k<=xs.length) (hf:Def (f (xs.drop k)) Q):Def (Option.bind (Go.Proofs.YtcinmmojlcchfaaGreatDoor.cut xs (k:Int) (xs.length:Int)) f) Q:=by
 refine Def.cut (by omega) (by omega) (Int.le_refl _) ?_
 simp only[zai,zq]
 exact hf
theorem jjE {c:EConf} (h:okConf c=true):c.1.length<=6/\c.2.length<=4/\∀y,y∈c.2->1<=y.1.length/\y.1.length<=3/\okW y.2=true/\jf y.2=y.2:=by
 unfold okConf at h
 simp only[zj,zw,zax]at h
 obtain⟨h1,_,h2,h3⟩:=h
 refine⟨by omega,by omega,fun y hy=>?_⟩
 have:=h3 y hy
 unfold jL at this
 simp only[zj,zw]at this
 exact⟨by omega,by omega,this.2.1,this.2.2.1⟩
def termsF (c2:List ESyn) (l:List ETerm):List ETerm:=
 match l with
 | []=>[]
 |t::r=>match syn c2 (t::r)with
  |none=>t::termsF c2 r
  |some y=>(y.2,t.2)::termsF c2 (r.drop (y.1.length-1))
termination_by l.length
decreasing_by all_goals (simp; try omega)
theorem termsF_nil (c2:List ESyn):termsF c2 []=[]:=by rw[termsF]
theorem jiK {c2:List ESyn} {t:ETerm} {r:List ETerm} (h:syn c2 (t::r)=none):termsF c2 (t::r)=t::termsF c2 r:=by rw[termsF,h]
theorem jhH {c2:List ESyn} {t:ETerm} {r:List ETerm} {y:ESyn} (h:syn c2 (t::r)=some y) (hy:1<=y.1.length):termsF c2 (t::r)=(y.2,t.2)::termsF c2 ((t::r).drop y.1.length):=by
 rw[termsF,h]
 show(y.2,t.2)::termsF c2 (r.drop (y.1.length-1))=_
 obtain⟨k,hk⟩:∃k,y.1.length=k+1:=⟨y.1.length-1,by omega⟩
 rw[hk]
 rfl
theorem jKj (c2:List ESyn) (l:List ETerm):(termsF c2 l).length<=l.length:=by
 match l with
 | []=>rw[termsF_nil];exact zae _
 |t::r=>
  rw[termsF]
  split
  .have:=jKj c2 r
   simp only[zi];omega
  .rename_i y _
   have:=jKj c2 (r.drop (y.1.length-1))
   rw[zaQ]at this
   simp only[zi];omega
termination_by l.length
decreasing_by all_goals (simp; try omega)
def terms (c:EConf) (s:List UInt8):List ETerm:=termsF c.2 (plain c.1 s)
theorem terms_len (c:EConf) (s:List UInt8):(terms c s).length<=s.length:=zau (jKj _ _) (jdp _ _)
theorem plain_atOk (st:List (List UInt8)) (s:List UInt8) (hs:s.length<=10000):AtOk (plain st s):=fun x hx=>by
 have:=jtx st s x hx
 exact⟨this.1,by omega⟩
theorem AtOk.drop {l:List ETerm} (h:AtOk l) (n:Nat):AtOk (l.drop n):=fun x hx=>h x (List.mem_of_mem_drop hx)
theorem l2Terms_spec (N:Nat) (c:EConf) (s:List UInt8) (hs:s.length<=10000) (hN:1048576<N) (hc:okConf c=true):ja5 N c.1 c.2 s=some (terms c s):=by
 obtain⟨h6,h4,hys⟩:=jjE hc
 refine Def.get ?_
 unfold ja5
 rw[jkT N c s hs (by omega) h6]
 refine Def.bind (Def.eq rfl) fun r hr=>?_
 subst hr
 have hpl:=jdp c.1 s
 have hat:=plain_atOk c.1 s hs
 refine Def.iter (fun g=>g.2.2=(c.1,c.2)/\AtOk g.2.1/\g.1.length+g.2.1.length<=10000/\g.1++termsF c.2 g.2.1=terms c s) (fun g=>g.2.1.length) (fun go g hI hgo=>?_) N _ ⟨rfl,hat,by simp;omega,rfl⟩ (by dsimp only;omega)
 obtain⟨out,l,c3,c4⟩:=g
 obtain⟨e1,hl,hlen,hT⟩:=hI
 dsimp only at e1 hl hlen hT hgo⊢
 cases e1
 match l with
 | []=>
  refine Def.dif (fun h=>absurd h (by simp)) (fun _=>Def.ret ?_)
  rw[termsF_nil,zat]at hT
  exact hT
 |t::r=>
  have h0:0<(t::r).length:=by simp
  rw[zb (by omega:(0:Int)<((t::r).length:Int)),zg]
  refine Def.bind (jsF N c (t::r) h4 (fun y hy=>by have:=(hys y hy).2.1;omega) hN hl) fun k hk=>?_
  rcases hk with⟨rfl,hk⟩|⟨k,rfl,hk1,hk⟩
  .rw [zb (by decide:(-1:Int)<0),zg,show(0:Int)=((0:Nat):Int)from rfl,idx_at h0]
   refine Def.bind (Def.eq rfl) fun e he=>?_
   rw[he]
   refine Def.ite (room_of (by simp only[zi,zac]at hlen⊢;omega) (by simp only[zi,zac]at hlen⊢;omega)) ?_
   refine Def.cutTo (k:=1) (by omega) (hgo _ ⟨rfl,hl.drop 1,?_,?_⟩ ?_)
   .dsimp only;simp only[zam,zi,zac,zaQ]at hlen⊢;omega
   .dsimp only;rw[<-hT,jiK hk,zao];rfl
   .dsimp only;simp only[zi,zaQ];omega
  .have hy:=hys _ (zr hk1)
   have hb:=jc1 (jcX _ _ hk).2
   rw[zd (by omega:¬(k:Int)<0),ze,idx_at hk1,show(0:Int)=((0:Nat):Int)from rfl,idx_at h0]
   refine Def.bind (Def.eq rfl) fun y he=>?_
   rw[he]
   refine Def.bind (Def.eq rfl) fun e he=>?_
   rw[he]
   refine Def.ite (room_of (by simp only[zi,zac]at hlen⊢;omega) (by simp only[zi,zac]at hlen⊢;omega)) ?_
   refine Def.bind (Def.eq rfl) fun y he=>?_
   rw[he]
   refine Def.cutTo hb (hgo _ ⟨rfl,hl.drop _,?_,?_⟩ ?_)
   .dsimp only;simp only[zam,zi,zac,zaQ]at hlen hb⊢;omega
   .dsimp only;rw[<-hT,jhH hk hy.1,zao];rfl
   .dsimp only;simp only[zi,zaQ]at hb⊢;omega
theorem jLp (N:Nat) (c:EConf) (s:List UInt8) (hs:s.length<N) (hM:Sm<N) (hN:N<=1099511627776) (ho:okD Sm TConf c):jbw N c.1 c.2 s=some (bif okConf c&&okT s then terms c s else []):=by
 have hM':1048576<N:=hM
 refine Def.get ?_
 unfold jbw
 rw[confOk_spec N hM hN c ho]
 refine Def.bind (Def.eq rfl) fun r hr=>?_
 subst hr
 cases hc:okConf c with
 |false=>exact Def.ret rfl
 |true=>
 obtain⟨h6,h4,hys⟩:=jjE hc
 rw[zn,ze,jdd N s hs hN]
 refine Def.bind (Def.eq rfl) fun r hr=>?_
 subst hr
 cases ht:okT s with
 |false=>exact Def.ret rfl
 |true=>
 have hs160:s.length<=160:=by
  unfold okT at ht
  simp only[zj,zw]at ht
  omega
 rw[zn,ze,jox N s (by omega) hN,ht,zg]
 refine Def.bind (Def.eq rfl) fun r hr=>?_
 subst hr
 have hwl:(words s).length<=s.length:=ja9 s 0 0
 have hpl:=jdp c.1 s
 have hat:=plain_atOk c.1 s (by omega)
 refine Def.upto (words s).length (fun n g=>g=([],((words s).take n).filterMap (jE c.1),words s,((words s).length:Int),(n:Int),c.1,c.2)) (fun go g hg=>?_) (fun go n g hn hg hgo=>?_) N 0 _ (zaf _) rfl (by omega)
 .subst hg
  dsimp only
  rw[zd (zcd _),ze,zq]
  change Def (iter _ N ([],plain c.1 s,0,c.1,c.2)) _
  refine Def.iter (fun g=>g.2.1=plain c.1 s/\g.2.2.2=(c.1,c.2)/\∃a:Nat,g.2.2.1=(a:Int)/\a<=(plain c.1 s).length/\g.1.length<=a/\g.1++termsF c.2 ((plain c.1 s).drop a)=terms c s) (fun g=>(plain c.1 s).length-g.2.2.1.toNat) (fun go g hI hgo=>?_) N _ ⟨rfl,rfl,0,rfl,zaf _,by simp,by simp[terms]⟩ (by dsimp only;omega)
  obtain⟨out,l,a0,c3,c4⟩:=g
  obtain⟨e0,e1,a,ea,hal,hol,hT⟩:=hI
  dsimp only at e0 e1 ea hol hT hgo⊢
  cases e1
  subst e0 ea
  refine Def.dif (fun hlt=>?_) (fun hge=>?_)
  .have ha:a<(plain c.1 s).length:=by omega
   rw[jlh N c.1 c.2 _ a ha (by omega) h4 (fun y hy=>by have:=(hys y hy).2.1;omega) hM' hat]
   refine Def.bind (Def.eq rfl) fun r hr=>?_
   subst hr
   rw[zan ha]at hT
   cases hk:syn c.2 ((plain c.1 s).drop a)with
   |none=>
    rw[zan ha]at hk
    rw[jiK hk]at hT
    rw[show(Option.isNone (none:Option ESyn))=true from rfl,zg,idx_at ha]
    refine Def.bind (Def.eq rfl) fun e he=>?_
    subst he
    refine Def.ite (room_of (by simp only[zi,zac];omega) (by simp only[zi,zac];omega)) (Def.ite (fits_nat (n:=a) (by omega)) (hgo _ ⟨rfl,rfl,a+1,by push_cast;rfl,by omega,by simp;omega,?_⟩ (by dsimp only;omega)))
    dsimp only
    rw[<-hT,zao];rfl
   |some y=>
    have hk':=hk
    rw[zan ha]at hk
    have hy:=hys _ (jcX _ _ hk').1
    have hb:=jc1 (jcX _ _ hk').2
    rw[zaQ]at hb
    rw[jhH hk hy.1,<-zan ha,zcc]at hT
    rw[show(Option.isNone (some y))=false from rfl,ze]
    refine Def.bind (Def.eq rfl) fun p hp=>?_
    subst hp
    rw[idx_at ha]
    refine Def.bind (Def.eq rfl) fun e he=>?_
    subst he
    refine Def.ite (room_of (by simp only[zi,zac];omega) (by simp only[zi,zac];omega)) ?_
    refine Def.bind (Def.eq rfl) fun p hp=>?_
    subst hp
    refine Def.ite (by unfold fits;omega) (hgo _ ⟨rfl,rfl,a+p.1.length,by push_cast;rfl,by omega,by simp;omega,?_⟩ (by dsimp only;omega))
    dsimp only
    rw[<-hT,zao];rfl
  .refine Def.ret ?_
   rw[zbw (by omega),termsF_nil,zat]at hT
   exact hT
 .subst hg
  dsimp only
  have hw:=(jbs s 0 0 (words s)[n] (zr hn)).1
  have hwl2:=jbS hw
  have hfl:(((words s).take n).filterMap (jE c.1)).length<=n:=zau (List.length_filterMap_le _ _) (by simp;omega)
  have hst:=filterMap_step (jE c.1) (words s) n hn
  rw[zb (by omega:(n:Int)<((words s).length:Int)),zg,idx_at hn,za,jdw N _ (by omega) (by omega) hN,za,hw,zg,jcV N _ _ (by omega) (by omega),za]
  by_cases h1:(words s)[n].1∈c.1
  .rw [zb h1,zn,ze]
   rw[show jE c.1 (words s)[n]=none from zf (.inl h1)]at hst;simp only[zat]at hst
   exact Def.ite (fits_nat (n:=n) (by omega)) (hgo _ (by rw[hst,cast_succ']))
  .rw [zd h1,zaI,zg,jcV N _ _ (by omega) (by omega),za]
   by_cases h2:jf (words s)[n].1∈c.1
   .rw [zb h2,zn,ze]
    rw[show jE c.1 (words s)[n]=none from zf (.inr h2)]at hst;simp only[zat]at hst
    exact Def.ite (fits_nat (n:=n) (by omega)) (hgo _ (by rw[hst,cast_succ']))
   .rw [zd h2,zaI,zg]
    rw[show jE c.1 (words s)[n]=some (jf (words s)[n].1,(words s)[n].2.1)from zu (by rintro(h|h)<;>contradiction)]at hst;simp only at hst
    exact Def.ite (room_of (by simp only[zi,zac];omega) (by simp only[zi,zac];omega)) (Def.ite (fits_nat (n:=n) (by omega)) (hgo _ (by rw[hst,cast_succ'])))
end Go.Proofs.YtcinmmojlcchfaaGreatDoor
