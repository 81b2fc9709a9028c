import Derived.Test.YtcinmmojlcchfaaGreatDoorSE1
import Derived.Test.YtcinmmojlcchfaaGreatDoorSD1
import Derived.Test.YtcinmmojlcchfaaGreatDoorFS
set_option linter.unusedVariables false
set_option linter.unusedSimpArgs false
namespace Go.Proofs.YtcinmmojlcchfaaGreatDoor
open Go.RowKit
structure SizG (d:EDoc) (n:Nat):Prop where
 id: -9223372036854775808<=d.1/\d.1<=9223372036854775807
 fl:d.2.1.length<=n
 al:d.2.2.length<=n
 f:∀f,f∈d.2.1->f.1.length<=1048576/\f.2.length<=1048576
 a:∀a,a∈d.2.2->a.1.length<=1048576/\ -9223372036854775808<=a.2/\a.2<=9223372036854775807
structure StOk (st:StS) (k m t:Nat):Prop where
 od:∀d,d∈st.1->okD Sm TDoc d
 kl:st.1.length<=k
 ml:st.2.1.length<=m
 num:∀n,n∈st.2.1-> -1<=n/\n<=999999999
 tl:st.2.2.length<=t
theorem okD_ok {d:EDoc} (h:okDoc d=true):okD Sm TDoc d:=by
 have g:=goodD h
 have h1:=g.id1
 have h2:=g.id2
 have h3:=g.fl
 have h4:=g.al
 refine⟨⟨by show(-9223372036854775808:Int)<=d.1;omega,by show d.1<=9223372036854775807;omega⟩,⟨by show d.2.1.length<=1048576;omega,fun(f:EField) hf=>?_⟩,⟨by show d.2.2.length<=1048576;omega,fun(a:EAttr) ha=>?_⟩⟩
 .obtain ⟨k1,k2⟩:=g.f f hf
  have k3:=((okW_iff _).1 k1).2.2
  have k4:=okT_len k2
  exact⟨by show f.1.length<=1048576;omega,by show f.2.length<=1048576;omega⟩
 .obtain ⟨k1,k2,k3⟩:=g.a a ha
  have k4:=((okW_iff _).1 k1).2.2
  exact⟨by show a.1.length<=1048576;omega,by show(-9223372036854775808:Int)<=a.2;omega,by show a.2<=9223372036854775807;omega⟩
theorem docT_small {d:EDoc} (h:okDoc d=true):(docT d).length<=1000:=by
 have g:=goodD h
 have h0:=itoa_len20 (n:=d.1) (by have:=g.id1;omega) (by have:=g.id2;omega)
 have h1:=flat_le fieldE 200 d.2.1 fun f hf=>by
  obtain⟨k1,k2⟩:=g.f f hf
  have k3:=((okW_iff _).1 k1).2.2
  have k4:=okT_len k2
  unfold fieldE fieldLn
  simp only[zam,zi,zac]
  omega
 have h2:=flat_le numE 60 d.2.2 fun a ha=>by
  obtain⟨k1,k2,k3⟩:=g.a a ha
  have k4:=((okW_iff _).1 k1).2.2
  have k5:=itoa_len20 (n:=a.2) (by omega) (by omega)
  unfold numE numLn
  simp only[zam,zi,zac]
  omega
 have h3:=g.fl
 have h4:=g.al
 have h5:=zag 200 h3
 have h6:=zag 60 h4
 rw[docT_eq]
 unfold docLn
 simp only[zam,zi,zac]
 omega
theorem OneL.small {c:EConf} {l:ELive} (o:OneL c l):(liveT l.1.1 l.2).length<=1048576:=by
 have h1:=flat_le docT 1000 l.1.1 fun d hd=>docT_small (okDoc_each o.docs d hd)
 have h2:=flat_le deadE 26 l.2 fun n hn=>by
  have:=o.nums n hn
  exact dead_len (by omega) (by omega)
 have h3:=zag 1000 o.few
 have h4:=zag 26 o.dead
 rw[liveT_eq,zam]
 omega
theorem markText_loop {F:((Int×List UInt8)->Option (List UInt8))->(Int×List UInt8)->Option (List UInt8)} (hF:F=fun go g=>match g with
    |(k2,out)=>
    (bif(decide ((0:Int)<k2))then
     (if 10≠0 then
      (if fits (48+(k2.tmod 10))then(if(bytesOf ([(IntKind.u8.wrap (48+(k2.tmod 10)))]:List Int)).length+out.length<=9223372036854775807 then
        (if 10≠0 then
         (if fits (k2.tdiv 10)then(go ((k2.tdiv 10),((bytesOf ([(IntKind.u8.wrap (48+(k2.tmod 10)))]:List Int))++out)))else none)
         else none)
        else none)else none)
      else none)
     else
     (if([109]:List UInt8).length+out.length<=9223372036854775807 then
      (some (([109]:List UInt8)++out))
      else none))):∀(j N:Nat) (k:Int) (out:List UInt8),0<=k->k<=9223372036854775807->k<(10:Int)^j->j<N->out.length+j<=1000->Def (iter F N (k,out)) fun _=>True
 |_,0,_,_,_,_,_,h,_=>absurd h (Nat.not_lt_zero _)
 |0,N+1,k,out,h0,hk,h1,h2,h3=>by
  show Def (F (iter F N) (k,out)) _
  subst hF
  dsimp only
  rw[zd (by simp at h1;omega),ze]
  exact Def.ite (by simp only[zi,zac];omega) (Def.ret True.intro)
 |j+1,N+1,k,out,h0,hk,h1,h2,h3=>by
  show Def (F (iter F N) (k,out)) _
  have ih:=fun out'=>markText_loop hF j N (k.tdiv 10) out'
  subst hF
  dsimp only
  have hp:(10:Int)^(j+1)=10*(10:Int)^j:=by rw[Int.pow_succ,Int.mul_comm]
  have hd:k.tdiv 10=k/10:=Int.tdiv_eq_ediv_of_nonneg h0
  have hm:k.tmod 10=k%10:=Int.tmod_eq_emod_of_nonneg h0
  refine Def.dif (fun e=>?_) (fun e=>Def.ite (by simp only[zi,zac];omega) (Def.ret True.intro))
  have hb:(bytesOf ([(IntKind.u8.wrap (48+(k.tmod 10)))]:List Int)).length=1:=by simp[bytesOf]
  refine Def.ite (by decide) (Def.ite (by unfold fits;omega) (Def.ite (by rw[hb];omega) (Def.ite (by decide) (Def.ite ?_ ?_))))
  .rw [hd];unfold fits;omega
  .refine ih _ (by omega) (by omega) (by omega) (by omega) ?_
   rw[zam,hb];omega
def mT (N:Nat) (k:Int):List UInt8:=(l_markText_m N k).getD []
theorem markText_spec (N:Nat) (k:Int) (h0:0<=k) (h1:k<=1000000000000000000) (hN:30<=N):l_markText_m N k=some (mT N k):=by
 have:Def (l_markText_m N k) fun _=>True:=by
  unfold l_markText_m
  refine Def.dif (fun e=>Def.ret True.intro) (fun e=>?_)
  exact markText_loop rfl 19 N k [] h0 (by omega) (by omega) (by omega) (by simp)
 obtain⟨r,h,_⟩:=this
 unfold mT
 rw[h];rfl
theorem mod_set {α:Type} (a:List α) (n:Nat) (v:α) (f:α->α):(a.set n v).modify n f=a.set n (f v):=by
 apply zbc
 intro i
 rw[List.getElem?_modify,zbm,zbm]
 by_cases e:n=i
 .subst e
  by_cases h:n<a.length
  .simp [h]
  .simp [h]
 .simp [e]
theorem setSet {α:Type} (a:List α) (n:Nat) (v w:α):(a.set n v).set n w=a.set n w:=List.set_set ..
theorem mod_at {α:Type} {a:List α} {n:Nat} (h:n<a.length) (f:α->α):a.modify n f=a.set n (f a[n]):=by
 have:=mod_set a n a[n] f
 rw[List.set_getElem_self]at this
 exact this
theorem mcnt_le8 {t:Tp} (c:t.D->Nat) (h:∀x,c x<=8*(tot t x+1)):∀xs:List t.D,mcnt c xs<=8*tot (.sl t) xs
 | []=>zaf _
 |x::xs=>by
  have h1:=h x
  have h2:=mcnt_le8 c h xs
  simp only[tot,mcnt,zi]at h2⊢
  omega
def mInt (x:Int) (k:Int):Int:=k
def cInt (x:Int):Nat:=1
def mStr (N:Nat) (x:List UInt8) (k:Int):List UInt8:=mT N k
def cStr (x:List UInt8):Nat:=1
theorem mcntInt_le (xs:List Int):mcnt cInt xs<=8*tot (.sl (.int .i64)) xs:=mcnt_le8 (t:=.int .i64) cInt (fun x=>by unfold cInt;omega) xs
theorem mcntString_le (xs:List (List UInt8)):mcnt cStr xs<=8*tot (.sl .str) xs:=mcnt_le8 (t:=.str) cStr (fun x=>by unfold cStr;omega) xs
theorem markStringS_spec (N:Nat) (hM:Sm<N) (hN:N<=1099511627776) (a:List (List UInt8)) (k:Int) (hk:0<=k) (hK:k+(mcnt cStr a:Nat)<=1000000000000000000) (ho:okD Sm (.sl .str) a):l_markStringS_m N a k=some (k+(mcnt cStr a:Nat),markL (mStr N) cStr a k):=by
 have hM1:1048576<N:=hM
 unfold l_markStringS_m
 refine markLoop_spec (mStr N) cStr N 1000000000000000000 (okD Sm .str) (fun go a k=>?_) (fun go a n hn k hn0 hx hk hK=>?_) a k hk hK (zal ho.1 hM) hN ho.2
 .dsimp only
  rw[zd (zcd _),ze]
 .dsimp only
  unfold cStr at hK
  rw[zb (by omega:(n:Int)<a.length),zg,markText_spec N _ (by omega) (by omega) (by omega),za,zf ⟨by omega,by first|omega|(simp only[zap,zaC];omega)⟩,zai,zc hn,za,zf (by unfold fits;omega),zf (by unfold fits;omega)]
  refine congrArg go (Prod.ext ?_ (Prod.ext ?_ rfl))
  .rfl
  .rfl
theorem markIntS_spec (N:Nat) (hM:Sm<N) (hN:N<=1099511627776) (a:List (Int)) (k:Int) (hk:0<=k) (hK:k+(mcnt cInt a:Nat)<=1000000000000000000) (ho:okD Sm (.sl (.int .i64)) a):l_markIntS_m N a k=some (k+(mcnt cInt a:Nat),markL mInt cInt a k):=by
 have hM1:1048576<N:=hM
 unfold l_markIntS_m
 refine markLoop_spec mInt cInt N 1000000000000000000 (okD Sm (.int .i64)) (fun go a k=>?_) (fun go a n hn k hn0 hx hk hK=>?_) a k hk hK (zal ho.1 hM) hN ho.2
 .dsimp only
  rw[zd (zcd _),ze]
 .dsimp only
  unfold cInt at hK
  rw[zb (by omega:(n:Int)<a.length),zg,zf ⟨by omega,by first|omega|(simp only[zap,zaC];omega)⟩,zai,zc hn,za,zf (by unfold fits;omega),zf (by unfold fits;omega)]
  refine congrArg go (Prod.ext ?_ (Prod.ext ?_ rfl))
  .rfl
  .rfl
def cSyn (x:ESyn):Nat:=mcnt cStr x.1+1
def mSyn (N:Nat) (x:ESyn) (k:Int):ESyn:=(markL (mStr N) cStr x.1 k,mT N (k+(mcnt cStr x.1:Nat)))
theorem cSyn_le (x:ESyn):cSyn x<=8*(tot TSyn x+1):=by
 have h0:=mcntString_le x.1
 unfold cSyn
 show _<=8*((tot .str x.2+tot (.sl .str) x.1)+1)
 omega
theorem mcntSyn_le (xs:List ESyn):mcnt cSyn xs<=8*tot (.sl TSyn) xs:=mcnt_le8 (t:=TSyn) cSyn (fun x=>cSyn_le x) xs
theorem markSynS_spec (N:Nat) (hM:Sm<N) (hN:N<=1099511627776) (a:List (ESyn)) (k:Int) (hk:0<=k) (hK:k+(mcnt cSyn a:Nat)<=1000000000000000000) (ho:okD Sm (.sl TSyn) a):l_markSynS_m N a k=some (k+(mcnt cSyn a:Nat),markL (mSyn N) cSyn a k):=by
 have hM1:1048576<N:=hM
 unfold l_markSynS_m
 refine markLoop_spec (mSyn N) cSyn N 1000000000000000000 (okD Sm TSyn) (fun go a k=>?_) (fun go a n hn k hn0 hx hk hK=>?_) a k hk hK (zal ho.1 hM) hN ho.2
 .dsimp only
  rw[zd (zcd _),ze]
 .dsimp only
  unfold cSyn at hK
  rw[zb (by omega:(n:Int)<a.length),zg,zf ⟨by omega,by first|omega|(simp only[zap,zaC];omega)⟩,zai,zc hn,za,markStringS_spec N hM hN _ _ (by omega) (by omega) hx.1,za,markText_spec N _ (by omega) (by omega) (by omega),za,zf ⟨by omega,by first|omega|(simp only[zap,zaC];omega)⟩,za,zf (by unfold fits;omega),zf (by unfold fits;omega)]
  refine congrArg go (Prod.ext ?_ (Prod.ext ?_ rfl))
  .dsimp only
   simp only[mod_set,setSet,mod_at hn,zaG]
   rfl
  .show _=k+((mcnt cStr a[n].1+1:Nat):Int)
   dsimp only
   omega
def cConf (x:EConf):Nat:=mcnt cStr x.1+mcnt cSyn x.2
def mConf (N:Nat) (x:EConf) (k:Int):EConf:=(markL (mStr N) cStr x.1 k,markL (mSyn N) cSyn x.2 (k+(mcnt cStr x.1:Nat)))
theorem cConf_le (x:EConf):cConf x<=8*(tot TConf x+1):=by
 have h0:=mcntString_le x.1
 have h1:=mcntSyn_le x.2
 unfold cConf
 show _<=8*((tot (.sl TSyn) x.2+tot (.sl .str) x.1)+1)
 omega
theorem markConf_spec (N:Nat) (hM:Sm<N) (hN:N<=1099511627776) (x:EConf) (k:Int) (hk:0<=k) (hK:k+(cConf x:Nat)<=1000000000000000000) (ho:okD Sm TConf x):l_markConf_m N x.1 x.2 k=some (k+(cConf x:Nat),(mConf N x k).1,(mConf N x k).2):=by
 have hM1:1048576<N:=hM
 unfold cConf at hK
 unfold l_markConf_m
 rw[markStringS_spec N hM hN _ _ (by omega) (by omega) ho.1,za,markSynS_spec N hM hN _ _ (by omega) (by omega) ho.2,za]
 refine congrArg some (Prod.ext ?_ rfl)
 show _=k+((mcnt cStr x.1+mcnt cSyn x.2:Nat):Int)
 dsimp only
 omega
def cField (x:EField):Nat:=1+1
def mField (N:Nat) (x:EField) (k:Int):EField:=(mT N k,mT N (k+1))
theorem cField_le (x:EField):cField x<=8*(tot TField x+1):=by
 unfold cField
 show _<=8*((tot .str x.2+tot .str x.1)+1)
 omega
theorem mcntField_le (xs:List EField):mcnt cField xs<=8*tot (.sl TField) xs:=mcnt_le8 (t:=TField) cField (fun x=>cField_le x) xs
theorem markFieldS_spec (N:Nat) (hM:Sm<N) (hN:N<=1099511627776) (a:List (EField)) (k:Int) (hk:0<=k) (hK:k+(mcnt cField a:Nat)<=1000000000000000000) (ho:okD Sm (.sl TField) a):l_markFieldS_m N a k=some (k+(mcnt cField a:Nat),markL (mField N) cField a k):=by
 have hM1:1048576<N:=hM
 unfold l_markFieldS_m
 refine markLoop_spec (mField N) cField N 1000000000000000000 (okD Sm TField) (fun go a k=>?_) (fun go a n hn k hn0 hx hk hK=>?_) a k hk hK (zal ho.1 hM) hN ho.2
 .dsimp only
  rw[zd (zcd _),ze]
 .dsimp only
  unfold cField at hK
  rw[zb (by omega:(n:Int)<a.length),zg,markText_spec N _ (by omega) (by omega) (by omega),za,zf ⟨by omega,by first|omega|(simp only[zap,zaC];omega)⟩,zai,zc hn,za,zf (by unfold fits;omega),markText_spec N _ (by omega) (by omega) (by omega),za,zf ⟨by omega,by first|omega|(simp only[zap,zaC];omega)⟩,zc (by simp only[zap];exact hn),zaG,za,zf (by unfold fits;omega),zf (by unfold fits;omega)]
  refine congrArg go (Prod.ext ?_ (Prod.ext ?_ rfl))
  .dsimp only
   simp only[mod_set,setSet,mod_at hn,zaG]
   rfl
  .show _=k+((1+1:Nat):Int)
   dsimp only
   omega
def cAttr (x:EAttr):Nat:=1+1
def mAttr (N:Nat) (x:EAttr) (k:Int):EAttr:=(mT N k,(k+1))
theorem cAttr_le (x:EAttr):cAttr x<=8*(tot TAttr x+1):=by
 unfold cAttr
 show _<=8*((tot (.int .i64) x.2+tot .str x.1)+1)
 omega
theorem mcntAttr_le (xs:List EAttr):mcnt cAttr xs<=8*tot (.sl TAttr) xs:=mcnt_le8 (t:=TAttr) cAttr (fun x=>cAttr_le x) xs
theorem markAttrS_spec (N:Nat) (hM:Sm<N) (hN:N<=1099511627776) (a:List (EAttr)) (k:Int) (hk:0<=k) (hK:k+(mcnt cAttr a:Nat)<=1000000000000000000) (ho:okD Sm (.sl TAttr) a):l_markAttrS_m N a k=some (k+(mcnt cAttr a:Nat),markL (mAttr N) cAttr a k):=by
 have hM1:1048576<N:=hM
 unfold l_markAttrS_m
 refine markLoop_spec (mAttr N) cAttr N 1000000000000000000 (okD Sm TAttr) (fun go a k=>?_) (fun go a n hn k hn0 hx hk hK=>?_) a k hk hK (zal ho.1 hM) hN ho.2
 .dsimp only
  rw[zd (zcd _),ze]
 .dsimp only
  unfold cAttr at hK
  rw[zb (by omega:(n:Int)<a.length),zg,markText_spec N _ (by omega) (by omega) (by omega),za,zf ⟨by omega,by first|omega|(simp only[zap,zaC];omega)⟩,zai,zc hn,za,zf (by unfold fits;omega),zf ⟨by omega,by first|omega|(simp only[zap,zaC];omega)⟩,zc (by simp only[zap];exact hn),zaG,za,zf (by unfold fits;omega),zf (by unfold fits;omega)]
  refine congrArg go (Prod.ext ?_ (Prod.ext ?_ rfl))
  .dsimp only
   simp only[mod_set,setSet,mod_at hn,zaG]
   rfl
  .show _=k+((1+1:Nat):Int)
   dsimp only
   omega
def cDoc (x:EDoc):Nat:=1+mcnt cField x.2.1+mcnt cAttr x.2.2
def mDoc (N:Nat) (x:EDoc) (k:Int):EDoc:=(k,markL (mField N) cField x.2.1 (k+1),markL (mAttr N) cAttr x.2.2 ((k+1)+(mcnt cField x.2.1:Nat)))
theorem cDoc_le (x:EDoc):cDoc x<=8*(tot TDoc x+1):=by
 have h1:=mcntField_le x.2.1
 have h2:=mcntAttr_le x.2.2
 unfold cDoc
 show _<=8*(((tot (.sl TAttr) x.2.2+tot (.sl TField) x.2.1)+tot (.int .i64) x.1)+1)
 omega
theorem mcntDoc_le (xs:List EDoc):mcnt cDoc xs<=8*tot (.sl TDoc) xs:=mcnt_le8 (t:=TDoc) cDoc (fun x=>cDoc_le x) xs
theorem markDocS_spec (N:Nat) (hM:Sm<N) (hN:N<=1099511627776) (a:List (EDoc)) (k:Int) (hk:0<=k) (hK:k+(mcnt cDoc a:Nat)<=1000000000000000000) (ho:okD Sm (.sl TDoc) a):l_markDocS_m N a k=some (k+(mcnt cDoc a:Nat),markL (mDoc N) cDoc a k):=by
 have hM1:1048576<N:=hM
 unfold l_markDocS_m
 refine markLoop_spec (mDoc N) cDoc N 1000000000000000000 (okD Sm TDoc) (fun go a k=>?_) (fun go a n hn k hn0 hx hk hK=>?_) a k hk hK (zal ho.1 hM) hN ho.2
 .dsimp only
  rw[zd (zcd _),ze]
 .dsimp only
  unfold cDoc at hK
  rw[zb (by omega:(n:Int)<a.length),zg,zf ⟨by omega,by first|omega|(simp only[zap,zaC];omega)⟩,zai,zc hn,za,zf (by unfold fits;omega),zf ⟨by omega,by first|omega|(simp only[zap,zaC];omega)⟩,zc (by simp only[zap];exact hn),zaG,za,markFieldS_spec N hM hN _ _ (by omega) (by omega) hx.2.1,za,zf ⟨by omega,by first|omega|(simp only[zap,zaC];omega)⟩,za,markAttrS_spec N hM hN _ _ (by omega) (by omega) hx.2.2,za,zf (by unfold fits;omega)]
  refine congrArg go (Prod.ext ?_ (Prod.ext ?_ rfl))
  .dsimp only
   simp only[mod_set,setSet,mod_at hn,zaG]
   rfl
  .show _=k+((1+mcnt cField a[n].2.1+mcnt cAttr a[n].2.2:Nat):Int)
   dsimp only
   omega
def cPost (x:EPost):Nat:=1+mcnt cInt x.2
def mPost (N:Nat) (x:EPost) (k:Int):EPost:=(k,markL mInt cInt x.2 (k+1))
theorem cPost_le (x:EPost):cPost x<=8*(tot TPost x+1):=by
 have h1:=mcntInt_le x.2
 unfold cPost
 show _<=8*((tot (.sl (.int .i64)) x.2+tot (.int .i64) x.1)+1)
 omega
theorem mcntPost_le (xs:List EPost):mcnt cPost xs<=8*tot (.sl TPost) xs:=mcnt_le8 (t:=TPost) cPost (fun x=>cPost_le x) xs
theorem markPostS_spec (N:Nat) (hM:Sm<N) (hN:N<=1099511627776) (a:List (EPost)) (k:Int) (hk:0<=k) (hK:k+(mcnt cPost a:Nat)<=1000000000000000000) (ho:okD Sm (.sl TPost) a):l_markPostS_m N a k=some (k+(mcnt cPost a:Nat),markL (mPost N) cPost a k):=by
 have hM1:1048576<N:=hM
 unfold l_markPostS_m
 refine markLoop_spec (mPost N) cPost N 1000000000000000000 (okD Sm TPost) (fun go a k=>?_) (fun go a n hn k hn0 hx hk hK=>?_) a k hk hK (zal ho.1 hM) hN ho.2
 .dsimp only
  rw[zd (zcd _),ze]
 .dsimp only
  unfold cPost at hK
  rw[zb (by omega:(n:Int)<a.length),zg,zf ⟨by omega,by first|omega|(simp only[zap,zaC];omega)⟩,zai,zc hn,za,zf (by unfold fits;omega),zf ⟨by omega,by first|omega|(simp only[zap,zaC];omega)⟩,zc (by simp only[zap];exact hn),zaG,za,markIntS_spec N hM hN _ _ (by omega) (by omega) hx.2,za,zf (by unfold fits;omega)]
  refine congrArg go (Prod.ext ?_ (Prod.ext ?_ rfl))
  .dsimp only
   simp only[mod_set,setSet,mod_at hn,zaG]
   rfl
  .show _=k+((1+mcnt cInt a[n].2:Nat):Int)
   dsimp only
   omega
def cEntry (x:EEntry):Nat:=1+1+mcnt cPost x.2.2
def mEntry (N:Nat) (x:EEntry) (k:Int):EEntry:=(mT N k,mT N (k+1),markL (mPost N) cPost x.2.2 ((k+1)+1))
theorem cEntry_le (x:EEntry):cEntry x<=8*(tot TEntry x+1):=by
 have h2:=mcntPost_le x.2.2
 unfold cEntry
 show _<=8*(((tot (.sl TPost) x.2.2+tot .str x.2.1)+tot .str x.1)+1)
 omega
theorem mcntEntry_le (xs:List EEntry):mcnt cEntry xs<=8*tot (.sl TEntry) xs:=mcnt_le8 (t:=TEntry) cEntry (fun x=>cEntry_le x) xs
theorem markEntryS_spec (N:Nat) (hM:Sm<N) (hN:N<=1099511627776) (a:List (EEntry)) (k:Int) (hk:0<=k) (hK:k+(mcnt cEntry a:Nat)<=1000000000000000000) (ho:okD Sm (.sl TEntry) a):l_markEntryS_m N a k=some (k+(mcnt cEntry a:Nat),markL (mEntry N) cEntry a k):=by
 have hM1:1048576<N:=hM
 unfold l_markEntryS_m
 refine markLoop_spec (mEntry N) cEntry N 1000000000000000000 (okD Sm TEntry) (fun go a k=>?_) (fun go a n hn k hn0 hx hk hK=>?_) a k hk hK (zal ho.1 hM) hN ho.2
 .dsimp only
  rw[zd (zcd _),ze]
 .dsimp only
  unfold cEntry at hK
  rw[zb (by omega:(n:Int)<a.length),zg,markText_spec N _ (by omega) (by omega) (by omega),za,zf ⟨by omega,by first|omega|(simp only[zap,zaC];omega)⟩,zai,zc hn,za,zf (by unfold fits;omega),markText_spec N _ (by omega) (by omega) (by omega),za,zf ⟨by omega,by first|omega|(simp only[zap,zaC];omega)⟩,zc (by simp only[zap];exact hn),zaG,za,zf (by unfold fits;omega),zf ⟨by omega,by first|omega|(simp only[zap,zaC];omega)⟩,zc (by simp only[zap];exact hn),zaG,za,markPostS_spec N hM hN _ _ (by omega) (by omega) hx.2.2,za,zf (by unfold fits;omega)]
  refine congrArg go (Prod.ext ?_ (Prod.ext ?_ rfl))
  .dsimp only
   simp only[mod_set,setSet,mod_at hn,zaG]
   rfl
  .show _=k+((1+1+mcnt cPost a[n].2.2:Nat):Int)
   dsimp only
   omega
def cSeg (x:ESeg):Nat:=mcnt cDoc x.1+mcnt cEntry x.2
def mSeg (N:Nat) (x:ESeg) (k:Int):ESeg:=(markL (mDoc N) cDoc x.1 k,markL (mEntry N) cEntry x.2 (k+(mcnt cDoc x.1:Nat)))
theorem cSeg_le (x:ESeg):cSeg x<=8*(tot TSeg x+1):=by
 have h0:=mcntDoc_le x.1
 have h1:=mcntEntry_le x.2
 unfold cSeg
 show _<=8*((tot (.sl TEntry) x.2+tot (.sl TDoc) x.1)+1)
 omega
abbrev TLive :Tp:=.pair TSeg (.sl (.int .i64))
def cLive (x:ELive):Nat:=cSeg x.1+mcnt cInt x.2
def mLive (N:Nat) (x:ELive) (k:Int):ELive:=(mSeg N x.1 k,markL mInt cInt x.2 (k+(cSeg x.1:Nat)))
end Go.Proofs.YtcinmmojlcchfaaGreatDoor
