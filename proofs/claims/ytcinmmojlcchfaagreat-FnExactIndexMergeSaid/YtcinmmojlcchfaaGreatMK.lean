/- Plain laws: the laws' own marks over string, int, Syn, Conf, Field, Attr, Doc, Post, Entry. (marks.py) -/
import Derived.Test.YtcinmmojlcchfaaGreatFS
set_option linter.unusedVariables false
set_option linter.unusedSimpArgs false
namespace Go.Proofs.YtcinmmojlcchfaaGreat
open Go.RowKit
theorem jhG {F:((Int×List UInt8)->Option (List UInt8))->(Int×List UInt8)->Option (List UInt8)} (hF:F=fun go g=>match g with
    |(k2,out)=>
    (bif(decide ((0:Int)<k2))then
     (if 10≠0 then
      (if fits (48+(k2.tmod 10))then(if(bytesOf ([(IntKind.u8.wrap (48+(k2.tmod 10)))]:List Int)).length+out.length<=9223372036854775807 then
        (if 10≠0 then
         (if fits (k2.tdiv 10)then(go ((k2.tdiv 10),((bytesOf ([(IntKind.u8.wrap (48+(k2.tmod 10)))]:List Int))++out)))else none)
         else none)
        else none)else none)
      else none)
     else
     (if([109]:List UInt8).length+out.length<=9223372036854775807 then
      (some (([109]:List UInt8)++out))
      else none))):∀(j N:Nat) (k:Int) (out:List UInt8),0<=k->k<=9223372036854775807->k<(10:Int)^j->j<N->out.length+j<=1000->Def (iter F N (k,out)) fun _=>True
 |_,0,_,_,_,_,_,h,_=>absurd h (Nat.not_lt_zero _)
 |0,N+1,k,out,h0,hk,h1,h2,h3=>by
  show Def (F (iter F N) (k,out)) _
  subst hF
  dsimp only
  rw[zd (by simp at h1;omega),ze]
  exact Def.ite (by simp only[zi,zac];omega) (Def.ret True.intro)
 |j+1,N+1,k,out,h0,hk,h1,h2,h3=>by
  show Def (F (iter F N) (k,out)) _
  have ih:=fun out'=>jhG hF j N (k.tdiv 10) out'
  subst hF
  dsimp only
  have hp:(10:Int)^(j+1)=10*(10:Int)^j:=by rw[Int.pow_succ,Int.mul_comm]
  have hd:k.tdiv 10=k/10:=Int.tdiv_eq_ediv_of_nonneg h0
  have hm:k.tmod 10=k%10:=Int.tmod_eq_emod_of_nonneg h0
  refine Def.dif (fun e=>?_) (fun e=>Def.ite (by simp only[zi,zac];omega) (Def.ret True.intro))
  have hb:(bytesOf ([(IntKind.u8.wrap (48+(k.tmod 10)))]:List Int)).length=1:=by simp[bytesOf]
  refine Def.ite (by decide) (Def.ite (by unfold fits;omega) (Def.ite (by rw[hb];omega) (Def.ite (by decide) (Def.ite ?_ ?_))))
  .rw [hd];unfold fits;omega
  .refine ih _ (by omega) (by omega) (by omega) (by omega) ?_
   rw[zam,hb];omega
def mT (N:Nat) (k:Int):List UInt8:=(jr N k).getD []
theorem jU (N:Nat) (k:Int) (h0:0<=k) (h1:k<=1000000000000000000) (hN:30<=N):jr N k=some (mT N k):=by
 have:Def (jr N k) fun _=>True:=by
  unfold jr
  refine Def.dif (fun e=>Def.ret True.intro) (fun e=>?_)
  exact jhG rfl 19 N k [] h0 (by omega) (by omega) (by omega) (by simp)
 obtain⟨r,h,_⟩:=this
 unfold mT
 rw[h];rfl
theorem jac {α:Type} (a:List α) (n:Nat) (v:α) (f:α->α):(a.set n v).modify n f=a.set n (f v):=by
 apply zbc
 intro i
 rw[List.getElem?_modify,zbm,zbm]
 by_cases e:n=i
 .subst e
  by_cases h:n<a.length
  .simp [h]
  .simp [h]
 .simp [e]
theorem jar {α:Type} (a:List α) (n:Nat) (v w:α):(a.set n v).set n w=a.set n w:=List.set_set ..
theorem jax {α:Type} {a:List α} {n:Nat} (h:n<a.length) (f:α->α):a.modify n f=a.set n (f a[n]):=by
 have:=jac a n a[n] f
 rw[List.set_getElem_self]at this
 exact this
theorem jP {t:Tp} (c:t.D->Nat) (h:∀x,c x<=8*(tot t x+1)):∀xs:List t.D,mcnt c xs<=8*tot (.sl t) xs
 | []=>zaf _
 |x::xs=>by
  have h1:=h x
  have h2:=jP c h xs
  simp only[tot,mcnt,zi]at h2⊢
  omega
def mInt (x:Int) (k:Int):Int:=k
def cInt (x:Int):Nat:=1
def mStr (N:Nat) (x:List UInt8) (k:Int):List UInt8:=mT N k
def cStr (x:List UInt8):Nat:=1
theorem jkz (xs:List Int):mcnt cInt xs<=8*tot (.sl (.int .i64)) xs:=jP (t:=.int .i64) cInt (fun x=>by unfold cInt;omega) xs
theorem jgx (xs:List (List UInt8)):mcnt cStr xs<=8*tot (.sl .str) xs:=jP (t:=.str) cStr (fun x=>by unfold cStr;omega) xs
theorem jxg (N:Nat) (hM:Sm<N) (hN:N<=1099511627776) (a:List (List UInt8)) (k:Int) (hk:0<=k) (hK:k+(mcnt cStr a:Nat)<=1000000000000000000) (ho:okD Sm (.sl .str) a):jas N a k=some (k+(mcnt cStr a:Nat),jc (mStr N) cStr a k):=by
 have hM1:1048576<N:=hM
 unfold jas
 refine jW (mStr N) cStr N 1000000000000000000 (okD Sm .str) (fun go a k=>?_) (fun go a n hn k hn0 hx hk hK=>?_) a k hk hK (zal ho.1 hM) hN ho.2
 .dsimp only
  rw[zd (zcd _),ze]
 .dsimp only
  unfold cStr at hK
  rw[zb (by omega:(n:Int)<a.length),zg,jU N _ (by omega) (by omega) (by omega),za,zf ⟨by omega,by first|omega|(simp only[zap,zaC];omega)⟩,zai,zc hn,za,zf (by unfold fits;omega),zf (by unfold fits;omega)]
  refine congrArg go (Prod.ext ?_ (Prod.ext ?_ rfl))
  .rfl
  .rfl
theorem jKE (N:Nat) (hM:Sm<N) (hN:N<=1099511627776) (a:List (List UInt8)) (k:Int) (hk:0<=k) (hK:k+(mcnt cStr a:Nat)<=1000000000000000000) (ho:okD Sm (.sl .str) a):ja4 N (jc (mStr N) cStr a k) k=some (k+(mcnt cStr a:Nat)):=by
 have hM1:1048576<N:=hM
 unfold ja4
 refine jnA (mStr N) cStr N 1000000000000000000 (okD Sm .str) (fun go a k=>?_) (fun go a n hn k x hn0 hx ho hk hK=>?_) a k hk hK (zal ho.1 hM) hN ho.2
 .dsimp only
  rw[zd (zcd _),ze]
 .dsimp only
  unfold cStr at hK
  have e0:a[n]=mT N k:=hx
  rw[zb (by omega:(n:Int)<a.length),zg,idx_at hn,za,jU N _ (by omega) (by omega) (by omega),za,zb e0,zn,ze,zf (by unfold fits;omega),zf (by unfold fits;omega)]
  rfl
theorem jkK (N:Nat) (hM:Sm<N) (hN:N<=1099511627776) (a:List (Int)) (k:Int) (hk:0<=k) (hK:k+(mcnt cInt a:Nat)<=1000000000000000000) (ho:okD Sm (.sl (.int .i64)) a):jco N a k=some (k+(mcnt cInt a:Nat),jc mInt cInt a k):=by
 have hM1:1048576<N:=hM
 unfold jco
 refine jW mInt cInt N 1000000000000000000 (okD Sm (.int .i64)) (fun go a k=>?_) (fun go a n hn k hn0 hx hk hK=>?_) a k hk hK (zal ho.1 hM) hN ho.2
 .dsimp only
  rw[zd (zcd _),ze]
 .dsimp only
  unfold cInt at hK
  rw[zb (by omega:(n:Int)<a.length),zg,zf ⟨by omega,by first|omega|(simp only[zap,zaC];omega)⟩,zai,zc hn,za,zf (by unfold fits;omega),zf (by unfold fits;omega)]
  refine congrArg go (Prod.ext ?_ (Prod.ext ?_ rfl))
  .rfl
  .rfl
theorem jKK (N:Nat) (hM:Sm<N) (hN:N<=1099511627776) (a:List (Int)) (k:Int) (hk:0<=k) (hK:k+(mcnt cInt a:Nat)<=1000000000000000000) (ho:okD Sm (.sl (.int .i64)) a):jEi N (jc mInt cInt a k) k=some (k+(mcnt cInt a:Nat)):=by
 have hM1:1048576<N:=hM
 unfold jEi
 refine jnA mInt cInt N 1000000000000000000 (okD Sm (.int .i64)) (fun go a k=>?_) (fun go a n hn k x hn0 hx ho hk hK=>?_) a k hk hK (zal ho.1 hM) hN ho.2
 .dsimp only
  rw[zd (zcd _),ze]
 .dsimp only
  unfold cInt at hK
  have e0:a[n]=k:=hx
  rw[zb (by omega:(n:Int)<a.length),zg,idx_at hn,za,zb e0,zn,ze,zf (by unfold fits;omega),zf (by unfold fits;omega)]
  rfl
def cSyn (x:ESyn):Nat:=mcnt cStr x.1+1
def mSyn (N:Nat) (x:ESyn) (k:Int):ESyn:=(jc (mStr N) cStr x.1 k,mT N (k+(mcnt cStr x.1:Nat)))
theorem jmO (x:ESyn):cSyn x<=8*(tot TSyn x+1):=by
 have h0:=jgx x.1
 unfold cSyn
 show _<=8*((tot .str x.2+tot (.sl .str) x.1)+1)
 omega
theorem job (xs:List ESyn):mcnt cSyn xs<=8*tot (.sl TSyn) xs:=jP (t:=TSyn) cSyn (fun x=>jmO x) xs
theorem jlM (N:Nat) (hM:Sm<N) (hN:N<=1099511627776) (a:List (ESyn)) (k:Int) (hk:0<=k) (hK:k+(mcnt cSyn a:Nat)<=1000000000000000000) (ho:okD Sm (.sl TSyn) a):jbZ N a k=some (k+(mcnt cSyn a:Nat),jc (mSyn N) cSyn a k):=by
 have hM1:1048576<N:=hM
 unfold jbZ
 refine jW (mSyn N) cSyn N 1000000000000000000 (okD Sm TSyn) (fun go a k=>?_) (fun go a n hn k hn0 hx hk hK=>?_) a k hk hK (zal ho.1 hM) hN ho.2
 .dsimp only
  rw[zd (zcd _),ze]
 .dsimp only
  unfold cSyn at hK
  rw[zb (by omega:(n:Int)<a.length),zg,zf ⟨by omega,by first|omega|(simp only[zap,zaC];omega)⟩,zai,zc hn,za,jxg N hM hN _ _ (by omega) (by omega) hx.1,za,jU N _ (by omega) (by omega) (by omega),za,zf ⟨by omega,by first|omega|(simp only[zap,zaC];omega)⟩,za,zf (by unfold fits;omega),zf (by unfold fits;omega)]
  refine congrArg go (Prod.ext ?_ (Prod.ext ?_ rfl))
  .dsimp only
   simp only[jac,jar,jax hn,zaG]
   rfl
  .show _=k+((mcnt cStr a[n].1+1:Nat):Int)
   dsimp only
   omega
theorem jLG (N:Nat) (hM:Sm<N) (hN:N<=1099511627776) (a:List (ESyn)) (k:Int) (hk:0<=k) (hK:k+(mcnt cSyn a:Nat)<=1000000000000000000) (ho:okD Sm (.sl TSyn) a):jKc N (jc (mSyn N) cSyn a k) k=some (k+(mcnt cSyn a:Nat)):=by
 have hM1:1048576<N:=hM
 unfold jKc
 refine jnA (mSyn N) cSyn N 1000000000000000000 (okD Sm TSyn) (fun go a k=>?_) (fun go a n hn k x hn0 hx ho hk hK=>?_) a k hk hK (zal ho.1 hM) hN ho.2
 .dsimp only
  rw[zd (zcd _),ze]
 .dsimp only
  unfold cSyn at hK
  have e0:a[n].1=jc (mStr N) cStr x.1 k:=by rw[hx];rfl
  have e1:a[n].2=mT N (k+(mcnt cStr x.1:Nat)):=by rw[hx];rfl
  rw[zb (by omega:(n:Int)<a.length),zg,idx_at hn,za,e0,jKE N hM hN _ _ (by omega) (by omega) ho.1,za,zd (by omega),ze,za,jU N _ (by omega) (by omega) (by omega),za,zb e1,zn,ze,zf (by unfold fits;omega),zf (by unfold fits;omega)]
  refine congrArg go (Prod.ext rfl (Prod.ext ?_ rfl))
  show _=k+((mcnt cStr x.1+1:Nat):Int)
  dsimp only
  omega
def jGS (x:EConf):Nat:=mcnt cStr x.1+mcnt cSyn x.2
def jha (N:Nat) (x:EConf) (k:Int):EConf:=(jc (mStr N) cStr x.1 k,jc (mSyn N) cSyn x.2 (k+(mcnt cStr x.1:Nat)))
theorem jMi (x:EConf):jGS x<=8*(tot TConf x+1):=by
 have h0:=jgx x.1
 have h1:=job x.2
 unfold jGS
 show _<=8*((tot (.sl TSyn) x.2+tot (.sl .str) x.1)+1)
 omega
theorem jLY (N:Nat) (hM:Sm<N) (hN:N<=1099511627776) (x:EConf) (k:Int) (hk:0<=k) (hK:k+(jGS x:Nat)<=1000000000000000000) (ho:okD Sm TConf x):jb0 N x.1 x.2 k=some (k+(jGS x:Nat),(jha N x k).1,(jha N x k).2):=by
 have hM1:1048576<N:=hM
 unfold jGS at hK
 unfold jb0
 rw[jxg N hM hN _ _ (by omega) (by omega) ho.1,za,jlM N hM hN _ _ (by omega) (by omega) ho.2,za]
 refine congrArg some (Prod.ext ?_ rfl)
 show _=k+((mcnt cStr x.1+mcnt cSyn x.2:Nat):Int)
 dsimp only
 omega
theorem jLP (N:Nat) (hM:Sm<N) (hN:N<=1099511627776) (x:EConf) (k:Int) (hk:0<=k) (hK:k+(jGS x:Nat)<=1000000000000000000) (ho:okD Sm TConf x):jJ4 N (jha N x k).1 (jha N x k).2 k=some (k+(jGS x:Nat)):=by
 have hM1:1048576<N:=hM
 unfold jGS at hK
 unfold jJ4
 rw[show(jha N x k).1=jc (mStr N) cStr x.1 k from rfl,jKE N hM hN _ _ (by omega) (by omega) ho.1,za,zd (by omega),ze,show(jha N x k).2=jc (mSyn N) cSyn x.2 (k+(mcnt cStr x.1:Nat))from rfl,jLG N hM hN _ _ (by omega) (by omega) ho.2,za,zd (by omega),ze]
 refine congrArg some ?_
 show _=k+((mcnt cStr x.1+mcnt cSyn x.2:Nat):Int)
 omega
def ju (x:EField):Nat:=1+1
def jc3 (N:Nat) (x:EField) (k:Int):EField:=(mT N k,mT N (k+1))
theorem jlQ (x:EField):ju x<=8*(tot jj x+1):=by
 unfold ju
 show _<=8*((tot .str x.2+tot .str x.1)+1)
 omega
theorem jkl (xs:List EField):mcnt ju xs<=8*tot (.sl jj) xs:=jP (t:=jj) ju (fun x=>jlQ x) xs
theorem jqo (N:Nat) (hM:Sm<N) (hN:N<=1099511627776) (a:List (EField)) (k:Int) (hk:0<=k) (hK:k+(mcnt ju a:Nat)<=1000000000000000000) (ho:okD Sm (.sl jj) a):jbW N a k=some (k+(mcnt ju a:Nat),jc (jc3 N) ju a k):=by
 have hM1:1048576<N:=hM
 unfold jbW
 refine jW (jc3 N) ju N 1000000000000000000 (okD Sm jj) (fun go a k=>?_) (fun go a n hn k hn0 hx hk hK=>?_) a k hk hK (zal ho.1 hM) hN ho.2
 .dsimp only
  rw[zd (zcd _),ze]
 .dsimp only
  unfold ju at hK
  rw[zb (by omega:(n:Int)<a.length),zg,jU N _ (by omega) (by omega) (by omega),za,zf ⟨by omega,by first|omega|(simp only[zap,zaC];omega)⟩,zai,zc hn,za,zf (by unfold fits;omega),jU N _ (by omega) (by omega) (by omega),za,zf ⟨by omega,by first|omega|(simp only[zap,zaC];omega)⟩,zc (by simp only[zap];exact hn),zaG,za,zf (by unfold fits;omega),zf (by unfold fits;omega)]
  refine congrArg go (Prod.ext ?_ (Prod.ext ?_ rfl))
  .dsimp only
   simp only[jac,jar,jax hn,zaG]
   rfl
  .show _=k+((1+1:Nat):Int)
   dsimp only
   omega
theorem jLA (N:Nat) (hM:Sm<N) (hN:N<=1099511627776) (a:List (EField)) (k:Int) (hk:0<=k) (hK:k+(mcnt ju a:Nat)<=1000000000000000000) (ho:okD Sm (.sl jj) a):jJ8 N (jc (jc3 N) ju a k) k=some (k+(mcnt ju a:Nat)):=by
 have hM1:1048576<N:=hM
 unfold jJ8
 refine jnA (jc3 N) ju N 1000000000000000000 (okD Sm jj) (fun go a k=>?_) (fun go a n hn k x hn0 hx ho hk hK=>?_) a k hk hK (zal ho.1 hM) hN ho.2
 .dsimp only
  rw[zd (zcd _),ze]
 .dsimp only
  unfold ju at hK
  have e0:a[n].1=mT N k:=by rw[hx];rfl
  have e1:a[n].2=mT N (k+1):=by rw[hx];rfl
  rw[zb (by omega:(n:Int)<a.length),zg,idx_at hn,za,jU N _ (by omega) (by omega) (by omega),za,zb e0,zn,ze,zf (by unfold fits;omega),za,jU N _ (by omega) (by omega) (by omega),za,zb e1,zn,ze,zf (by unfold fits;omega),zf (by unfold fits;omega)]
  refine congrArg go (Prod.ext rfl (Prod.ext ?_ rfl))
  show _=k+((1+1:Nat):Int)
  dsimp only
  omega
def jz (x:EAttr):Nat:=1+1
def jdk (N:Nat) (x:EAttr) (k:Int):EAttr:=(mT N k,(k+1))
theorem jmS (x:EAttr):jz x<=8*(tot ji x+1):=by
 unfold jz
 show _<=8*((tot (.int .i64) x.2+tot .str x.1)+1)
 omega
theorem jk6 (xs:List EAttr):mcnt jz xs<=8*tot (.sl ji) xs:=jP (t:=ji) jz (fun x=>jmS x) xs
theorem jkW (N:Nat) (hM:Sm<N) (hN:N<=1099511627776) (a:List (EAttr)) (k:Int) (hk:0<=k) (hK:k+(mcnt jz a:Nat)<=1000000000000000000) (ho:okD Sm (.sl ji) a):jbP N a k=some (k+(mcnt jz a:Nat),jc (jdk N) jz a k):=by
 have hM1:1048576<N:=hM
 unfold jbP
 refine jW (jdk N) jz N 1000000000000000000 (okD Sm ji) (fun go a k=>?_) (fun go a n hn k hn0 hx hk hK=>?_) a k hk hK (zal ho.1 hM) hN ho.2
 .dsimp only
  rw[zd (zcd _),ze]
 .dsimp only
  unfold jz at hK
  rw[zb (by omega:(n:Int)<a.length),zg,jU N _ (by omega) (by omega) (by omega),za,zf ⟨by omega,by first|omega|(simp only[zap,zaC];omega)⟩,zai,zc hn,za,zf (by unfold fits;omega),zf ⟨by omega,by first|omega|(simp only[zap,zaC];omega)⟩,zc (by simp only[zap];exact hn),zaG,za,zf (by unfold fits;omega),zf (by unfold fits;omega)]
  refine congrArg go (Prod.ext ?_ (Prod.ext ?_ rfl))
  .dsimp only
   simp only[jac,jar,jax hn,zaG]
   rfl
  .show _=k+((1+1:Nat):Int)
   dsimp only
   omega
theorem jLM (N:Nat) (hM:Sm<N) (hN:N<=1099511627776) (a:List (EAttr)) (k:Int) (hk:0<=k) (hK:k+(mcnt jz a:Nat)<=1000000000000000000) (ho:okD Sm (.sl ji) a):jJ2 N (jc (jdk N) jz a k) k=some (k+(mcnt jz a:Nat)):=by
 have hM1:1048576<N:=hM
 unfold jJ2
 refine jnA (jdk N) jz N 1000000000000000000 (okD Sm ji) (fun go a k=>?_) (fun go a n hn k x hn0 hx ho hk hK=>?_) a k hk hK (zal ho.1 hM) hN ho.2
 .dsimp only
  rw[zd (zcd _),ze]
 .dsimp only
  unfold jz at hK
  have e0:a[n].1=mT N k:=by rw[hx];rfl
  have e1:a[n].2=(k+1):=by rw[hx];rfl
  rw[zb (by omega:(n:Int)<a.length),zg,idx_at hn,za,jU N _ (by omega) (by omega) (by omega),za,zb e0,zn,ze,zf (by unfold fits;omega),za,zb e1,zn,ze,zf (by unfold fits;omega),zf (by unfold fits;omega)]
  refine congrArg go (Prod.ext rfl (Prod.ext ?_ rfl))
  show _=k+((1+1:Nat):Int)
  dsimp only
  omega
def cDoc (x:EDoc):Nat:=1+mcnt ju x.2.1+mcnt jz x.2.2
def mDoc (N:Nat) (x:EDoc) (k:Int):EDoc:=(k,jc (jc3 N) ju x.2.1 (k+1),jc (jdk N) jz x.2.2 ((k+1)+(mcnt ju x.2.1:Nat)))
theorem jnL (x:EDoc):cDoc x<=8*(tot TDoc x+1):=by
 have h1:=jkl x.2.1
 have h2:=jk6 x.2.2
 unfold cDoc
 show _<=8*(((tot (.sl ji) x.2.2+tot (.sl jj) x.2.1)+tot (.int .i64) x.1)+1)
 omega
theorem jtV (xs:List EDoc):mcnt cDoc xs<=8*tot (.sl TDoc) xs:=jP (t:=TDoc) cDoc (fun x=>jnL x) xs
theorem jts (N:Nat) (hM:Sm<N) (hN:N<=1099511627776) (a:List (EDoc)) (k:Int) (hk:0<=k) (hK:k+(mcnt cDoc a:Nat)<=1000000000000000000) (ho:okD Sm (.sl TDoc) a):jb4 N a k=some (k+(mcnt cDoc a:Nat),jc (mDoc N) cDoc a k):=by
 have hM1:1048576<N:=hM
 unfold jb4
 refine jW (mDoc N) cDoc N 1000000000000000000 (okD Sm TDoc) (fun go a k=>?_) (fun go a n hn k hn0 hx hk hK=>?_) a k hk hK (zal ho.1 hM) hN ho.2
 .dsimp only
  rw[zd (zcd _),ze]
 .dsimp only
  unfold cDoc at hK
  rw[zb (by omega:(n:Int)<a.length),zg,zf ⟨by omega,by first|omega|(simp only[zap,zaC];omega)⟩,zai,zc hn,za,zf (by unfold fits;omega),zf ⟨by omega,by first|omega|(simp only[zap,zaC];omega)⟩,zc (by simp only[zap];exact hn),zaG,za,jqo N hM hN _ _ (by omega) (by omega) hx.2.1,za,zf ⟨by omega,by first|omega|(simp only[zap,zaC];omega)⟩,za,jkW N hM hN _ _ (by omega) (by omega) hx.2.2,za,zf (by unfold fits;omega)]
  refine congrArg go (Prod.ext ?_ (Prod.ext ?_ rfl))
  .dsimp only
   simp only[jac,jar,jax hn,zaG]
   rfl
  .show _=k+((1+mcnt ju a[n].2.1+mcnt jz a[n].2.2:Nat):Int)
   dsimp only
   omega
theorem jMC (N:Nat) (hM:Sm<N) (hN:N<=1099511627776) (a:List (EDoc)) (k:Int) (hk:0<=k) (hK:k+(mcnt cDoc a:Nat)<=1000000000000000000) (ho:okD Sm (.sl TDoc) a):jJY N (jc (mDoc N) cDoc a k) k=some (k+(mcnt cDoc a:Nat)):=by
 have hM1:1048576<N:=hM
 unfold jJY
 refine jnA (mDoc N) cDoc N 1000000000000000000 (okD Sm TDoc) (fun go a k=>?_) (fun go a n hn k x hn0 hx ho hk hK=>?_) a k hk hK (zal ho.1 hM) hN ho.2
 .dsimp only
  rw[zd (zcd _),ze]
 .dsimp only
  unfold cDoc at hK
  have e0:a[n].1=k:=by rw[hx];rfl
  have e1:a[n].2.1=jc (jc3 N) ju x.2.1 (k+1):=by rw[hx];rfl
  have e2:a[n].2.2=jc (jdk N) jz x.2.2 ((k+1)+(mcnt ju x.2.1:Nat)):=by rw[hx];rfl
  rw[zb (by omega:(n:Int)<a.length),zg,idx_at hn,za,zb e0,zn,ze,zf (by unfold fits;omega),za,e1,jLA N hM hN _ _ (by omega) (by omega) ho.2.1,za,zd (by omega),ze,za,e2,jLM N hM hN _ _ (by omega) (by omega) ho.2.2,za,zd (by omega),ze,zf (by unfold fits;omega)]
  refine congrArg go (Prod.ext rfl (Prod.ext ?_ rfl))
  show _=k+((1+mcnt ju x.2.1+mcnt jz x.2.2:Nat):Int)
  dsimp only
  omega
def jx (x:EPost):Nat:=1+mcnt cInt x.2
def jd8 (N:Nat) (x:EPost) (k:Int):EPost:=(k,jc mInt cInt x.2 (k+1))
theorem jsp (x:EPost):jx x<=8*(tot jl x+1):=by
 have h1:=jkz x.2
 unfold jx
 show _<=8*((tot (.sl (.int .i64)) x.2+tot (.int .i64) x.1)+1)
 omega
theorem jm9 (xs:List EPost):mcnt jx xs<=8*tot (.sl jl) xs:=jP (t:=jl) jx (fun x=>jsp x) xs
theorem jsK (N:Nat) (hM:Sm<N) (hN:N<=1099511627776) (a:List (EPost)) (k:Int) (hk:0<=k) (hK:k+(mcnt jx a:Nat)<=1000000000000000000) (ho:okD Sm (.sl jl) a):jcm N a k=some (k+(mcnt jx a:Nat),jc (jd8 N) jx a k):=by
 have hM1:1048576<N:=hM
 unfold jcm
 refine jW (jd8 N) jx N 1000000000000000000 (okD Sm jl) (fun go a k=>?_) (fun go a n hn k hn0 hx hk hK=>?_) a k hk hK (zal ho.1 hM) hN ho.2
 .dsimp only
  rw[zd (zcd _),ze]
 .dsimp only
  unfold jx at hK
  rw[zb (by omega:(n:Int)<a.length),zg,zf ⟨by omega,by first|omega|(simp only[zap,zaC];omega)⟩,zai,zc hn,za,zf (by unfold fits;omega),zf ⟨by omega,by first|omega|(simp only[zap,zaC];omega)⟩,zc (by simp only[zap];exact hn),zaG,za,jkK N hM hN _ _ (by omega) (by omega) hx.2,za,zf (by unfold fits;omega)]
  refine congrArg go (Prod.ext ?_ (Prod.ext ?_ rfl))
  .dsimp only
   simp only[jac,jar,jax hn,zaG]
   rfl
  .show _=k+((1+mcnt cInt a[n].2:Nat):Int)
   dsimp only
   omega
theorem jLi (N:Nat) (hM:Sm<N) (hN:N<=1099511627776) (a:List (EPost)) (k:Int) (hk:0<=k) (hK:k+(mcnt jx a:Nat)<=1000000000000000000) (ho:okD Sm (.sl jl) a):jJ1 N (jc (jd8 N) jx a k) k=some (k+(mcnt jx a:Nat)):=by
 have hM1:1048576<N:=hM
 unfold jJ1
 refine jnA (jd8 N) jx N 1000000000000000000 (okD Sm jl) (fun go a k=>?_) (fun go a n hn k x hn0 hx ho hk hK=>?_) a k hk hK (zal ho.1 hM) hN ho.2
 .dsimp only
  rw[zd (zcd _),ze]
 .dsimp only
  unfold jx at hK
  have e0:a[n].1=k:=by rw[hx];rfl
  have e1:a[n].2=jc mInt cInt x.2 (k+1):=by rw[hx];rfl
  rw[zb (by omega:(n:Int)<a.length),zg,idx_at hn,za,zb e0,zn,ze,zf (by unfold fits;omega),za,e1,jKK N hM hN _ _ (by omega) (by omega) ho.2,za,zd (by omega),ze,zf (by unfold fits;omega)]
  refine congrArg go (Prod.ext rfl (Prod.ext ?_ rfl))
  show _=k+((1+mcnt cInt x.2:Nat):Int)
  dsimp only
  omega
def jA (x:EEntry):Nat:=1+1+mcnt jx x.2.2
def jdA (N:Nat) (x:EEntry) (k:Int):EEntry:=(mT N k,mT N (k+1),jc (jd8 N) jx x.2.2 ((k+1)+1))
theorem jtH (x:EEntry):jA x<=8*(tot jk x+1):=by
 have h2:=jm9 x.2.2
 unfold jA
 show _<=8*(((tot (.sl jl) x.2.2+tot .str x.2.1)+tot .str x.1)+1)
 omega
theorem jnF (xs:List EEntry):mcnt jA xs<=8*tot (.sl jk) xs:=jP (t:=jk) jA (fun x=>jtH x) xs
theorem jsE (N:Nat) (hM:Sm<N) (hN:N<=1099511627776) (a:List (EEntry)) (k:Int) (hk:0<=k) (hK:k+(mcnt jA a:Nat)<=1000000000000000000) (ho:okD Sm (.sl jk) a):jcD N a k=some (k+(mcnt jA a:Nat),jc (jdA N) jA a k):=by
 have hM1:1048576<N:=hM
 unfold jcD
 refine jW (jdA N) jA N 1000000000000000000 (okD Sm jk) (fun go a k=>?_) (fun go a n hn k hn0 hx hk hK=>?_) a k hk hK (zal ho.1 hM) hN ho.2
 .dsimp only
  rw[zd (zcd _),ze]
 .dsimp only
  unfold jA at hK
  rw[zb (by omega:(n:Int)<a.length),zg,jU N _ (by omega) (by omega) (by omega),za,zf ⟨by omega,by first|omega|(simp only[zap,zaC];omega)⟩,zai,zc hn,za,zf (by unfold fits;omega),jU N _ (by omega) (by omega) (by omega),za,zf ⟨by omega,by first|omega|(simp only[zap,zaC];omega)⟩,zc (by simp only[zap];exact hn),zaG,za,zf (by unfold fits;omega),zf ⟨by omega,by first|omega|(simp only[zap,zaC];omega)⟩,zc (by simp only[zap];exact hn),zaG,za,jsK N hM hN _ _ (by omega) (by omega) hx.2.2,za,zf (by unfold fits;omega)]
  refine congrArg go (Prod.ext ?_ (Prod.ext ?_ rfl))
  .dsimp only
   simp only[jac,jar,jax hn,zaG]
   rfl
  .show _=k+((1+1+mcnt jx a[n].2.2:Nat):Int)
   dsimp only
   omega
theorem jM0 (N:Nat) (hM:Sm<N) (hN:N<=1099511627776) (a:List (EEntry)) (k:Int) (hk:0<=k) (hK:k+(mcnt jA a:Nat)<=1000000000000000000) (ho:okD Sm (.sl jk) a):jKa N (jc (jdA N) jA a k) k=some (k+(mcnt jA a:Nat)):=by
 have hM1:1048576<N:=hM
 unfold jKa
 refine jnA (jdA N) jA N 1000000000000000000 (okD Sm jk) (fun go a k=>?_) (fun go a n hn k x hn0 hx ho hk hK=>?_) a k hk hK (zal ho.1 hM) hN ho.2
 .dsimp only
  rw[zd (zcd _),ze]
 .dsimp only
  unfold jA at hK
  have e0:a[n].1=mT N k:=by rw[hx];rfl
  have e1:a[n].2.1=mT N (k+1):=by rw[hx];rfl
  have e2:a[n].2.2=jc (jd8 N) jx x.2.2 ((k+1)+1):=by rw[hx];rfl
  rw[zb (by omega:(n:Int)<a.length),zg,idx_at hn,za,jU N _ (by omega) (by omega) (by omega),za,zb e0,zn,ze,zf (by unfold fits;omega),za,jU N _ (by omega) (by omega) (by omega),za,zb e1,zn,ze,zf (by unfold fits;omega),za,e2,jLi N hM hN _ _ (by omega) (by omega) ho.2.2,za,zd (by omega),ze,zf (by unfold fits;omega)]
  refine congrArg go (Prod.ext rfl (Prod.ext ?_ rfl))
  show _=k+((1+1+mcnt jx x.2.2:Nat):Int)
  dsimp only
  omega
end Go.Proofs.YtcinmmojlcchfaaGreat
