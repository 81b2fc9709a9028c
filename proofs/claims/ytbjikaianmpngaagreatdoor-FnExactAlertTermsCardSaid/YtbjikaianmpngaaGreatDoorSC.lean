import Derived.Test.YtbjikaianmpngaaGreatDoorFS
import Derived.Test.YtbjikaianmpngaaGreatDoorSB
set_option linter.unusedVariables false
set_option linter.unusedSimpArgs false
namespace Go.Proofs.YtbjikaianmpngaaGreatDoor
open Go.RowKit
theorem jhG {F:((Int×List UInt8)->Option (List UInt8))->(Int×List UInt8)->Option (List UInt8)} (hF:F=fun go g=>match g with
    |(k2,out)=>
    (bif(decide ((0:Int)<k2))then
     (if 10≠0 then
      (if fits (48+(k2.tmod 10))then(if(bytesOf ([(IntKind.u8.wrap (48+(k2.tmod 10)))]:List Int)).length+out.length<=9223372036854775807 then
        (if 10≠0 then
         (if fits (k2.tdiv 10)then(go ((k2.tdiv 10),((bytesOf ([(IntKind.u8.wrap (48+(k2.tmod 10)))]:List Int))++out)))else none)
         else none)
        else none)else none)
      else none)
     else
     (if([109]:List UInt8).length+out.length<=9223372036854775807 then
      (some (([109]:List UInt8)++out))
      else none))):∀(j N:Nat) (k:Int) (out:List UInt8),0<=k->k<=9223372036854775807->k<(10:Int)^j->j<N->out.length+j<=1000->Def (iter F N (k,out)) fun _=>True
 |_,0,_,_,_,_,_,h,_=>absurd h (Nat.not_lt_zero _)
 |0,N+1,k,out,h0,hk,h1,h2,h3=>by
  show Def (F (iter F N) (k,out)) _
  subst hF
  dsimp only
  rw[zd (by simp at h1;omega),ze]
  exact Def.ite (by simp only[zi,zac];omega) (Def.ret True.intro)
 |j+1,N+1,k,out,h0,hk,h1,h2,h3=>by
  show Def (F (iter F N) (k,out)) _
  have ih:=fun out'=>jhG hF j N (k.tdiv 10) out'
  subst hF
  dsimp only
  have hp:(10:Int)^(j+1)=10*(10:Int)^j:=by rw[Int.pow_succ,Int.mul_comm]
  have hd:k.tdiv 10=k/10:=Int.tdiv_eq_ediv_of_nonneg h0
  have hm:k.tmod 10=k%10:=Int.tmod_eq_emod_of_nonneg h0
  refine Def.dif (fun e=>?_) (fun e=>Def.ite (by simp only[zi,zac];omega) (Def.ret True.intro))
  have hb:(bytesOf ([(IntKind.u8.wrap (48+(k.tmod 10)))]:List Int)).length=1:=by simp[bytesOf]
  refine Def.ite (by decide) (Def.ite (by unfold fits;omega) (Def.ite (by rw[hb];omega) (Def.ite (by decide) (Def.ite ?_ ?_))))
  .rw [hd];unfold fits;omega
  .refine ih _ (by omega) (by omega) (by omega) (by omega) ?_
   rw[zam,hb];omega
def mT (N:Nat) (k:Int):List UInt8:=(jr N k).getD []
theorem jU (N:Nat) (k:Int) (h0:0<=k) (h1:k<=1000000000000000000) (hN:30<=N):jr N k=some (mT N k):=by
 have:Def (jr N k) fun _=>True:=by
  unfold jr
  refine Def.dif (fun e=>Def.ret True.intro) (fun e=>?_)
  exact jhG rfl 19 N k [] h0 (by omega) (by omega) (by omega) (by simp)
 obtain⟨r,h,_⟩:=this
 unfold mT
 rw[h];rfl
theorem jac {Y:Type} (a:List Y) (n:Nat) (v:Y) (f:Y->Y):(a.set n v).modify n f=a.set n (f v):=by
 apply zbc
 intro i
 rw[List.getElem?_modify,List.getElem?_set,List.getElem?_set]
 by_cases e:n=i
 .subst e
  by_cases h:n<a.length
  .simp [h]
  .simp [h]
 .simp [e]
theorem jar {Y:Type} (a:List Y) (n:Nat) (v w:Y):(a.set n v).set n w=a.set n w:=List.set_set ..
theorem jax {Y:Type} {a:List Y} {n:Nat} (h:n<a.length) (f:Y->Y):a.modify n f=a.set n (f a[n]):=by
 have:=jac a n a[n] f
 rw[List.set_getElem_self]at this
 exact this
theorem jP {t:Tp} (c:t.D->Nat) (h:∀x,c x<=8*(tot t x+1)):∀xs:List t.D,mcnt c xs<=8*tot (.sl t) xs
 | []=>zaf _
 |x::xs=>by
  have h1:=h x
  have h2:=jP c h xs
  simp only[tot,mcnt,zi]at h2⊢
  omega
def mStr (N:Nat) (x:List UInt8) (k:Int):List UInt8:=mT N k
def cStr (x:List UInt8):Nat:=1
theorem jgx (xs:List (List UInt8)):mcnt cStr xs<=8*tot (.sl .str) xs:=jP (t:=.str) cStr (fun x=>by unfold cStr;omega) xs
theorem jxg (N:Nat) (hM:Sm<N) (hN:N<=1099511627776) (a:List (List UInt8)) (k:Int) (hk:0<=k) (hK:k+(mcnt cStr a:Nat)<=1000000000000000000) (ho:okD Sm (.sl .str) a):jas N a k=some (k+(mcnt cStr a:Nat),jc (mStr N) cStr a k):=by
 have hM1:1048576<N:=hM
 unfold jas
 refine jW (mStr N) cStr N 1000000000000000000 (okD Sm .str) (fun go a k=>?_) (fun go a n hn k hn0 hx hk hK=>?_) a k hk hK (zal ho.1 hM) hN ho.2
 .dsimp only
  rw[zd (zm _),ze]
 .dsimp only
  unfold cStr at hK
  rw[zb (by omega:(n:Int)<a.length),zg,jU N _ (by omega) (by omega) (by omega),za,zf ⟨by omega,by first|omega|(simp only[zap,zaC];omega)⟩,zai,zc hn,za,zf (by unfold fits;omega),zf (by unfold fits;omega)]
  refine congrArg go (Prod.ext ?_ (Prod.ext ?_ rfl))
  .rfl
  .rfl
theorem jKE (N:Nat) (hM:Sm<N) (hN:N<=1099511627776) (a:List (List UInt8)) (k:Int) (hk:0<=k) (hK:k+(mcnt cStr a:Nat)<=1000000000000000000) (ho:okD Sm (.sl .str) a):ja4 N (jc (mStr N) cStr a k) k=some (k+(mcnt cStr a:Nat)):=by
 have hM1:1048576<N:=hM
 unfold ja4
 refine jnA (mStr N) cStr N 1000000000000000000 (okD Sm .str) (fun go a k=>?_) (fun go a n hn k x hn0 hx ho hk hK=>?_) a k hk hK (zal ho.1 hM) hN ho.2
 .dsimp only
  rw[zd (zm _),ze]
 .dsimp only
  unfold cStr at hK
  have e0:a[n]=mT N k:=hx
  rw[zb (by omega:(n:Int)<a.length),zg,jTt hn,za,jU N _ (by omega) (by omega) (by omega),za,zb e0,zn,ze,zf (by unfold fits;omega),zf (by unfold fits;omega)]
  rfl
def cSyn (x:ESyn):Nat:=mcnt cStr x.1+1
def mSyn (N:Nat) (x:ESyn) (k:Int):ESyn:=(jc (mStr N) cStr x.1 k,mT N (k+(mcnt cStr x.1:Nat)))
theorem jmO (x:ESyn):cSyn x<=8*(tot TSyn x+1):=by
 have h0:=jgx x.1
 unfold cSyn
 show _<=8*((tot .str x.2+tot (.sl .str) x.1)+1)
 omega
theorem job (xs:List ESyn):mcnt cSyn xs<=8*tot (.sl TSyn) xs:=jP (t:=TSyn) cSyn (fun x=>jmO x) xs
theorem jlM (N:Nat) (hM:Sm<N) (hN:N<=1099511627776) (a:List (ESyn)) (k:Int) (hk:0<=k) (hK:k+(mcnt cSyn a:Nat)<=1000000000000000000) (ho:okD Sm (.sl TSyn) a):jbZ N a k=some (k+(mcnt cSyn a:Nat),jc (mSyn N) cSyn a k):=by
 have hM1:1048576<N:=hM
 unfold jbZ
 refine jW (mSyn N) cSyn N 1000000000000000000 (okD Sm TSyn) (fun go a k=>?_) (fun go a n hn k hn0 hx hk hK=>?_) a k hk hK (zal ho.1 hM) hN ho.2
 .dsimp only
  rw[zd (zm _),ze]
 .dsimp only
  unfold cSyn at hK
  rw[zb (by omega:(n:Int)<a.length),zg,zf ⟨by omega,by first|omega|(simp only[zap,zaC];omega)⟩,zai,zc hn,za,jxg N hM hN _ _ (by omega) (by omega) hx.1,za,jU N _ (by omega) (by omega) (by omega),za,zf ⟨by omega,by first|omega|(simp only[zap,zaC];omega)⟩,za,zf (by unfold fits;omega),zf (by unfold fits;omega)]
  refine congrArg go (Prod.ext ?_ (Prod.ext ?_ rfl))
  .dsimp only
   simp only[jac,jar,jax hn,List.getElem_set_self]
   rfl
  .show _=k+((mcnt cStr a[n].1+1:Nat):Int)
   dsimp only
   omega
def jGS (x:EConf):Nat:=mcnt cStr x.1+mcnt cSyn x.2
def jha (N:Nat) (x:EConf) (k:Int):EConf:=(jc (mStr N) cStr x.1 k,jc (mSyn N) cSyn x.2 (k+(mcnt cStr x.1:Nat)))
theorem jMi (x:EConf):jGS x<=8*(tot jTz x+1):=by
 have h0:=jgx x.1
 have h1:=job x.2
 unfold jGS
 show _<=8*((tot (.sl TSyn) x.2+tot (.sl .str) x.1)+1)
 omega
theorem jLY (N:Nat) (hM:Sm<N) (hN:N<=1099511627776) (x:EConf) (k:Int) (hk:0<=k) (hK:k+(jGS x:Nat)<=1000000000000000000) (ho:okD Sm jTz x):jb0 N x.1 x.2 k=some (k+(jGS x:Nat),(jha N x k).1,(jha N x k).2):=by
 have hM1:1048576<N:=hM
 unfold jGS at hK
 unfold jb0
 rw[jxg N hM hN _ _ (by omega) (by omega) ho.1,za,jlM N hM hN _ _ (by omega) (by omega) ho.2,za]
 refine congrArg some (Prod.ext ?_ rfl)
 show _=k+((mcnt cStr x.1+mcnt cSyn x.2:Nat):Int)
 dsimp only
 omega
theorem jD2 {Y:Type} (Z:Y->Int->Option Int) (N:Nat) (hN:1048576<N) (P:Y->Prop) (T:Y->Nat) (a:List Y) (left:Int) (hl:a.length<=BigN) (h0:0<=left) (h1:left<=1048576) (hZ:∀x,x∈a->∀l:Int,0<=l->l<left->SzP (T x) l (Z x l) (P x)):
  SzP (mcnt T a+a.length) left (jgu Z N a left) (a.length<=1048576/\∀x,x∈a->P x):=by
 unfold SzP jgu
 have hl':(a.length:Int)<=9223372036854775807:=by have:a.length<=9223372036854775807:=hl;omega
 refine Def.ite (by unfold fits;omega) ?_
 refine Def.dif (fun e=>Def.ret (.inl rfl)) (fun e=>?_)
 refine Def.upto a.length (fun n g=>∃l:Int,0<=l/\l+(mcnt T (a.take n)+a.length:Nat)<=left/\(∀x,x∈a.take n->P x)/\g=(a,l,(n:Int))) ?_ ?_ N 0 _ (zaf _) ⟨_,by omega,by simp only[zbJ,mcnt];omega,by simp,rfl⟩ (by omega)
 .rintro go _ ⟨l,hl0,hl1,hP,rfl⟩
  dsimp only
  rw[zd (zm _),ze]
  rw[zq]at hl1
  exact Def.ret (.inr ⟨hl0,hl1,by omega,by rwa[zq]at hP⟩)
 .rintro go n _ hn ⟨l,hl0,hl1,hP,rfl⟩ hgo
  dsimp only
  have hmc:=jbm T a n hn
  rw[zb (by omega:(n:Int)<a.length),zg,jTt hn,za]
  refine Def.bind (hZ _ (zr hn) l hl0 (by omega)) fun r hr=>?_
  refine Def.dif (fun e=>Def.ret (.inl rfl)) (fun e=>?_)
  rcases hr with hr|⟨r0,r1,hx⟩
  .omega
  refine Def.ite (fits_nat (n:=n) (by omega)) ?_
  refine hgo _ ⟨r,r0,by omega,fun x hx'=>?_,by rw[cast_succ']⟩
  rw[zo hn,zaB,zaD]at hx'
  rcases hx' with hx'|rfl
  .exact hP x hx'
  .exact hx
def tQ :Nat->DQ->Nat
 |0,_=>0
 |n+1,q=>q.words.length+(mcnt (tQ n) q.kids+q.kids.length)
def GQ :Nat->DQ->Prop
 |0,_=>False
 |n+1,q=>q.field.length<=1048576/\q.words.length<=1048576/\(∀w,w∈q.words->w.length<=1048576)/\q.kids.length<=1048576/\∀c,c∈q.kids->GQ n c
theorem GQ.bq :∀(n d:Nat) (q:DQ),GQ d q->BQ n q
 |0,_,_,_=>True.intro
 |_+1,0,_,h=>h.elim
 |n+1,d+1,q,⟨h1,h2,h3,h4,h5⟩=>⟨h1,h2,h3,h4,fun c hc=>GQ.bq n d c (h5 c hc)⟩
theorem jUt (N:Nat) (hN:1048576<N):∀(D:Nat) (q:DQ),OkQ BigN q->∀left:Int,0<=left->left<=1048576->left<D->SzP (tQ D q) left (jGR N D q.kind q.field q.words q.lo q.hi q.kids left) (GQ D q)
 |0,_,_,left,h0,_,h=>by omega
 |D+1,q,ho,left,h0,h1,h=>by
  obtain @⟨k,a,b,f,ws,kids,hk,hf,hn,hw,ha,hb,hm,hq⟩:=ho
  rw[jGR]
  refine(SzP.len (k:=mcnt (tQ D) kids+kids.length+(mcnt List.length ws+ws.length)) hf h0 h1 (fun g0 g1=>?_) (R:=GQ (D+1) (DQ.mk k f ws a b kids)) (Q:=ws.length<=1048576/\(∀w,w∈ws->w.length<=1048576)/\kids.length<=1048576/\∀c,c∈kids->GQ D c) (fun hl hr=>⟨hl,hr.1,hr.2.1,hr.2.2.1,hr.2.2.2⟩)).imp (by unfold tQ;dsimp only[DQ.words,DQ.kids];omega) id
  refine SzP.then (j:=mcnt (tQ D) kids+kids.length) (jq4 N hN ws _ hn g0 (by omega) hw) (fun r r0 r1=>?_) (Q:=kids.length<=1048576/\∀c,c∈kids->GQ D c) (fun x y=>⟨x.1,x.2,y.1,y.2⟩)
  exact SzP.neg (jD2 (fun(x:DQ) l=>jGR N D x.kind x.field x.words x.lo x.hi x.kids l) N hN (GQ D) (tQ D) kids r hm r0 (by omega) (fun x hx l l0 l1=>jUt N hN D x (hq x hx) l l0 (by omega) (by omega))) id
abbrev jAe {Y β:Type} (T:Y->Option β) (G:β->Y) (z:Y) (m:Int) (N:Nat) (a:List Y):Option (List Y):=
 (if(a.length:Int)=(a.length:Int)/\0<=(a.length:Int)/\(a.length:Int)*m<=140737488355328/\(a.length:Int)<=140737488355328 then
  (iter (fun(go:(List Y×List Y×Int)->Option (List Y)) (g:List Y×List Y×Int)=>
    match g with
    |(a2,out,i)=>
    (bif(decide (i<(a2.length:Int)))then
     (Option.bind (idx a2 i) fun(e:Y)=>
      (Option.bind (T e) fun(r:β)=>
       (if 0<=i/\i<(out.length:Int)then
        (Option.bind (out[i.toNat]?) fun(e2:Y)=>
         (if fits (i+1)then(go (a2,(out.set i.toNat (G r)),(i+1)))else none))
        else none)))
     else
     (some out))) N (a,(List.replicate (a.length:Int).toNat z),0))
  else none)
theorem jB0 {Y β:Type} (T:Y->Option β) (G:β->Y) (z:Y) (m:Int) (N:Nat) (a:List Y) (h:a.length<N) (hN:N<=1099511627776) (hm:(a.length:Int)*m<=140737488355328) (hT:∀x,x∈a->∃r,T x=some r/\G r=x):jAe T G z m N a=some a:=by
 unfold jAe
 rw[zf ⟨rfl,by omega,hm,by omega⟩]
 refine(jTA _ a.length (fun n=>(a,a.take n++List.replicate (a.length-n) z,(n:Int))) (fun n=>some a) (fun go=>?_) (fun go n hn hgo=>?_) N 0 (zaf _) (by omega))
 .dsimp only
  rw[zd (zm _),ze,zq,Nat.sub_self]
  simp
 .have hn':(n:Int)<a.length:=by omega
  have hol:(a.take n++List.replicate (a.length-n) z).length=a.length:=by simp;omega
  obtain⟨r,hr,hg⟩:=hT _ (zr hn)
  dsimp only
  rw[zb hn',zg,jTt hn,za,hr,za,zf (by omega),zai,zc (by omega),za,zf (fits_nat (n:=n) (by omega)),hg,jkc a z n hn]
  simp only[cast_succ']at hgo
  exact hgo
theorem jUW (N:Nat) (hN:N<=1099511627776) (hM:1048576<N):∀(D:Nat) (q:DQ),GQ D q->jxF N D q.kind q.field q.words q.lo q.hi q.kids=some (q.kind,q.field,q.words,q.lo,q.hi,q.kids)
 |D+1,q,⟨h1,h2,h3,h4,h5⟩=>by
  have e1:jci N q.words=some q.words:=jV some [] 16 N q.words (by omega) hN (by omega) (fun x hx=>rfl)
  have e2:jyE N (fun a=>jxF N D a.1 a.2.1 a.2.2.1 a.2.2.2.1 a.2.2.2.2.1 a.2.2.2.2.2) q.kids=some q.kids:=
   jB0 (fun(e:DQ)=>jxF N D e.kind e.field e.words e.lo e.hi e.kids) (fun r=>DQ.mk r.1 r.2.1 r.2.2.1 r.2.2.2.1 r.2.2.2.2.1 r.2.2.2.2.2) _ 88 N q.kids (by omega) hN (by omega)
    (fun x hx=>⟨_,jUW N hN hM D x (h5 x hx),by cases x;rfl⟩)
  rw[jxF,e1,za,e2,za]
theorem jzk {Y:Type} (E:Y->Y->Option Bool) (N:Nat) (a:List Y) (h:a.length<N) (hN:N<=1099511627776) (hE:∀x,x∈a->E x x=some true):jf3 E N a a=some true:=by
 unfold jf3
 rw[zb rfl,zn,ze]
 refine(jTA _ a.length (fun n=>(a,a,(n:Int))) (fun n=>some true) (fun go=>?_) (fun go n hn hgo=>?_) N 0 (zaf _) (by omega))
 .dsimp only
  rw[zd (zm _),ze]
 .dsimp only
  rw[zb (by omega:(n:Int)<a.length),zg,jTt hn,za,za,hE _ (zr hn),za,zn,ze,zf (fits_nat (n:=n) (by omega))]
  simp only[cast_succ']at hgo
  exact hgo
theorem jUx (N:Nat) (hN:N<=1099511627776) (hM:1048576<N):∀(D:Nat) (q:DQ),GQ D q->jxK N D q.kind q.field q.words q.lo q.hi q.kids q.kind q.field q.words q.lo q.hi q.kids=some true
 |D+1,q,⟨h1,h2,h3,h4,h5⟩=>by
  have e1:j0 N q.words q.words=some true:=jzk (fun e e2=>some (decide (e=e2))) N q.words (by omega) hN (fun x hx=>by rw[zb rfl])
  have e2:jyS N (fun a=>jxK N D a.1 a.2.1 a.2.2.1 a.2.2.2.1 a.2.2.2.2.1 a.2.2.2.2.2.1 a.2.2.2.2.2.2.1 a.2.2.2.2.2.2.2.1 a.2.2.2.2.2.2.2.2.1 a.2.2.2.2.2.2.2.2.2.1 a.2.2.2.2.2.2.2.2.2.2.1 a.2.2.2.2.2.2.2.2.2.2.2) q.kids q.kids=some true:=
   jzk (fun(x y:DQ)=>jxK N D x.kind x.field x.words x.lo x.hi x.kids y.kind y.field y.words y.lo y.hi y.kids) N q.kids (by omega) hN (fun x hx=>jUx N hN hM D x (h5 x hx))
  rw[jxK]
  simp only[decide_true,zn,ze,e1,e2,za]
theorem jUg (l:List (List UInt8)):mcnt cStr l=l.length:=by
 induction l with
 |nil=>rfl
 |cons x l ih=>rw[mcnt,ih,zi];unfold cStr;omega
theorem jCY (k:Int) (f:List UInt8) (w:List (List UInt8)) (a b:Int) (c:List DQ):(DQ.mk k f w a b c).kind=k:=rfl
theorem jAH (k:Int) (f:List UInt8) (w:List (List UInt8)) (a b:Int) (c:List DQ):(DQ.mk k f w a b c).field=f:=rfl
theorem jCR (k:Int) (f:List UInt8) (w:List (List UInt8)) (a b:Int) (c:List DQ):(DQ.mk k f w a b c).words=w:=rfl
theorem jDb (k:Int) (f:List UInt8) (w:List (List UInt8)) (a b:Int) (c:List DQ):(DQ.mk k f w a b c).lo=a:=rfl
theorem jBV (k:Int) (f:List UInt8) (w:List (List UInt8)) (a b:Int) (c:List DQ):(DQ.mk k f w a b c).hi=b:=rfl
theorem jBl (k:Int) (f:List UInt8) (w:List (List UInt8)) (a b:Int) (c:List DQ):(DQ.mk k f w a b c).kids=c:=rfl
theorem jUK (N:Nat) (hM:Sm<N) (hN:N<=1099511627776):∀(d D:Nat),d<D->∀(l:List DQ) (k:Int),l.length<=1048576->(∀x,x∈l->GQ d x)->0<=k->k+4*(mcnt (tQ d) l+l.length:Nat)<=1000000000000->Def (jxQ N D l k) fun r=>k<=r.1/\r.1<=k+4*(mcnt (tQ d) l+l.length:Nat)
 |_,0,h,_,_,_,_,_,_=>absurd h (Nat.not_lt_zero _)
 |d,D+1,hD,l,k,hl,hg,hk0,hk=>by
  have hM':1048576<N:=hM
  rw[jxQ]
  refine Def.upto l.length (fun n g=>∃(a2:List DQ) (k2:Int),a2.length=l.length/\a2.drop n=l.drop n/\k<=k2/\k2<=k+4*(mcnt (tQ d) (l.take n)+n:Nat)/\g=(a2,k2,(n:Int))) ?_ ?_ N 0 _ (zaf _) ⟨l,k,rfl,rfl,Int.le_refl _,by simp only[zbJ,mcnt];omega,rfl⟩ (by omega)
  .rintro go _ ⟨a2,k2,e1,e2,h1,h2,rfl⟩
   dsimp only
   rw[e1,zd (zm _),ze]
   rw[zq]at h2
   exact Def.ret ⟨h1,h2⟩
  .rintro go n _ hn ⟨a2,k2,e1,e2,h1,h2,rfl⟩ hgo
   dsimp only
   have hn2:n<a2.length:=by omega
   have hcond:0<=(n:Int)/\(n:Int)<a2.length:=by omega
   rw[zan hn2,zan hn,List.cons.injEq]at e2
   obtain⟨e3,e4⟩:=e2
   have hget:a2[n]? =some l[n]:=by rw[zc hn2,e3]
   have hmc:=jbm (tQ d) l n hn
   have hmle:=jcY (tQ d) l (n+1)
   have hgx:=hg _ (zr hn)
   have hset:∀v:DQ,(a2.set n v)[n]? =some v:=fun v=>zbL hn2
   cases d with
   |zero=>exact hgx.elim
   |succ d=>
   obtain⟨g1,g2,g3,g4,g5⟩:=hgx
   have ht:tQ (d+1) l[n]=l[n].words.length+(mcnt (tQ d) l[n].kids+l[n].kids.length):=rfl
   have hst:=jUg l[n].words
   have hms:=jxg N hM hN l[n].words (k2+1+1) (by omega) (by omega) ⟨g2,fun x hx=>g3 x hx⟩
   rw[zb (by omega:(n:Int)<a2.length),zg]
   simp only[zai,zap,List.set_set,zf hcond,hget,hset,za,jCY,jAH,jCR,jDb,jBV,jBl]
   rw[zf (by unfold fits;omega),jU N (k2+1) (by omega) (by omega) (by omega),za,zf (by unfold fits;omega),hms,za]
   dsimp only
   rw[zf (by unfold fits;omega),zf (by unfold fits;omega)]
   refine Def.bind (jUK N hM hN d D (by omega) l[n].kids _ g4 g5 (by omega) (by omega)) fun r hr=>?_
   rw[zf (fits_nat (n:=n) (by omega))]
   refine hgo _ ⟨_,_,?_,?_,?_,?_,by rw[cast_succ']⟩
   .rw [zaC,zaC,zap]
    exact e1
   .rw [jac,jac,List.drop_set_of_lt (by omega)]
    exact e4
   .omega
   .omega
def GA (D:Nat) (x:EAl):Prop:=x.1.length<=1048576/\GQ D x.2
def tA (N:Nat) (x:EAl):Nat:=tQ N x.2
theorem GA.gb {D:Nat} {x:EAl} (h:GA D x):GB x:=⟨h.1,h.2.bq 4 D⟩
theorem jVM (N:Nat) (hN:1048576<N) (xs:List EAl) (ho:okD BigN (.sl (.pair .str .q)) xs) (left:Int) (h0:0<=left) (h1:left<=1048576):SzP (mcnt (tA N) xs+xs.length) left (jUi N xs left) (xs.length<=1048576/\∀x,x∈xs->GA N x):=by
 refine jD2 (fun(x:EAl) l=>jUf N x.1 x.2.kind x.2.field x.2.words x.2.lo x.2.hi x.2.kids l) N hN (GA N) (tA N) xs left ho.1 h0 h1 (fun x hx l l0 l1=>?_)
 have hx':=ho.2 x hx
 refine(SzP.len (k:=tA N x) hx'.1 l0 (by omega) (fun g0 g1=>?_) (R:=GA N x) (Q:=GQ N x.2) (fun a b=>⟨a,b⟩)).imp (by omega) id
 exact SzP.neg (jUt N hN N x.2 hx'.2 _ g0 (by omega) (by omega)) id
theorem jVN (N:Nat) (hN:N<=1099511627776) (hM:1048576<N) (xs:List EAl) (h:xs.length<=1048576) (hx:∀x,x∈xs->GA N x):jTH N xs=some xs:=
 jB0 (fun(e:EAl)=>jTS N e.1 e.2.kind e.2.field e.2.words e.2.lo e.2.hi e.2.kids) (fun r=>(r.1,(DQ.mk r.2.1 r.2.2.1 r.2.2.2.1 r.2.2.2.2.1 r.2.2.2.2.2.1 r.2.2.2.2.2.2))) _ 104 N xs (by omega) hN (by omega)
  (fun x hm=>⟨(x.1,x.2.kind,x.2.field,x.2.words,x.2.lo,x.2.hi,x.2.kids),by show jTS N _ _ _ _ _ _ _=_;unfold jTS;rw[jUW N hN hM N x.2 (hx x hm).2,za],by obtain⟨s,q⟩:=x;cases q;rfl⟩)
theorem jWh (N:Nat) (hN:N<=1099511627776) (hM:1048576<N) (xs:List EAl) (h:xs.length<=1048576) (hx:∀x,x∈xs->GA N x):jUa N xs xs=some true:=
 jzk (fun(e e2:EAl)=>jTP N e.1 e.2.kind e.2.field e.2.words e.2.lo e.2.hi e.2.kids e2.1 e2.2.kind e2.2.field e2.2.words e2.2.lo e2.2.hi e2.2.kids) N xs (by omega) hN
  (fun x hm=>by show jTP N _ _ _ _ _ _ _ _ _ _ _ _ _ _=_;unfold jTP;simp only[decide_true,zn,ze,jUx N hN hM N x.2 (hx x hm).2,za])
theorem jVo (N:Nat) (hM:Sm<N) (hN:N<=1099511627776) (l:List EAl) (k:Int) (hl:l.length<=1048576) (hg:∀x,x∈l->GA N x) (hk0:0<=k) (hk:k+8*(mcnt (tA N) l+l.length:Nat)<=100000000000):Def (jTW N l k) fun r=>k<=r.1/\r.1<=k+8*(mcnt (tA N) l+l.length:Nat):=by
 have hM':1048576<N:=hM
 unfold jTW
 refine Def.upto l.length (fun n g=>∃(a2:List EAl) (k2:Int),a2.length=l.length/\a2.drop n=l.drop n/\k<=k2/\k2<=k+8*(mcnt (tA N) (l.take n)+n:Nat)/\g=(a2,k2,(n:Int))) ?_ ?_ N 0 _ (zaf _) ⟨l,k,rfl,rfl,Int.le_refl _,by simp only[zbJ,mcnt];omega,rfl⟩ (by omega)
 .rintro go _ ⟨a2,k2,e1,e2,h1,h2,rfl⟩
  dsimp only
  rw[e1,zd (zm _),ze]
  rw[zq]at h2
  exact Def.ret ⟨h1,h2⟩
 .rintro go n _ hn ⟨a2,k2,e1,e2,h1,h2,rfl⟩ hgo
  dsimp only
  have hn2:n<a2.length:=by omega
  have hcond:0<=(n:Int)/\(n:Int)<a2.length:=by omega
  rw[zan hn2,zan hn,List.cons.injEq]at e2
  obtain⟨e3,e4⟩:=e2
  have hget:a2[n]? =some l[n]:=by rw[zc hn2,e3]
  have hmc:=jbm (tA N) l n hn
  have hmle:=jcY (tA N) l (n+1)
  obtain⟨_,hgx⟩:=hg _ (zr hn)
  have hset:∀v:EAl,(a2.set n v)[n]? =some v:=fun v=>zbL hn2
  obtain⟨d,rfl⟩:∃d,N=d+1:=⟨N-1,by omega⟩
  obtain⟨g1,g2,g3,g4,g5⟩:=hgx
  have ht:tA (d+1) l[n]=l[n].2.words.length+(mcnt (tQ d) l[n].2.kids+l[n].2.kids.length):=rfl
  have hst:=jUg l[n].2.words
  have hms:=jxg (d+1) hM hN l[n].2.words (k2+1+1+1) (by omega) (by omega) ⟨g2,fun x hx=>g3 x hx⟩
  rw[zb (by omega:(n:Int)<a2.length),zg,jU (d+1) k2 (by omega) (by omega) (by omega),za]
  simp only[zai,zap,List.set_set,zf hcond,hget,hset,za,jCY,jAH,jCR,jDb,jBV,jBl]
  rw[zf (by unfold fits;omega),zf (by unfold fits;omega),jU (d+1) (k2+1+1) (by omega) (by omega) (by omega),za,zf (by unfold fits;omega),hms,za]
  dsimp only
  rw[zf (by unfold fits;omega),zf (by unfold fits;omega)]
  refine Def.bind (jUK (d+1) hM hN d (d+1) (by omega) l[n].2.kids _ g4 g5 (by omega) (by omega)) fun r hr=>?_
  rw[zf (fits_nat (n:=n) (by omega))]
  refine hgo _ ⟨_,_,?_,?_,?_,?_,by rw[cast_succ']⟩
  .simp only [zaC,zap]
   exact e1
  .simp only [jac]
   rw[List.drop_set_of_lt (by omega)]
   exact e4
  .omega
  .omega
theorem jVs (N:Nat) (hM:Sm<N) (hN:N<=16777216) (xs:List EAl) (c:EConf) (ha:okD BigN (.sl (.pair .str .q)) xs) (hc:okD BigN jTz c):jT1 N xs c.1 c.2=some true:=by
 have hM':1048576<N:=hM
 have hN':N<=1099511627776:=by omega
 refine Def.get ?_
 unfold jT1
 refine Def.bind (jVM N hM' xs ha 1048576 (by omega) (by omega)) fun r hr=>?_
 refine Def.dif (fun e=>Def.ret rfl) (fun e=>?_)
 rcases hr with hr|⟨r0,r1,hl,hx⟩
 .omega
 refine Def.bind (jLu N hM c r r0 (by omega) hc) fun r2 hr2=>?_
 refine Def.dif (fun e=>Def.ret rfl) (fun e=>?_)
 rcases hr2 with hr2|⟨r3,r4,oc⟩
 .omega
 have t1:=jVN N hN' hM' xs hl hx
 have t2:=jMX N hM hN' c oc
 have t4:=jWh N hN' hM' xs hl hx
 have t5:=jLl N hM hN' c c oc
 obtain⟨L,t7,hL⟩:=jVR N hM hN xs c oc hl fun x h=>(hx x h).gb
 obtain⟨L',t8,hL'⟩:=jWb N hM hN xs c oc hl fun x h=>(hx x h).gb
 obtain rfl:L'=L:=hL'.uniq hL
 have hlen:=hL.len
 have hat:=jUG c xs
 have okL:okD Sm (.sl .str) L':=by
  refine⟨zau hlen (zau hat (by decide)),fun w hw=>?_⟩
  have:=jV6 c xs w ((hL.2 w).1 hw)
  exact zau this (by decide)
 have c1:=jMi c
 have hm:=jUg L'
 have t9:=jxk N hM hN' L' L' okL
 have m4:=jxg N hM hN' L' 1 (by omega) (by omega) okL
 have m5:=jKE N hM hN' L' 1 (by omega) (by omega) okL
 simp only[t1,t2,t4,t5,t7,t8,t9,za,decide_true,zn,ze]
 refine Def.bind (jVo N hM hN' xs 1 hl hx (by omega) (by omega)) fun r8 ⟨h8,h9⟩=>?_
 have m1:=jLY N hM hN' c r8.1 (by omega) (by omega) oc
 rw[m1,za]
 dsimp only
 rw[zd (by omega),ze]
 simp only[m4,m5,za,decide_true,zn,ze]
 rw[zd (by omega),ze]
 exact Def.ret rfl
theorem jVq (x0:List EAl) (x1:EConf) (o0:okD BigN (.sl (.pair .str .q)) x0) (o1:okD BigN jTz x1):jT1 1048700 x0 x1.1 x1.2=some true:=
 jVs 1048700 (by decide) (by decide) x0 x1 o0 o1
end Go.Proofs.YtbjikaianmpngaaGreatDoor
