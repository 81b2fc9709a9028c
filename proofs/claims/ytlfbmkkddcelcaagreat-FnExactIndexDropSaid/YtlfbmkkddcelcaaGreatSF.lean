import Derived.Test.YtlfbmkkddcelcaaGreatSD
import Derived.Test.YtlfbmkkddcelcaaGreatMK
set_option linter.unusedVariables false
set_option linter.unusedSimpArgs false
namespace Go.Proofs.YtlfbmkkddcelcaaGreat
open Go.RowKit
abbrev jAe {Y β:Type} (T:Y->Option β) (G:β->Y) (z:Y) (m:Int) (N:Nat) (a:List Y):Option (List Y):=
 (if(a.length:Int)=(a.length:Int)/\0<=(a.length:Int)/\(a.length:Int)*m<=140737488355328/\(a.length:Int)<=140737488355328 then
  (iter (fun(go:(List Y×List Y×Int)->Option (List Y)) (g:List Y×List Y×Int)=>
    match g with
    |(a2,out,i)=>
    (bif(decide (i<(a2.length:Int)))then
     (Option.bind (idx a2 i) fun(e:Y)=>
      (Option.bind (T e) fun(r:β)=>
       (if 0<=i/\i<(out.length:Int)then
        (Option.bind (out[i.toNat]?) fun(e2:Y)=>
         (if fits (i+1)then(go (a2,(out.set i.toNat (G r)),(i+1)))else none))
        else none)))
     else
     (some out))) N (a,(List.replicate (a.length:Int).toNat z),0))
  else none)
theorem jB0 {Y β:Type} (T:Y->Option β) (G:β->Y) (z:Y) (m:Int) (N:Nat) (a:List Y) (h:a.length<N) (hN:N<=1099511627776) (hm:(a.length:Int)*m<=140737488355328) (hT:∀x,x∈a->∃r,T x=some r/\G r=x):jAe T G z m N a=some a:=by
 unfold jAe
 rw[zf ⟨rfl,by omega,hm,by omega⟩]
 refine(iter_scan _ a.length (fun n=>(a,a.take n++List.replicate (a.length-n) z,(n:Int))) (fun n=>some a) (fun go=>?_) (fun go n hn hgo=>?_) N 0 (zaf _) (by omega))
 .dsimp only
  rw[zd (zm _),ze,zq,Nat.sub_self]
  simp
 .have hn':(n:Int)<a.length:=by omega
  have hol:(a.take n++List.replicate (a.length-n) z).length=a.length:=by simp;omega
  obtain⟨r,hr,hg⟩:=hT _ (zr hn)
  dsimp only
  rw[zb hn',zg,idx_at hn,za,hr,za,zf (by omega),zai,zc (by omega),za,zf (fits_nat (n:=n) (by omega)),hg,jkc a z n hn]
  simp only[cast_succ']at hgo
  exact hgo
theorem jzk {Y:Type} (E:Y->Y->Option Bool) (N:Nat) (a:List Y) (h:a.length<N) (hN:N<=1099511627776) (hE:∀x,x∈a->E x x=some true):jf3 E N a a=some true:=by
 unfold jf3
 rw[zb rfl,zn,ze]
 refine(iter_scan _ a.length (fun n=>(a,a,(n:Int))) (fun n=>some true) (fun go=>?_) (fun go n hn hgo=>?_) N 0 (zaf _) (by omega))
 .dsimp only
  rw[zd (zm _),ze]
 .dsimp only
  rw[zb (by omega:(n:Int)<a.length),zg,idx_at hn,za,za,hE _ (zr hn),za,zn,ze,zf (fits_nat (n:=n) (by omega))]
  simp only[cast_succ']at hgo
  exact hgo
abbrev jJH :Tp:=.pair TSeg (.sl (.int .i64))
abbrev jJJ :Tp:=.pair TConf (.sl jJH)
theorem jLv (N:Nat) (hM:Sm<N) (x:ELive) (left:Int) (h0:0<=left) (h1:left<=1048576) (ha:okD BigN jJH x):SzP (tot jJH x) left (jJQ N x.1.1 x.1.2 x.2 left) (okD Sm jJH x):=by
 unfold jJQ
 exact(SzP.then2 h1 (jLK N hM x.1 _ h0 h1 ha.1) (fun _ r0 s0=>SzP.then2 s0 (jpk N hM x.2 _ r0 s0 ha.2) (fun _ r1 s1=>SzP.ret r1))).imp (by simp only[tot];omega) fun q=>⟨q.1,q.2.1⟩
theorem jMJ (N:Nat) (hM:Sm<N) (a:List ELive) (left:Int) (h0:0<=left) (h1:left<=1048576) (ha:okD BigN (.sl jJH) a):SzP (tot (.sl jJH) a) left (jKm N a left) (okD Sm (.sl jJH) a):=
 jaA (fun(e:ELive) l=>jJQ N e.1.1 e.1.2 e.2 l) N hM (okD Sm jJH) (tot jJH) a left ha.1 h0 h1 fun x hx l hl0 hl1=>jLv N hM x l hl0 hl1 (ha.2 x hx)
theorem jLz (N:Nat) (hM:Sm<N) (x:EIndex) (left:Int) (h0:0<=left) (h1:left<=1048576) (ha:okD BigN jJJ x):SzP (tot jJJ x) left (jJ5 N x.1.1 x.1.2 x.2 left) (okD Sm jJJ x):=by
 unfold jJ5
 exact(SzP.then2 h1 (jLu N hM x.1 _ h0 h1 ha.1) (fun _ r0 s0=>SzP.then2 s0 (jMJ N hM x.2 _ r0 s0 ha.2) (fun _ r1 s1=>SzP.ret r1))).imp (by simp only[tot];omega) fun q=>⟨q.1,q.2.1⟩
theorem jLh (N:Nat) (hM:Sm<N) (hN:N<=1099511627776) (a:List ELive) (h:okD Sm (.sl jJH) a):jKe N a=some a:=
 jB0 (fun(e:ELive)=>jJS N e.1.1 e.1.2 e.2) (fun r=>((r.1,r.2.1),r.2.2)) _ 72 N a (zal h.1 hM) hN (by have:List.length a<=1048576:=h.1;omega)
  (fun x hm=>⟨(x.1.1,x.1.2,x.2),by
   show jJS N _ _ _=_
   unfold jJS
   rw[jMY N hM hN x.1 (h.2 x hm).1,za,joY N hM hN x.2 (h.2 x hm).2,za],rfl⟩)
theorem jLO (N:Nat) (hM:Sm<N) (hN:N<=1099511627776) (x:EIndex) (h:okD Sm jJJ x):jJM N x.1.1 x.1.2 x.2=some (x.1.1,x.1.2,x.2):=by
 unfold jJM
 rw[jMX N hM hN x.1 h.1,za,jLh N hM hN x.2 h.2,za]
theorem jK7 (N:Nat) (hM:Sm<N) (hN:N<=1099511627776) (a:List ELive) (h:okD Sm (.sl jJH) a):jKn N a a=some true:=
 jzk (fun(e e2:ELive)=>jJW N e.1.1 e.1.2 e.2 e2.1.1 e2.1.2 e2.2) N a (zal h.1 hM) hN
  (fun x hm=>by
   show jJW N _ _ _ _ _ _=_
   unfold jJW
   rw[jMg N hM hN x.1 x.1 (h.2 x hm).1,za,zb rfl,zn,ze,jo1 N hM hN x.2 x.2 (h.2 x hm).2,za,zb rfl,zn,ze])
theorem jKv (N:Nat) (hM:Sm<N) (hN:N<=1099511627776) (x:EIndex) (h:okD Sm jJJ x):jJN N x.1.1 x.1.2 x.2 x.1.1 x.1.2 x.2=some true:=by
 unfold jJN
 rw[jLl N hM hN x.1 x.1 h.1,za,zb rfl,zn,ze,jK7 N hM hN x.2 h.2,za,zn,ze]
def jJF (l:ELive):Nat:=mcnt cDoc l.1.1+mcnt jA l.1.2+mcnt cInt l.2
theorem jMh (x:ELive):jJF x<=8*(tot jJH x+1):=by
 have h1:=jtV x.1.1
 have h2:=jnF x.1.2
 have h3:=jkz x.2
 unfold jJF
 show _<=8*((tot (.sl (.int .i64)) x.2+(tot (.sl jk) x.1.2+tot (.sl TDoc) x.1.1))+1)
 omega
theorem jMd (xs:List ELive):mcnt jJF xs<=8*tot (.sl jJH) xs:=jP (t:=jJH) jJF (fun x=>jMh x) xs
theorem jM9 {N:Nat} (hM:Sm<N) (hN:N<=16777216) {x:EIndex} (h:okD Sm jJJ x):FitI N x:=
 ⟨hM,hN,h.1,h.2.1,fun l hl=>⟨(h.2.2 l hl).1.1.2,(h.2.2 l hl).1.1.1,(h.2.2 l hl).2.1⟩⟩
def jJP (N:Nat) (x:ELive) (k:Int):ELive:=((jc (mDoc N) cDoc x.1.1 k,jc (jdA N) jA x.1.2 (k+(mcnt cDoc x.1.1:Nat))),jc mInt cInt x.2 (k+(mcnt cDoc x.1.1:Nat)+(mcnt jA x.1.2:Nat)))
theorem jLf (N:Nat) (hM:Sm<N) (hN:N<=1099511627776) (a:List ELive) (k:Int) (hk:0<=k) (hK:k+(mcnt jJF a:Nat)<=1000000000000000000) (ho:okD Sm (.sl jJH) a):jKd N a k=some (k+(mcnt jJF a:Nat),jc (jJP N) jJF a k):=by
 have hM1:1048576<N:=hM
 unfold jKd
 refine jW (jJP N) jJF N 1000000000000000000 (okD Sm jJH) (fun go a k=>?_) (fun go a n hn k hn0 hx hk hK=>?_) a k hk hK (zal ho.1 hM) hN ho.2
 .dsimp only
  rw[zd (zm _),ze]
 .dsimp only
  unfold jJF at hK
  have hci:0<=(n:Int)/\(n:Int)<a.length:=by omega
  rw[zb (by omega:(n:Int)<a.length),zg]
  simp only[zf hci,zai,zc hn,za]
  rw[jts N hM hN _ _ (by omega) (by omega) hx.1.1,za]
  dsimp only
  rw[jsE N hM hN _ _ (by omega) (by omega) hx.1.2,za]
  dsimp only
  rw[jkK N hM hN _ _ (by omega) (by omega) hx.2,za,zf (by unfold fits;omega)]
  refine congrArg go (Prod.ext ?_ (Prod.ext ?_ rfl))
  .dsimp only
   simp only[jac,jar,jax hn,zaG]
   rfl
  .show _=k+((mcnt cDoc a[n].1.1+mcnt jA a[n].1.2+mcnt cInt a[n].2:Nat):Int)
   dsimp only
   omega
theorem jLa (N:Nat) (hM:Sm<N) (hN:N<=1099511627776) (a:List ELive) (k:Int) (hk:0<=k) (hK:k+(mcnt jJF a:Nat)<=1000000000000000000) (ho:okD Sm (.sl jJH) a):jJ6 N (jc (jJP N) jJF a k) k=some (k+(mcnt jJF a:Nat)):=by
 have hM1:1048576<N:=hM
 unfold jJ6
 refine jnA (jJP N) jJF N 1000000000000000000 (okD Sm jJH) (fun go a k=>?_) (fun go a n hn k x hn0 hx ho hk hK=>?_) a k hk hK (zal ho.1 hM) hN ho.2
 .dsimp only
  rw[zd (zm _),ze]
 .dsimp only
  unfold jJF at hK
  have e0:a[n].1.1=jc (mDoc N) cDoc x.1.1 k:=by rw[hx];rfl
  have e1:a[n].1.2=jc (jdA N) jA x.1.2 (k+(mcnt cDoc x.1.1:Nat)):=by rw[hx];rfl
  have e2:a[n].2=jc mInt cInt x.2 (k+(mcnt cDoc x.1.1:Nat)+(mcnt jA x.1.2:Nat)):=by rw[hx];rfl
  rw[zb (by omega:(n:Int)<a.length),zg,idx_at hn,za,e0,jMC N hM hN _ _ (by omega) (by omega) ho.1.1,za,zd (by omega),ze,za,e1,jM0 N hM hN _ _ (by omega) (by omega) ho.1.2,za,zd (by omega),ze,za,e2,jKK N hM hN _ _ (by omega) (by omega) ho.2,za,zd (by omega),ze,zf (by unfold fits;omega)]
  refine congrArg go (Prod.ext rfl (Prod.ext ?_ rfl))
  show _=k+((mcnt cDoc x.1.1+mcnt jA x.1.2+mcnt cInt x.2:Nat):Int)
  dsimp only
  omega
def jJK (x:EIndex):Nat:=jGS x.1+mcnt jJF x.2
def jJL (N:Nat) (x:EIndex) (k:Int):EIndex:=(jha N x.1 k,jc (jJP N) jJF x.2 (k+(jGS x.1:Nat)))
theorem jL2 (x:EIndex):jJK x<=8*(tot jJJ x+1):=by
 have c1:=jMi x.1
 have c2:=jMd x.2
 have c3:tot jJJ x=tot (.sl jJH) x.2+tot TConf x.1:=rfl
 unfold jJK
 omega
theorem jKq (N:Nat) (hM:Sm<N) (hN:N<=1099511627776) (x:EIndex) (k:Int) (hk:0<=k) (hK:k+(jJK x:Nat)<=1000000000000000000) (ho:okD Sm jJJ x):jJX N x.1.1 x.1.2 x.2 k=some (k+(jJK x:Nat),(jJL N x k).1.1,(jJL N x k).1.2,(jJL N x k).2):=by
 unfold jJK at hK
 unfold jJX
 rw[jLY N hM hN x.1 k hk (by omega) ho.1,za]
 dsimp only
 rw[jLf N hM hN x.2 _ (by omega) (by omega) ho.2,za]
 refine congrArg some (Prod.ext ?_ rfl)
 show _=k+((jGS x.1+mcnt jJF x.2:Nat):Int)
 dsimp only
 omega
theorem jMf (N:Nat) (hM:Sm<N) (hN:N<=1099511627776) (x:EIndex) (k:Int) (hk:0<=k) (hK:k+(jJK x:Nat)<=1000000000000000000) (ho:okD Sm jJJ x):jJT N (jJL N x k).1.1 (jJL N x k).1.2 (jJL N x k).2 k=some (k+(jJK x:Nat)):=by
 unfold jJK at hK
 unfold jJT
 rw[show(jJL N x k).1=jha N x.1 k from rfl,jLP N hM hN x.1 k hk (by omega) ho.1,za,zd (by omega),ze,show(jJL N x k).2=jc (jJP N) jJF x.2 (k+(jGS x.1:Nat))from rfl,jLa N hM hN x.2 _ (by omega) (by omega) ho.2,za,zd (by omega),ze]
 refine congrArg some ?_
 show _=k+((jGS x.1+mcnt jJF x.2:Nat):Int)
 omega
theorem FitP.of {N:Nat} {x:EIndex} (h:FitI N x) (hk:okIdx x=true):FitP N x.1 x.2:=by
 obtain⟨k1,k2,k3,k4⟩:=okIdx_ok hk
 have hl:∀l,l∈x.2->okLive x.1 l=true:=zax.1 k3
 refine⟨h.big,h.top,k2,fun l hm=>⟨h.big,h.top,h.oc,(h.each l hm).1,(okLive_ok (hl l hm)).1⟩,fun l hm=>?_,fun l hm=>(okLive_ok (hl l hm)).2.2.1⟩
 have:=hl l hm
 unfold okLive at this
 rw[zj,zj]at this
 exact(upB_up this.2.1).1
theorem FitC.of {N:Nat} {c:EConf} (hM:1048576<N) (h:okD Sm TConf c):FitC N c:=⟨hM,h.1.1,h.2.1,fun y hy=>(h.2.2 y hy).1.1⟩
theorem jKJ (id:Int):∀l:List Int,l.Nodup->l.filter (fun n=>decide (n∈ [id]))=if id∈l then [id]else []
 | [],_=>by simp
 |x::l,h=>by
  rw[zbg]at h
  have ih:=jKJ id l h.2
  rw[za9,ih]
  by_cases e:x=id
  .subst e
   rw[zf (by simp),zu h.1,zf (by simp)]
  .have e':¬id=x:=fun h=>e h.symm
   rw[zu (by simp[e])]
   by_cases e2:id∈l
   .rw [zf e2,zf (by simp[e2])]
   .rw [zu e2,zu (by simp[e2,e'])]
theorem jKB (id:Int) (l:ELive) (hi:l.1.1.Pairwise fun a b=>a.1<b.1):addD [id] l=bif hasL id l then [id]else []:=by
 have h1:((alive l).map (·.1)).Nodup:=zbb.2 ((hi.sublist List.filter_sublist).imp fun h e=>by have:=h;omega)
 unfold addD
 rw[jKJ id _ h1]
 have h2:id∈(alive l).map (·.1)↔hasL id l=true:=by
  unfold hasL
  rw[zab,zj]
  constructor
  .rintro ⟨d,hd,rfl⟩
   have hf:=zaZ.1 hd
   exact⟨by rw[docOf_self hi d hf.1];rfl,hf.2⟩
  .rintro ⟨h3,h4⟩
   cases hd:docOf l.1.1 id with
   |none=>rw[hd]at h3;cases h3
   |some d=>
    obtain⟨h5,rfl⟩:=docOf_some hd
    exact⟨d,zaZ.2 ⟨h5,h4⟩,rfl⟩
 by_cases e:hasL id l=true
 .rw [zf (h2.2 e),e];rfl
 .rw [zu (fun h=>e (h2.1 h)),Bool.eq_false_iff.2 e];rfl
theorem jME (id:Int) (l:ELive) (hi:l.1.1.Pairwise fun a b=>a.1<b.1):dropL [id] l=goneS id l:=by
 unfold dropL goneS
 rw[jKB id l hi]
 cases hasL id l<;>rfl
theorem jMx (id:Int) (l:ELive) (hi:l.1.1.Pairwise fun a b=>a.1<b.1) (hu:upL l.2) (hs:∀n,n∈l.2->∃d,d∈l.1.1/\d.1=n):livB (goneS id l)=decide ((goneS id l).2.length<(goneS id l).1.1.length):=by
 have key:∀l':ELive,l'.1.1.Pairwise (fun a b=>a.1<b.1)->upL l'.2->(∀n,n∈l'.2->∃d,d∈l'.1.1/\d.1=n)->livB l'=decide (l'.2.length<l'.1.1.length):=fun l' h1 h2 h3=>by
  have:=alive_len l' h1 (h2.imp fun h e=>by omega) h3
  unfold livB
  rw[decide_eq_decide]
  omega
 unfold goneS
 cases hh:hasL id l with
 |false=>exact key l hi hu hs
 |true=>
  refine key (l.1,putI l.2 id) hi (putI_up id l.2 hu) fun n hn=>?_
  rcases(putI_mem id n l.2).1 hn with rfl|hn
  .unfold hasL at hh
   rw[zj]at hh
   cases hd:docOf l.1.1 n with
   |none=>rw[hd]at hh;cases hh.1
   |some d=>exact⟨d,docOf_some hd⟩
  .exact hs n hn
theorem jL8 {c:EConf} {l:ELive} (h:okLive c l=true):∀n,n∈l.2->∃d,d∈l.1.1/\d.1=n:=fun n hn=>by
 unfold okLive at h
 simp only[zj]at h
 have h1:=zax.1 h.2.2.2 n hn
 cases hdn:docOf l.1.1 n with
 |none=>rw[hdn]at h1;cases h1
 |some d=>exact⟨d,docOf_some hdn⟩
def jMj (id:Int) (x:EIndex):EIndex:=(x.1,(x.2.map (goneS id)).filter fun l=>decide (l.2.length<l.1.1.length))
def jJI (id:Int) (x:EIndex):EIndex×Bool:=bif okIdx x then(jMj id x,x.2.any (hasL id))else((([],[]),[]),false)
theorem jMP {Y β:Type} {f g:Y->β} {l:List Y} (h:∀x,x∈l->f x=g x):l.map f=l.map g:=List.map_congr_left h
theorem jM1 {Y:Type} {p q:Y->Bool}:∀ {l:List Y},(∀x,x∈l->p x=q x)->l.filter p=l.filter q:=fun h=>List.filter_congr h
theorem jKA (id:Int):∀ls:List ELive,(∀l,l∈ls->l.1.1.Pairwise fun a b=>a.1<b.1)->decide ((0:Int)<((ls.flatMap (addD [id])).length:Int))=ls.any (hasL id)
 | [],_=>rfl
 |l::ls,h=>by
  have ih:=jKA id ls fun l hl=>h l (zl _ hl)
  rw[zbu,jKB id l (h l zy),List.any_cons,<-ih]
  cases hasL id l with
  |true=>rw[Bool.true_or,zw];simp
  |false=>simp
theorem jK1 {N:Nat} {x:EIndex} (h:FitI N x) (id:Int):jJ0 N x.1.1 x.1.2 x.2 id=some ((jJI id x).1.1.1,(jJI id x).1.1.2,(jJI id x).1.2,(jJI id x).2):=by
 unfold jJ0 jJI
 rw[l18Ok_spec h,za]
 cases hk:okIdx x with
 |false=>rfl
 |true=>
  obtain⟨k1,k2,k3,k4⟩:=okIdx_ok hk
  have hp:=FitP.of h hk
  rw[zn,ze,copyIndex_spec N x (.of h.big h.oc) (by omega) (fun l hl=>.of (zax.1 k3 l hl)),za]
  dsimp only
  rw[gone_spec hp,za]
  dsimp only
  rw[full_spec N h.big x.1 _ (by rw[zar];omega),za]
  rfl
theorem jL9 {N:Nat} {x:EIndex} (h:FitI N x) (id:Int):jJU N x.1.1 x.1.2 x.2 id=some ((jJI id x).1.1.1,(jJI id x).1.1.2,(jJI id x).1.2,(jJI id x).2):=by
 unfold jJU jJI
 rw[indexOk_spec h,za]
 cases hk:okIdx x with
 |false=>rfl
 |true=>
  obtain⟨k1,k2,k3,k4⟩:=okIdx_ok hk
  have hp:=FitP.of h hk
  have hids:∀l,l∈x.2->l.1.1.Pairwise fun a b=>a.1<b.1:=fun l hl=>(hp.good l hl).dok.inn.ids
  rw[zn,ze,cloneIndex_spec N x (.of h.big h.oc) (by omega) (fun l hl=>.of (zax.1 k3 l hl)),za]
  dsimp only
  rw[drop_spec hp [id] (by simp),za]
  dsimp only
  rw[jKA id x.2 hids,jMP (fun l hl=>jME id l (hids l hl)),jM1 (p:=livB) (q:=fun l=>decide (l.2.length<l.1.1.length)) (fun l' hl'=>?_)]
  .rfl
  .obtain ⟨l,hl,rfl⟩:=zab.1 hl'
   exact jMx id l (hids l hl) (hp.up l hl) (jL8 (zax.1 k3 l hl))
theorem jMm {x:EIndex} (id:Int) (h:okD Sm jJJ x):okD Sm jJJ (jJI id x).1:=by
 have h5:(5:Nat)<=Sm:=by decide
 have h100:(100:Nat)<=Sm:=by decide
 unfold jJI
 cases hk:okIdx x with
 |false=>exact⟨⟨⟨zaf _,fun x hx=>by cases hx⟩,⟨zaf _,fun x hx=>by cases hx⟩⟩,⟨zaf _,fun x hx=>by cases hx⟩⟩
 |true=>
  obtain⟨k1,k2,k3,k4⟩:=okIdx_ok hk
  refine⟨h.1,⟨?_,fun l' hl'=>?_⟩⟩
  .exact zau (zau (zbh _ _) (by rw[zar];exact k2)) h5
  .obtain ⟨l,hl,rfl⟩:=zab.1 (zaZ.1 hl').1
   have ho:=h.2.2 l hl
   unfold goneS
   cases hh:hasL id l with
   |false=>exact ho
   |true=>
    have hd:=(okLive_ok (zax.1 k3 l hl)).2.2.1
    have hlen:=putI_len id l.2
    refine⟨ho.1,⟨zau (by omega:(putI l.2 id).length<=100) h100,fun n hn=>?_⟩⟩
    rcases(putI_mem id n l.2).1 hn with rfl|hn
    .unfold hasL at hh
     rw[zj]at hh
     cases hdo:docOf l.1.1 n with
     |none=>rw[hdo]at hh;cases hh.1
     |some d=>
      obtain⟨hm,rfl⟩:=docOf_some hdo
      exact(ho.1.1.2 d hm).1
    .exact ho.2.2 n hn
theorem jKL {Y:Type} (c:Y->Nat) (p:Y->Bool):∀l:List Y,mcnt c (l.filter p)<=mcnt c l
 | []=>zae _
 |x::l=>by
  have ih:=jKL c p l
  rw[za9]
  split<;>simp only[mcnt]<;>omega
theorem jKU {Y:Type} (c:Y->Nat) (f:Y->Y) (h:∀x,c (f x)<=c x+1):∀l:List Y,mcnt c (l.map f)<=mcnt c l+l.length
 | []=>zae _
 |x::l=>by
  have ih:=jKU c f h l
  have:=h x
  simp only[zv,mcnt,zi]
  omega
theorem jKi :∀l:List Int,mcnt cInt l=l.length
 | []=>rfl
 |x::l=>by simp only[mcnt,jKi l,zi,cInt];omega
theorem jMv (id:Int) (l:ELive):jJF (goneS id l)<=jJF l+1:=by
 unfold goneS
 cases hasL id l with
 |false=>exact Nat.le_succ _
 |true=>
  have:=putI_len id l.2
  unfold jJF
  rw[jKi,jKi]
  show mcnt cDoc l.1.1+mcnt jA l.1.2+(putI l.2 id).length<=_
  omega
theorem jLN (id:Int) (x:EIndex):jJK (jJI id x).1<=jJK x+x.2.length:=by
 unfold jJI
 cases okIdx x with
 |false=>exact zaf _
 |true=>
  have h1:=jKL jJF (fun l=>decide (l.2.length<l.1.1.length)) (x.2.map (goneS id))
  have h2:=jKU jJF (goneS id) (jMv id) x.2
  show jGS x.1+mcnt jJF ((x.2.map (goneS id)).filter _)<=jGS x.1+mcnt jJF x.2+x.2.length
  omega
theorem jLC (N:Nat) (hM:Sm<N) (hN:N<=16777216) (x:EIndex) (id:Int) (hx:okD BigN jJJ x):jJZ N x.1.1 x.1.2 x.2 id=some true:=by
 have hM':1048576<N:=hM
 have hN':N<=1099511627776:=by omega
 refine Def.get ?_
 unfold jJZ
 refine Def.bind (jLz N hM x 1048576 (by omega) (by omega) hx) fun r hr=>?_
 refine Def.dif (fun e=>Def.ret rfl) (fun e3=>?_)
 rcases hr with hr|⟨r0,r1,ox⟩
 .omega
 have F:=jM9 hM hN ox
 have hlen:x.2.length<=1048576:=ox.2.1
 have c1:=jL2 x
 have c2:=jLN id x
 have oR:=jMm id ox
 have t1:=jLO N hM hN' x ox
 have t4:=jKv N hM hN' x ox
 have t7:=jK1 F id
 have t8:=jL9 F id
 have t9:=jKv N hM hN' (jJI id x).1 oR
 have m1:=jKq N hM hN' x 1 (by omega) (by omega) ox
 generalize jJI id x=R at*
 have m4:=jKq N hM hN' R.1 1 (by omega) (by omega) oR
 have m5:=jMf N hM hN' R.1 1 (by omega) (by omega) oR
 simp only[t1,t4,t7,t8,t9,m1,m4,m5,za,zn,ze,beq_self_eq_true]
 rw[zd (by omega),ze]
 simp only[decide_true,zn,ze]
 rw[zd (by omega),ze]
 exact Def.ret rfl
theorem jML (x0:EIndex) (x1:Int) (o0:okD BigN jJJ x0) (o1:okD BigN (.int .i64) x1):jJZ 1048700 x0.1.1 x0.1.2 x0.2 x1=some true:=
 jLC 1048700 (by decide) (by decide) x0 x1 o0
end Go.Proofs.YtlfbmkkddcelcaaGreat
