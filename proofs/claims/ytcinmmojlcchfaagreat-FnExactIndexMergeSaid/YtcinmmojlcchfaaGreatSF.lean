import Derived.Test.YtcinmmojlcchfaaGreatSD
import Derived.Test.YtcinmmojlcchfaaGreatMK
set_option linter.unusedVariables false
set_option linter.unusedSimpArgs false
namespace Go.Proofs.YtcinmmojlcchfaaGreat
open Go.RowKit
abbrev jAe {α β:Type} (T:α->Option β) (G:β->α) (z:α) (m:Int) (N:Nat) (a:List α):Option (List α):=
 (if(a.length:Int)=(a.length:Int)/\0<=(a.length:Int)/\(a.length:Int)*m<=140737488355328/\(a.length:Int)<=140737488355328 then
  (iter (fun(go:(List α×List α×Int)->Option (List α)) (g:List α×List α×Int)=>
    match g with
    |(a2,out,i)=>
    (bif(decide (i<(a2.length:Int)))then
     (Option.bind (idx a2 i) fun(e:α)=>
      (Option.bind (T e) fun(r:β)=>
       (if 0<=i/\i<(out.length:Int)then
        (Option.bind (out[i.toNat]?) fun(e2:α)=>
         (if fits (i+1)then(go (a2,(out.set i.toNat (G r)),(i+1)))else none))
        else none)))
     else
     (some out))) N (a,(List.replicate (a.length:Int).toNat z),0))
  else none)
theorem jB0 {α β:Type} (T:α->Option β) (G:β->α) (z:α) (m:Int) (N:Nat) (a:List α) (h:a.length<N) (hN:N<=1099511627776) (hm:(a.length:Int)*m<=140737488355328) (hT:∀x,x∈a->∃r,T x=some r/\G r=x):jAe T G z m N a=some a:=by
 unfold jAe
 rw[zf ⟨rfl,by omega,hm,by omega⟩]
 refine(iter_scan _ a.length (fun n=>(a,a.take n++List.replicate (a.length-n) z,(n:Int))) (fun n=>some a) (fun go=>?_) (fun go n hn hgo=>?_) N 0 (zaf _) (by omega))
 .dsimp only
  rw[zd (zcd _),ze,zq,Nat.sub_self]
  simp
 .have hn':(n:Int)<a.length:=by omega
  have hol:(a.take n++List.replicate (a.length-n) z).length=a.length:=by simp;omega
  obtain⟨r,hr,hg⟩:=hT _ (zr hn)
  dsimp only
  rw[zb hn',zg,idx_at hn,za,hr,za,zf (by omega),zai,zc (by omega),za,zf (fits_nat (n:=n) (by omega)),hg,jkc a z n hn]
  simp only[cast_succ']at hgo
  exact hgo
theorem jzk {α:Type} (E:α->α->Option Bool) (N:Nat) (a:List α) (h:a.length<N) (hN:N<=1099511627776) (hE:∀x,x∈a->E x x=some true):jf3 E N a a=some true:=by
 unfold jf3
 rw[zb rfl,zn,ze]
 refine(iter_scan _ a.length (fun n=>(a,a,(n:Int))) (fun n=>some true) (fun go=>?_) (fun go n hn hgo=>?_) N 0 (zaf _) (by omega))
 .dsimp only
  rw[zd (zcd _),ze]
 .dsimp only
  rw[zb (by omega:(n:Int)<a.length),zg,idx_at hn,za,za,hE _ (zr hn),za,zn,ze,zf (fits_nat (n:=n) (by omega))]
  simp only[cast_succ']at hgo
  exact hgo
abbrev jJH :Tp:=.pair TSeg (.sl (.int .i64))
abbrev jJJ :Tp:=.pair TConf (.sl jJH)
theorem jLv (N:Nat) (hM:Sm<N) (x:ELive) (left:Int) (h0:0<=left) (h1:left<=1048576) (ha:okD BigN jJH x):SzP (tot jJH x) left (jJQ N x.1.1 x.1.2 x.2 left) (okD Sm jJH x):=by
 unfold jJQ
 exact(SzP.then2 h1 (jLK N hM x.1 _ h0 h1 ha.1) (fun _ r0 s0=>SzP.then2 s0 (jpk N hM x.2 _ r0 s0 ha.2) (fun _ r1 s1=>SzP.ret r1))).imp (by simp only[tot];omega) fun q=>⟨q.1,q.2.1⟩
theorem jMJ (N:Nat) (hM:Sm<N) (a:List ELive) (left:Int) (h0:0<=left) (h1:left<=1048576) (ha:okD BigN (.sl jJH) a):SzP (tot (.sl jJH) a) left (jKm N a left) (okD Sm (.sl jJH) a):=
 jaA (fun(e:ELive) l=>jJQ N e.1.1 e.1.2 e.2 l) N hM (okD Sm jJH) (tot jJH) a left ha.1 h0 h1 fun x hx l hl0 hl1=>jLv N hM x l hl0 hl1 (ha.2 x hx)
theorem jLz (N:Nat) (hM:Sm<N) (x:EIndex) (left:Int) (h0:0<=left) (h1:left<=1048576) (ha:okD BigN jJJ x):SzP (tot jJJ x) left (jJ5 N x.1.1 x.1.2 x.2 left) (okD Sm jJJ x):=by
 unfold jJ5
 exact(SzP.then2 h1 (jLu N hM x.1 _ h0 h1 ha.1) (fun _ r0 s0=>SzP.then2 s0 (jMJ N hM x.2 _ r0 s0 ha.2) (fun _ r1 s1=>SzP.ret r1))).imp (by simp only[tot];omega) fun q=>⟨q.1,q.2.1⟩
theorem jLh (N:Nat) (hM:Sm<N) (hN:N<=1099511627776) (a:List ELive) (h:okD Sm (.sl jJH) a):jKe N a=some a:=
 jB0 (fun(e:ELive)=>jJS N e.1.1 e.1.2 e.2) (fun r=>((r.1,r.2.1),r.2.2)) _ 72 N a (zal h.1 hM) hN (by have:List.length a<=1048576:=h.1;omega)
  (fun x hm=>⟨(x.1.1,x.1.2,x.2),by
   show jJS N _ _ _=_
   unfold jJS
   rw[jMY N hM hN x.1 (h.2 x hm).1,za,joY N hM hN x.2 (h.2 x hm).2,za],rfl⟩)
theorem jLO (N:Nat) (hM:Sm<N) (hN:N<=1099511627776) (x:EIndex) (h:okD Sm jJJ x):jJM N x.1.1 x.1.2 x.2=some (x.1.1,x.1.2,x.2):=by
 unfold jJM
 rw[jMX N hM hN x.1 h.1,za,jLh N hM hN x.2 h.2,za]
theorem jK7 (N:Nat) (hM:Sm<N) (hN:N<=1099511627776) (a:List ELive) (h:okD Sm (.sl jJH) a):jKn N a a=some true:=
 jzk (fun(e e2:ELive)=>jJW N e.1.1 e.1.2 e.2 e2.1.1 e2.1.2 e2.2) N a (zal h.1 hM) hN
  (fun x hm=>by
   show jJW N _ _ _ _ _ _=_
   unfold jJW
   rw[jMg N hM hN x.1 x.1 (h.2 x hm).1,za,zb rfl,zn,ze,jo1 N hM hN x.2 x.2 (h.2 x hm).2,za,zb rfl,zn,ze])
theorem jKv (N:Nat) (hM:Sm<N) (hN:N<=1099511627776) (x:EIndex) (h:okD Sm jJJ x):jJN N x.1.1 x.1.2 x.2 x.1.1 x.1.2 x.2=some true:=by
 unfold jJN
 rw[jLl N hM hN x.1 x.1 h.1,za,zb rfl,zn,ze,jK7 N hM hN x.2 h.2,za,zn,ze]
def jJF (l:ELive):Nat:=mcnt cDoc l.1.1+mcnt jA l.1.2+mcnt cInt l.2
theorem jMh (x:ELive):jJF x<=8*(tot jJH x+1):=by
 have h1:=jtV x.1.1
 have h2:=jnF x.1.2
 have h3:=jkz x.2
 unfold jJF
 show _<=8*((tot (.sl (.int .i64)) x.2+(tot (.sl jk) x.1.2+tot (.sl TDoc) x.1.1))+1)
 omega
theorem jMd (xs:List ELive):mcnt jJF xs<=8*tot (.sl jJH) xs:=jP (t:=jJH) jJF (fun x=>jMh x) xs
theorem jM9 {N:Nat} (hM:Sm<N) (hN:N<=16777216) {x:EIndex} (h:okD Sm jJJ x):FitI N x:=
 ⟨hM,hN,h.1,h.2.1,fun l hl=>⟨(h.2.2 l hl).1.1.2,(h.2.2 l hl).1.1.1,(h.2.2 l hl).2.1⟩⟩
def jJP (N:Nat) (x:ELive) (k:Int):ELive:=((jc (mDoc N) cDoc x.1.1 k,jc (jdA N) jA x.1.2 (k+(mcnt cDoc x.1.1:Nat))),jc mInt cInt x.2 (k+(mcnt cDoc x.1.1:Nat)+(mcnt jA x.1.2:Nat)))
theorem jLf (N:Nat) (hM:Sm<N) (hN:N<=1099511627776) (a:List ELive) (k:Int) (hk:0<=k) (hK:k+(mcnt jJF a:Nat)<=1000000000000000000) (ho:okD Sm (.sl jJH) a):jKd N a k=some (k+(mcnt jJF a:Nat),jc (jJP N) jJF a k):=by
 have hM1:1048576<N:=hM
 unfold jKd
 refine jW (jJP N) jJF N 1000000000000000000 (okD Sm jJH) (fun go a k=>?_) (fun go a n hn k hn0 hx hk hK=>?_) a k hk hK (zal ho.1 hM) hN ho.2
 .dsimp only
  rw[zd (zcd _),ze]
 .dsimp only
  unfold jJF at hK
  have hci:0<=(n:Int)/\(n:Int)<a.length:=by omega
  rw[zb (by omega:(n:Int)<a.length),zg]
  simp only[zf hci,zai,zc hn,za]
  rw[jts N hM hN _ _ (by omega) (by omega) hx.1.1,za]
  dsimp only
  rw[jsE N hM hN _ _ (by omega) (by omega) hx.1.2,za]
  dsimp only
  rw[jkK N hM hN _ _ (by omega) (by omega) hx.2,za,zf (by unfold fits;omega)]
  refine congrArg go (Prod.ext ?_ (Prod.ext ?_ rfl))
  .dsimp only
   simp only[jac,jar,jax hn,zaG]
   rfl
  .show _=k+((mcnt cDoc a[n].1.1+mcnt jA a[n].1.2+mcnt cInt a[n].2:Nat):Int)
   dsimp only
   omega
theorem jLa (N:Nat) (hM:Sm<N) (hN:N<=1099511627776) (a:List ELive) (k:Int) (hk:0<=k) (hK:k+(mcnt jJF a:Nat)<=1000000000000000000) (ho:okD Sm (.sl jJH) a):jJ6 N (jc (jJP N) jJF a k) k=some (k+(mcnt jJF a:Nat)):=by
 have hM1:1048576<N:=hM
 unfold jJ6
 refine jnA (jJP N) jJF N 1000000000000000000 (okD Sm jJH) (fun go a k=>?_) (fun go a n hn k x hn0 hx ho hk hK=>?_) a k hk hK (zal ho.1 hM) hN ho.2
 .dsimp only
  rw[zd (zcd _),ze]
 .dsimp only
  unfold jJF at hK
  have e0:a[n].1.1=jc (mDoc N) cDoc x.1.1 k:=by rw[hx];rfl
  have e1:a[n].1.2=jc (jdA N) jA x.1.2 (k+(mcnt cDoc x.1.1:Nat)):=by rw[hx];rfl
  have e2:a[n].2=jc mInt cInt x.2 (k+(mcnt cDoc x.1.1:Nat)+(mcnt jA x.1.2:Nat)):=by rw[hx];rfl
  rw[zb (by omega:(n:Int)<a.length),zg,idx_at hn,za,e0,jMC N hM hN _ _ (by omega) (by omega) ho.1.1,za,zd (by omega),ze,za,e1,jM0 N hM hN _ _ (by omega) (by omega) ho.1.2,za,zd (by omega),ze,za,e2,jKK N hM hN _ _ (by omega) (by omega) ho.2,za,zd (by omega),ze,zf (by unfold fits;omega)]
  refine congrArg go (Prod.ext rfl (Prod.ext ?_ rfl))
  show _=k+((mcnt cDoc x.1.1+mcnt jA x.1.2+mcnt cInt x.2:Nat):Int)
  dsimp only
  omega
def jJK (x:EIndex):Nat:=jGS x.1+mcnt jJF x.2
def jJL (N:Nat) (x:EIndex) (k:Int):EIndex:=(jha N x.1 k,jc (jJP N) jJF x.2 (k+(jGS x.1:Nat)))
theorem jL2 (x:EIndex):jJK x<=8*(tot jJJ x+1):=by
 have c1:=jMi x.1
 have c2:=jMd x.2
 have c3:tot jJJ x=tot (.sl jJH) x.2+tot TConf x.1:=rfl
 unfold jJK
 omega
theorem jKq (N:Nat) (hM:Sm<N) (hN:N<=1099511627776) (x:EIndex) (k:Int) (hk:0<=k) (hK:k+(jJK x:Nat)<=1000000000000000000) (ho:okD Sm jJJ x):jJX N x.1.1 x.1.2 x.2 k=some (k+(jJK x:Nat),(jJL N x k).1.1,(jJL N x k).1.2,(jJL N x k).2):=by
 unfold jJK at hK
 unfold jJX
 rw[jLY N hM hN x.1 k hk (by omega) ho.1,za]
 dsimp only
 rw[jLf N hM hN x.2 _ (by omega) (by omega) ho.2,za]
 refine congrArg some (Prod.ext ?_ rfl)
 show _=k+((jGS x.1+mcnt jJF x.2:Nat):Int)
 dsimp only
 omega
theorem jMf (N:Nat) (hM:Sm<N) (hN:N<=1099511627776) (x:EIndex) (k:Int) (hk:0<=k) (hK:k+(jJK x:Nat)<=1000000000000000000) (ho:okD Sm jJJ x):jJT N (jJL N x k).1.1 (jJL N x k).1.2 (jJL N x k).2 k=some (k+(jJK x:Nat)):=by
 unfold jJK at hK
 unfold jJT
 rw[show(jJL N x k).1=jha N x.1 k from rfl,jLP N hM hN x.1 k hk (by omega) ho.1,za,zd (by omega),ze,show(jJL N x k).2=jc (jJP N) jJF x.2 (k+(jGS x.1:Nat))from rfl,jLa N hM hN x.2 _ (by omega) (by omega) ho.2,za,zd (by omega),ze]
 refine congrArg some ?_
 show _=k+((jGS x.1+mcnt jJF x.2:Nat):Int)
 omega
theorem jKi :∀l:List Int,mcnt cInt l=l.length
 | []=>rfl
 |x::l=>by simp only[mcnt,jKi l,zi,cInt];omega
theorem jXm {l:ELive} (h:FitL l):jJF l<=500000000000:=by
 have hi:∀xs:List Int,mcnt cInt xs=xs.length:=jKi
 have h1:mcnt cDoc l.1.1<=16*13:=by
  have:=jWL (c:=cDoc) 13 l.1.1 fun d hd=>by
   have he:=h.dok.each d hd
   have a1:=jWL (c:=ju) 2 d.2.1 fun x _=>zae _
   have a2:=jWL (c:=jz) 2 d.2.2 fun x _=>zae _
   unfold cDoc
   have b1:=zag 2 he.1
   have b2:=zag 2 he.2.1
   omega
  exact zau this (zag 13 h.dok.few)
 have h2:mcnt jA l.1.2<=7680*58990082:=by
  have:=jWL (c:=jA) 58990082 l.1.2 fun e he=>by
   obtain⟨s1,s2⟩:=h.small.2 e he
   have a1:=jWL (c:=jx) 7681 e.2.2 fun p hp=>by
    have:=s2 p hp
    unfold jx
    rw[hi]
    omega
   have b1:=zag 7681 s1
   unfold jA
   omega
  exact zau this (zag 58990082 h.small.1)
 have h3:=h.dead
 unfold jJF
 rw[hi]
 omega
theorem jXc {N:Nat} {x:EIndex} (h:FitI N x) (hk:okIdx x=true):okD Sm (.sl jJH) x.2/\mcnt jJF x.2<=2500000000000:=by
 have h5:(5:Nat)<=Sm:=by decide
 have h16:(16:Nat)<=Sm:=by decide
 have h60:(60:Nat)<=Sm:=by decide
 obtain⟨k1,k2,k3,k4⟩:=okIdx_ok hk
 have kl:=fun l hl=>zax.1 k3 l hl
 refine⟨⟨zau k2 h5,fun l hl=>?_⟩,?_⟩
 .obtain ⟨o1,o2,o3,_⟩:=okLive_ok (kl l hl)
  obtain⟨_,p2,p3⟩:=okSeg_ok o1
  have od:=(h.each l hl).1
  refine⟨⟨⟨zau o2 h16,od⟩,?_⟩,zau o3 h60,fun n hn=>?_⟩
  .show okD Sm (.sl jk) l.1.2
   rw[p3]
   exact jW7 x.1 k1 (by unfold okSeg at o1;simp only[zj]at o1;exact o1.2.1)
  .obtain ⟨d,hd,rfl⟩:=okLive_dead (kl l hl) n hn
   exact(od d hd).1
 .have:=jWL (c:=jJF) 500000000000 x.2 fun l hl=>jXm (.of (kl l hl))
  have h3:=zag 500000000000 k2
  omega
theorem j4J {N:Nat} {x:EIndex} (h:FitI N x) (ox:okD Sm jJJ x) (k:Int):okD Sm jJJ (mergeR k x).1/\jJK (mergeR k x).1<=jJK x+2500000000000:=by
 have hf:=mergeR_fit h k
 unfold mergeR at*
 cases hk:okIdx x with
 |false=>exact⟨⟨⟨⟨zaf _,fun x hx=>by cases hx⟩,⟨zaf _,fun x hx=>by cases hx⟩⟩,⟨zaf _,fun x hx=>by cases hx⟩⟩,zaf _⟩
 |true=>
  rw[hk,zg]at hf
  rw[zg]
  cases hb:decide (0<=k)&&decide (k<=(x.2.length:Int)-2)with
  |false=>exact⟨ox,Nat.le_add_right _ _⟩
  |true=>
   rw[hb,zg]at hf
   rw[zj,zw,zw]at hb
   have hy:=merge_ok hk (k:=k.toNat) (by omega)
   obtain⟨s1,s2⟩:=jXc hf hy
   refine⟨⟨ox.1,s1⟩,?_⟩
   show jGS x.1+mcnt jJF (mergeX k.toNat x).2<=jGS x.1+mcnt jJF x.2+2500000000000
   have s2:mcnt jJF (mergeX k.toNat x).2<=2500000000000:=s2
   omega
theorem j4G (N:Nat) (hM:Sm<N) (hN:N<=16777216) (x:EIndex) (k:Int) (hx:okD BigN jJJ x):j4D N x.1.1 x.1.2 x.2 k=some true:=by
 have hM':1048576<N:=hM
 have hN':N<=1099511627776:=by omega
 refine Def.get ?_
 unfold j4D
 refine Def.bind (jLz N hM x 1048576 (by omega) (by omega) hx) fun r hr=>?_
 refine Def.dif (fun e=>Def.ret rfl) (fun e3=>?_)
 rcases hr with hr|⟨r0,r1,ox⟩
 .omega
 have F:=jM9 hM hN ox
 have c1:=jL2 x
 obtain⟨oR,c2⟩:=j4J F ox k
 have t1:=jLO N hM hN' x ox
 have t4:=jKv N hM hN' x ox
 have t7:=indexMerge_s F k
 have t8:=indexMerge_i F k
 have t9:=jKv N hM hN' (mergeR k x).1 oR
 have m1:=jKq N hM hN' x 1 (by omega) (by omega) ox
 generalize mergeR k x=R at*
 have m4:=jKq N hM hN' R.1 1 (by omega) (by omega) oR
 have m5:=jMf N hM hN' R.1 1 (by omega) (by omega) oR
 simp only[t1,t4,t7,t8,t9,m1,m4,m5,za,zn,ze,beq_self_eq_true,decide_true]
 rw[zd (by omega),ze]
 rw[zd (by omega),ze]
 exact Def.ret rfl
theorem j4F (x0:EIndex) (x1:Int) (o0:okD BigN jJJ x0) (o1:okD BigN (.int .i64) x1):j4D 1048700 x0.1.1 x0.1.2 x0.2 x1=some true:=
 j4G 1048700 (by decide) (by decide) x0 x1 o0
end Go.Proofs.YtcinmmojlcchfaaGreat
