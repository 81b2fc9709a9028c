import Derived.Test.YtcinmmojlcchfaaGreatDoorSG1
import Derived.Test.YtcinmmojlcchfaaGreatDoorSF1
import Derived.Test.YtcinmmojlcchfaaGreatDoorMD
set_option linter.unusedVariables false
set_option linter.unusedSimpArgs false
namespace Go.Proofs.YtcinmmojlcchfaaGreatDoor
open Go.RowKit
abbrev jJJ :Tp:=.pair TConf (.sl TLive)
theorem jzk {α:Type} (E:α->α->Option Bool) (N:Nat) (a:List α) (h:a.length<N) (hN:N<=1099511627776) (hE:∀x,x∈a->E x x=some true):jf3 E N a a=some true:=by
 unfold jf3
 rw[zb rfl,zn,ze]
 refine(iter_scan _ a.length (fun n=>(a,a,(n:Int))) (fun n=>some true) (fun go=>?_) (fun go n hn hgo=>?_) N 0 (zaf _) (by omega))
 .dsimp only
  rw[zd (zcd _),ze]
 .dsimp only
  rw[zb (by omega:(n:Int)<a.length),zg,idx_at hn,za,za,hE _ (zr hn),za,zn,ze,zf (fits_nat (n:=n) (by omega))]
  simp only[cast_succ']at hgo
  exact hgo
theorem jK7 (N:Nat) (hM:Sm<N) (hN:N<=1099511627776) (a:List ELive) (h:okD Sm (.sl TLive) a):jKn N a a=some true:=
 jzk (fun(e e2:ELive)=>jJW N e.1.1 e.1.2 e.2 e2.1.1 e2.1.2 e2.2) N a (zal h.1 hM) hN
  (fun x hm=>by
   show jJW N _ _ _ _ _ _=_
   unfold jJW
   rw[jMg N hM hN x.1 x.1 (h.2 x hm).1,za,zb rfl,zn,ze,jo1 N hM hN x.2 x.2 (h.2 x hm).2,za,zb rfl,zn,ze])
theorem jKv (N:Nat) (hM:Sm<N) (hN:N<=1099511627776) (x:EIndex) (h:okD Sm jJJ x):jJN N x.1.1 x.1.2 x.2 x.1.1 x.1.2 x.2=some true:=by
 unfold jJN
 rw[jLl N hM hN x.1 x.1 h.1,za,zb rfl,zn,ze,jK7 N hM hN x.2 h.2,za,zn,ze]
theorem jLf (N:Nat) (hM:Sm<N) (hN:N<=1099511627776) (a:List ELive) (k:Int) (hk:0<=k) (hK:k+(mcnt cLive a:Nat)<=1000000000000000000) (ho:okD Sm (.sl TLive) a):jKd N a k=some (k+(mcnt cLive a:Nat),markL (mLive N) cLive a k):=by
 have hM1:1048576<N:=hM
 unfold jKd
 refine markLoop_spec (mLive N) cLive N 1000000000000000000 (okD Sm TLive) (fun go a k=>?_) (fun go a n hn k hn0 hx hk hK=>?_) a k hk hK (zal ho.1 hM) hN ho.2
 .dsimp only
  rw[zd (zcd _),ze]
 .dsimp only
  unfold cLive cSeg at hK
  have hci:0<=(n:Int)/\(n:Int)<a.length:=by omega
  rw[zb (by omega:(n:Int)<a.length),zg]
  simp only[zf hci,zai,zc hn,za]
  rw[markDocS_spec N hM hN _ _ (by omega) (by omega) hx.1.1,za]
  dsimp only
  rw[markEntryS_spec N hM hN _ _ (by omega) (by omega) hx.1.2,za]
  dsimp only
  rw[markIntS_spec N hM hN _ _ (by omega) (by omega) hx.2,za,zf (by unfold fits;omega)]
  refine congrArg go (Prod.ext ?_ (Prod.ext ?_ rfl))
  .dsimp only
   simp only[mod_set,setSet,mod_at hn,zaG]
   unfold mLive mSeg cSeg
   rw[show k+((mcnt cDoc a[n].1.1+mcnt cEntry a[n].1.2:Nat):Int)=k+(mcnt cDoc a[n].1.1:Nat)+(mcnt cEntry a[n].1.2:Nat)from by omega]
  .show _=k+((mcnt cDoc a[n].1.1+mcnt cEntry a[n].1.2+mcnt cInt a[n].2:Nat):Int)
   dsimp only
   omega
theorem jLa (N:Nat) (hM:Sm<N) (hN:N<=1099511627776) (a:List ELive) (k:Int) (hk:0<=k) (hK:k+(mcnt cLive a:Nat)<=1000000000000000000) (ho:okD Sm (.sl TLive) a):jJ6 N (markL (mLive N) cLive a k) k=some (k+(mcnt cLive a:Nat)):=by
 have hM1:1048576<N:=hM
 unfold jJ6
 refine heldLoop_spec (mLive N) cLive N 1000000000000000000 (okD Sm TLive) (fun go a k=>?_) (fun go a n hn k x hn0 hx ho hk hK=>?_) a k hk hK (zal ho.1 hM) hN ho.2
 .dsimp only
  rw[zd (zcd _),ze]
 .dsimp only
  unfold cLive cSeg at hK
  have e0:a[n].1.1=markL (mDoc N) cDoc x.1.1 k:=by rw[hx];rfl
  have e1:a[n].1.2=markL (mEntry N) cEntry x.1.2 (k+(mcnt cDoc x.1.1:Nat)):=by rw[hx];rfl
  have e2:a[n].2=markL mInt cInt x.2 (k+(mcnt cDoc x.1.1:Nat)+(mcnt cEntry x.1.2:Nat)):=by rw[hx];unfold mLive cSeg;rw[show k+((mcnt cDoc x.1.1+mcnt cEntry x.1.2:Nat):Int)=k+(mcnt cDoc x.1.1:Nat)+(mcnt cEntry x.1.2:Nat)from by omega]
  rw[zb (by omega:(n:Int)<a.length),zg,idx_at hn,za,e0,heldDocS_spec N hM hN _ _ (by omega) (by omega) ho.1.1,za,zd (by omega),ze,za,e1,heldEntryS_spec N hM hN _ _ (by omega) (by omega) ho.1.2,za,zd (by omega),ze,za,e2,heldIntS_spec N hM hN _ _ (by omega) (by omega) ho.2,za,zd (by omega),ze,zf (by unfold fits;omega)]
  refine congrArg go (Prod.ext rfl (Prod.ext ?_ rfl))
  show _=k+((mcnt cDoc x.1.1+mcnt cEntry x.1.2+mcnt cInt x.2:Nat):Int)
  dsimp only
  omega
def jJK (x:EIndex):Nat:=cConf x.1+mcnt cLive x.2
def jJL (N:Nat) (x:EIndex) (k:Int):EIndex:=(mConf N x.1 k,markL (mLive N) cLive x.2 (k+(cConf x.1:Nat)))
theorem jKq (N:Nat) (hM:Sm<N) (hN:N<=1099511627776) (x:EIndex) (k:Int) (hk:0<=k) (hK:k+(jJK x:Nat)<=1000000000000000000) (ho:okD Sm jJJ x):jJX N x.1.1 x.1.2 x.2 k=some (k+(jJK x:Nat),(jJL N x k).1.1,(jJL N x k).1.2,(jJL N x k).2):=by
 unfold jJK at hK
 unfold jJX
 rw[markConf_spec N hM hN x.1 k hk (by omega) ho.1,za]
 dsimp only
 rw[jLf N hM hN x.2 _ (by omega) (by omega) ho.2,za]
 refine congrArg some (Prod.ext ?_ rfl)
 show _=k+((cConf x.1+mcnt cLive x.2:Nat):Int)
 dsimp only
 omega
theorem jMf (N:Nat) (hM:Sm<N) (hN:N<=1099511627776) (x:EIndex) (k:Int) (hk:0<=k) (hK:k+(jJK x:Nat)<=1000000000000000000) (ho:okD Sm jJJ x):jJT N (jJL N x k).1.1 (jJL N x k).1.2 (jJL N x k).2 k=some (k+(jJK x:Nat)):=by
 unfold jJK at hK
 unfold jJT
 rw[show(jJL N x k).1=mConf N x.1 k from rfl,heldConf_spec N hM hN x.1 k hk (by omega) ho.1,za,zd (by omega),ze,show(jJL N x k).2=markL (mLive N) cLive x.2 (k+(cConf x.1:Nat))from rfl,jLa N hM hN x.2 _ (by omega) (by omega) ho.2,za,zd (by omega),ze]
 refine congrArg some ?_
 show _=k+((cConf x.1+mcnt cLive x.2:Nat):Int)
 omega
theorem jXc {x:EIndex} (hk:okIdx x=true):okD Sm (.sl TLive) x.2/\mcnt cLive x.2<=2500000000000:=by
 obtain⟨k1,k2,k3,k4⟩:=okIdx_ok hk
 refine⟨⟨by show x.2.length<=1048576;omega,fun l hl=>(oneL (jZP hk hl)).live⟩,?_⟩
 have:=mcnt_le (c:=cLive) 500000000000 x.2 fun l hl=>cLive_few (.of (zax.1 k3 l hl))
 have h3:=zag 500000000000 k2
 omega
theorem j0i {c:EConf} {d:List EFile} {s:List UInt8} {x:EIndex} (h:openT c d s=some x):x.1=c/\okIdx x=true:=by
 unfold openT at h
 cases hb:decide ((cutAt 10 s).getLastD []=endT)with
 |false=>rw[hb]at h;cases h
 |true=>
  rw[hb,zg]at h
  cases hl:linesL c d (cutAt 10 s).dropLast with
  |none=>rw[hl]at h;cases h
  |some ls=>
   rw[hl,za]at h
   cases hk:okIdx (c,ls)with
   |false=>rw[hk]at h;cases h
   |true=>
    rw[hk,zg,zaE]at h
    subst h
    exact⟨rfl,hk⟩
theorem j0F {c:EConf} {d:List EFile} {n:Int} {x:EIndex} (h:openG c d n=some x):x.1=c/\okIdx x=true:=by
 unfold openG at h
 cases hf:fileD d (genN n)with
 |none=>rw[hf]at h;cases h
 |some t=>
  rw[hf,za]at h
  exact j0i h
theorem jZM {c:EConf} {d:List EFile} (oc:okD Sm TConf c):∀n,okD Sm jJJ (lastT c d n).1/\jJK (lastT c d n).1<=cConf c+2500000000000
 |0=>⟨⟨oc,⟨zaf _,(fun l h=>by cases h)⟩⟩,Nat.le_add_right _ _⟩
 |n+1=>by
  unfold lastT
  cases hg:openG c d ((n+1:Nat):Int)with
  |none=>exact jZM oc n
  |some x=>
   obtain⟨e,hk⟩:=j0F hg
   obtain⟨s1,s2⟩:=jXc hk
   refine⟨⟨by show okD Sm TConf x.1;rw[e];exact oc,s1⟩,?_⟩
   show cConf x.1+mcnt cLive x.2<=_
   rw[e]
   omega
theorem j0t {c:EConf} {d:List EFile} (oc:okD Sm TConf c):okD Sm jJJ (openD2 c d).1/\jJK (openD2 c d).1<=cConf c+2500000000000:=by
 unfold openD2
 cases okConf c&&okDisk d with
 |false=>exact⟨⟨⟨⟨zaf _,(fun l h=>by cases h)⟩,⟨zaf _,(fun l h=>by cases h)⟩⟩,⟨zaf _,(fun l h=>by cases h)⟩⟩,zaf _⟩
 |true=>exact jZM oc 99
theorem j0H {N:Nat} (hN:1048600<=N) (hN2:N<=16777216) (c:EConf) (d:List EFile) (hc:okD BigN TConf c) (hd:okD BigN jZu d):jZD N c.1 c.2 d=some true:=by
 have hM:Sm<N:=by show 1048576<N;omega
 have hN':N<=1099511627776:=by omega
 refine Def.get ?_
 unfold jZD
 refine Def.bind (jLu N hM c 1048576 (by omega) (by omega) hc) fun r hr=>?_
 refine Def.dif (fun e=>Def.ret rfl) (fun e3=>?_)
 rcases hr with hr|⟨r0,r1,oc⟩
 .omega
 refine Def.bind (j0k N hM d r r0 (by omega) hd) fun r2 hr2=>?_
 refine Def.dif (fun e=>Def.ret rfl) (fun e4=>?_)
 rcases hr2 with hr2|⟨r3,r4,od⟩
 .omega
 have F:FitD d:=⟨od.1,fun f hf=>⟨(od.2 f hf).1,(od.2 f hf).2⟩⟩
 have c1:=cConf_le c
 have c2:=j0a d
 obtain⟨oR,c3⟩:=j0t (d:=d) oc
 have t1:=jMX N hM hN' c oc
 have t2:=j0G N hM hN' d od
 have t3:=jLl N hM hN' c c oc
 have t4:=j0b N hM hN' d d od
 rw[zb rfl]at t3 t4
 have t5:=diskOpen_s hN hN2 c oc d F
 have t6:=diskOpen_i hN hN2 c oc d F
 have m1:=markConf_spec N hM hN' c 1 (by omega) (by omega) oc
 have m2:=j0E N hM hN' d (1+(cConf c:Nat)) (by omega) (by omega) od
 generalize openD2 c d=R at*
 unfold outO at t5 t6
 have t7:=jKv N hM hN' R.1 oR
 have m4:=jKq N hM hN' R.1 1 (by omega) (by omega) oR
 have m5:=jMf N hM hN' R.1 1 (by omega) (by omega) oR
 simp only[t1,t2,t3,t4,t5,t6,t7,m1,m2,m4,m5,za,zn,ze,beq_self_eq_true,eq_self,decide_true]
 rw[zd (by omega),ze]
 rw[zd (by omega),ze]
 exact Def.ret rfl
theorem j0Q (x0:EConf) (x1:List EFile) (o0:okD BigN TConf x0) (o1:okD BigN jZu x1):jZD 1048700 x0.1 x0.2 x1=some true:=j0H (by omega) (by omega) x0 x1 o0 o1
end Go.Proofs.YtcinmmojlcchfaaGreatDoor
