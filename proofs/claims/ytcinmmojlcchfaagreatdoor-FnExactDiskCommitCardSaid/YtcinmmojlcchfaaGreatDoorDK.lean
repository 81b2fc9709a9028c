/- The law FnExactDiskOpen, in plain Lean. -/
import Derived.Test.YtcinmmojlcchfaaGreatDoorSG1
import Derived.Test.YtcinmmojlcchfaaGreatDoorSF1
import Derived.Test.YtcinmmojlcchfaaGreatDoorMD
set_option linter.unusedVariables false
set_option linter.unusedSimpArgs false
namespace Go.Proofs.YtcinmmojlcchfaaGreatDoor
open Go.RowKit
abbrev jJJ :Tp:=.pair TConf (.sl TLive)
theorem jzk {α:Type} (E:α->α->Option Bool) (N:Nat) (a:List α) (h:a.length<N) (hN:N<=1099511627776) (hE:∀x,x∈a->E x x=some true):jf3 E N a a=some true:=by
 unfold jf3
 rw[zb rfl,zn,ze]
 refine(iter_scan _ a.length (fun n=>(a,a,(n:Int))) (fun n=>some true) (fun go=>?_) (fun go n hn hgo=>?_) N 0 (zaf _) (by omega))
 .dsimp only
  rw[zd (zcd _),ze]
 .dsimp only
  rw[zb (by omega:(n:Int)<a.length),zg,idx_at hn,za,za,hE _ (zr hn),za,zn,ze,zf (fits_nat (n:=n) (by omega))]
  simp only[cast_succ']at hgo
  exact hgo
theorem jK7 (N:Nat) (hM:Sm<N) (hN:N<=1099511627776) (a:List ELive) (h:okD Sm (.sl TLive) a):jKn N a a=some true:=
 jzk (fun(e e2:ELive)=>jJW N e.1.1 e.1.2 e.2 e2.1.1 e2.1.2 e2.2) N a (zal h.1 hM) hN
  (fun x hm=>by
   show jJW N _ _ _ _ _ _=_
   unfold jJW
   rw[jMg N hM hN x.1 x.1 (h.2 x hm).1,za,zb rfl,zn,ze,jo1 N hM hN x.2 x.2 (h.2 x hm).2,za,zb rfl,zn,ze])
theorem jKv (N:Nat) (hM:Sm<N) (hN:N<=1099511627776) (x:EIndex) (h:okD Sm jJJ x):jJN N x.1.1 x.1.2 x.2 x.1.1 x.1.2 x.2=some true:=by
 unfold jJN
 rw[jLl N hM hN x.1 x.1 h.1,za,zb rfl,zn,ze,jK7 N hM hN x.2 h.2,za,zn,ze]
theorem jLf (N:Nat) (hM:Sm<N) (hN:N<=1099511627776) (a:List ELive) (k:Int) (hk:0<=k) (hK:k+(mcnt cLive a:Nat)<=1000000000000000000) (ho:okD Sm (.sl TLive) a):jKd N a k=some (k+(mcnt cLive a:Nat),markL (mLive N) cLive a k):=by
 have hM1:1048576<N:=hM
 unfold jKd
 refine markLoop_spec (mLive N) cLive N 1000000000000000000 (okD Sm TLive) (fun go a k=>?_) (fun go a n hn k hn0 hx hk hK=>?_) a k hk hK (zal ho.1 hM) hN ho.2
 .dsimp only
  rw[zd (zcd _),ze]
 .dsimp only
  unfold cLive cSeg at hK
  have hci:0<=(n:Int)/\(n:Int)<a.length:=by omega
  rw[zb (by omega:(n:Int)<a.length),zg]
  simp only[zf hci,zai,zc hn,za]
  rw[markDocS_spec N hM hN _ _ (by omega) (by omega) hx.1.1,za]
  dsimp only
  rw[markEntryS_spec N hM hN _ _ (by omega) (by omega) hx.1.2,za]
  dsimp only
  rw[markIntS_spec N hM hN _ _ (by omega) (by omega) hx.2,za,zf (by unfold fits;omega)]
  refine congrArg go (Prod.ext ?_ (Prod.ext ?_ rfl))
  .dsimp only
   simp only[mod_set,setSet,mod_at hn,zaG]
   unfold mLive mSeg cSeg
   rw[show k+((mcnt cDoc a[n].1.1+mcnt cEntry a[n].1.2:Nat):Int)=k+(mcnt cDoc a[n].1.1:Nat)+(mcnt cEntry a[n].1.2:Nat)from by omega]
  .show _=k+((mcnt cDoc a[n].1.1+mcnt cEntry a[n].1.2+mcnt cInt a[n].2:Nat):Int)
   dsimp only
   omega
def jJK (x:EIndex):Nat:=cConf x.1+mcnt cLive x.2
def jJL (N:Nat) (x:EIndex) (k:Int):EIndex:=(mConf N x.1 k,markL (mLive N) cLive x.2 (k+(cConf x.1:Nat)))
theorem jKq (N:Nat) (hM:Sm<N) (hN:N<=1099511627776) (x:EIndex) (k:Int) (hk:0<=k) (hK:k+(jJK x:Nat)<=1000000000000000000) (ho:okD Sm jJJ x):jJX N x.1.1 x.1.2 x.2 k=some (k+(jJK x:Nat),(jJL N x k).1.1,(jJL N x k).1.2,(jJL N x k).2):=by
 unfold jJK at hK
 unfold jJX
 rw[markConf_spec N hM hN x.1 k hk (by omega) ho.1,za]
 dsimp only
 rw[jLf N hM hN x.2 _ (by omega) (by omega) ho.2,za]
 refine congrArg some (Prod.ext ?_ rfl)
 show _=k+((cConf x.1+mcnt cLive x.2:Nat):Int)
 dsimp only
 omega
end Go.Proofs.YtcinmmojlcchfaaGreatDoor
