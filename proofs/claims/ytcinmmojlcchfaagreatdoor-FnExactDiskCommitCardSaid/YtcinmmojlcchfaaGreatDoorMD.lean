/- Plain laws: marks of files and disks. -/
import Derived.Test.YtcinmmojlcchfaaGreatDoorSF1
import Derived.Test.YtcinmmojlcchfaaGreatDoorFD
set_option linter.unusedVariables false
set_option linter.unusedSimpArgs false
namespace Go.Proofs.YtcinmmojlcchfaaGreatDoor
open Go.RowKit
def jZt (x:EFile):Nat:=1+1
def jZJ (N:Nat) (x:EFile) (k:Int):EFile:=(mT N k,mT N (k+1))
theorem j0e (x:EFile):jZt x<=8*(tot jZs x+1):=by
 unfold jZt
 show _<=8*((tot .str x.2+tot .str x.1)+1)
 omega
theorem j0I (xs:List EFile):mcnt jZt xs<=8*tot (.sl jZs) xs:=mcnt_le8 (t:=jZs) jZt (fun x=>j0e x) xs
theorem j0J (N:Nat) (hM:Sm<N) (hN:N<=1099511627776) (a:List (EFile)) (k:Int) (hk:0<=k) (hK:k+(mcnt jZt a:Nat)<=1000000000000000000) (ho:okD Sm (.sl jZs) a):jZC N a k=some (k+(mcnt jZt a:Nat),markL (jZJ N) jZt a k):=by
 have hM1:1048576<N:=hM
 unfold jZC
 refine markLoop_spec (jZJ N) jZt N 1000000000000000000 (okD Sm jZs) (fun go a k=>?_) (fun go a n hn k hn0 hx hk hK=>?_) a k hk hK (zal ho.1 hM) hN ho.2
 .dsimp only
  rw[zd (zcd _),ze]
 .dsimp only
  unfold jZt at hK
  rw[zb (by omega:(n:Int)<a.length),zg,markText_spec N _ (by omega) (by omega) (by omega),za,zf ⟨by omega,by first|omega|(simp only[zap,zaC];omega)⟩,zai,zc hn,za,zf (by unfold fits;omega),markText_spec N _ (by omega) (by omega) (by omega),za,zf ⟨by omega,by first|omega|(simp only[zap,zaC];omega)⟩,zc (by simp only[zap];exact hn),zaG,za,zf (by unfold fits;omega),zf (by unfold fits;omega)]
  refine congrArg go (Prod.ext ?_ (Prod.ext ?_ rfl))
  .dsimp only
   simp only[mod_set,setSet,mod_at hn,zaG]
   rfl
  .show _=k+((1+1:Nat):Int)
   dsimp only
   omega
theorem j4t (N:Nat) (hM:Sm<N) (hN:N<=1099511627776) (a:List (EFile)) (k:Int) (hk:0<=k) (hK:k+(mcnt jZt a:Nat)<=1000000000000000000) (ho:okD Sm (.sl jZs) a):j3S N (markL (jZJ N) jZt a k) k=some (k+(mcnt jZt a:Nat)):=by
 have hM1:1048576<N:=hM
 unfold j3S
 refine jnA (jZJ N) jZt N 1000000000000000000 (okD Sm jZs) (fun go a k=>?_) (fun go a n hn k x hn0 hx ho hk hK=>?_) a k hk hK (zal ho.1 hM) hN ho.2
 .dsimp only
  rw[zd (zcd _),ze]
 .dsimp only
  unfold jZt at hK
  have e0:a[n].1=mT N k:=by rw[hx];rfl
  have e1:a[n].2=mT N (k+1):=by rw[hx];rfl
  rw[zb (by omega:(n:Int)<a.length),zg,idx_at hn,za,markText_spec N _ (by omega) (by omega) (by omega),za,zb e0,zn,ze,zf (by unfold fits;omega),za,markText_spec N _ (by omega) (by omega) (by omega),za,zb e1,zn,ze,zf (by unfold fits;omega),zf (by unfold fits;omega)]
  refine congrArg go (Prod.ext rfl (Prod.ext ?_ rfl))
  show _=k+((1+1:Nat):Int)
  dsimp only
  omega
def jZy (x:jZv):Nat:=mcnt jZt x
def j0O (N:Nat) (x:jZv) (k:Int):jZv:=(markL (jZJ N) jZt x k)
theorem j0a (x:jZv):jZy x<=8*(tot jZu x+1):=by
 have h0:=j0I x
 unfold jZy
 show _<=8*(tot (.sl jZs) x+1)
 omega
theorem j0E (N:Nat) (hM:Sm<N) (hN:N<=1099511627776) (x:jZv) (k:Int) (hk:0<=k) (hK:k+(jZy x:Nat)<=1000000000000000000) (ho:okD Sm jZu x):jZF N x k=some (k+(jZy x:Nat),(j0O N x k)):=by
 have hM1:1048576<N:=hM
 unfold jZy at hK
 unfold jZF
 rw[j0J N hM hN _ _ (by omega) (by omega) ho,za]
 refine congrArg some (Prod.ext ?_ rfl)
 rfl
theorem j4p (N:Nat) (hM:Sm<N) (hN:N<=1099511627776) (x:jZv) (k:Int) (hk:0<=k) (hK:k+(jZy x:Nat)<=1000000000000000000) (ho:okD Sm jZu x):j3Q N (j0O N x k) k=some (k+(jZy x:Nat)):=by
 have hM1:1048576<N:=hM
 unfold jZy at hK
 unfold j3Q
 rw[show(j0O N x k)=markL (jZJ N) jZt x k from rfl,j4t N hM hN _ _ (by omega) (by omega) ho,za,zd (by omega),ze]
 refine congrArg some ?_
 show _=k+((mcnt jZt x:Nat):Int)
 omega
end Go.Proofs.YtcinmmojlcchfaaGreatDoor
