/- The law FnExactDiskOpen, in plain Lean. -/
import Derived.Test.YtcinmmojlcchfaaGreatDoorSG1
import Derived.Test.YtcinmmojlcchfaaGreatDoorSF1
import Derived.Test.YtcinmmojlcchfaaGreatDoorMD
set_option linter.unusedVariables false
set_option linter.unusedSimpArgs false
namespace Go.Proofs.YtcinmmojlcchfaaGreatDoor
open Go.RowKit
abbrev jJJ :Tp:=.pair TConf (.sl TLive)
def jJK (x:EIndex):Nat:=cConf x.1+mcnt cLive x.2
theorem jXc {x:EIndex} (hk:okIdx x=true):okD Sm (.sl TLive) x.2/\mcnt cLive x.2<=2500000000000:=by
 obtain⟨k1,k2,k3,k4⟩:=okIdx_ok hk
 refine⟨⟨by show x.2.length<=1048576;omega,fun l hl=>(oneL (jZP hk hl)).live⟩,?_⟩
 have:=mcnt_le (c:=cLive) 500000000000 x.2 fun l hl=>cLive_few (.of (zax.1 k3 l hl))
 have h3:=zag 500000000000 k2
 omega
theorem j0i {c:EConf} {d:List EFile} {s:List UInt8} {x:EIndex} (h:openT c d s=some x):x.1=c/\okIdx x=true:=by
 unfold openT at h
 cases hb:decide ((cutAt 10 s).getLastD []=endT)with
 |false=>rw[hb]at h;cases h
 |true=>
  rw[hb,zg]at h
  cases hl:linesL c d (cutAt 10 s).dropLast with
  |none=>rw[hl]at h;cases h
  |some ls=>
   rw[hl,za]at h
   cases hk:okIdx (c,ls)with
   |false=>rw[hk]at h;cases h
   |true=>
    rw[hk,zg,zaE]at h
    subst h
    exact⟨rfl,hk⟩
theorem openG_ok {c:EConf} {d:List EFile} {n:Int} {x:EIndex} (h:openG c d n=some x):x.1=c/\okIdx x=true:=by
 unfold openG at h
 cases hf:fileD d (genN n)with
 |none=>rw[hf]at h;cases h
 |some t=>
  rw[hf,za]at h
  exact j0i h
theorem jZM {c:EConf} {d:List EFile} (oc:okD Sm TConf c):∀n,okD Sm jJJ (lastT c d n).1/\jJK (lastT c d n).1<=cConf c+2500000000000
 |0=>⟨⟨oc,⟨zaf _,(fun l h=>by cases h)⟩⟩,Nat.le_add_right _ _⟩
 |n+1=>by
  unfold lastT
  cases hg:openG c d ((n+1:Nat):Int)with
  |none=>exact jZM oc n
  |some x=>
   obtain⟨e,hk⟩:=openG_ok hg
   obtain⟨s1,s2⟩:=jXc hk
   refine⟨⟨by show okD Sm TConf x.1;rw[e];exact oc,s1⟩,?_⟩
   show cConf x.1+mcnt cLive x.2<=_
   rw[e]
   omega
theorem openD2_ok {c:EConf} {d:List EFile} (oc:okD Sm TConf c):okD Sm jJJ (openD2 c d).1/\jJK (openD2 c d).1<=cConf c+2500000000000:=by
 unfold openD2
 cases okConf c&&okDisk d with
 |false=>exact⟨⟨⟨⟨zaf _,(fun l h=>by cases h)⟩,⟨zaf _,(fun l h=>by cases h)⟩⟩,⟨zaf _,(fun l h=>by cases h)⟩⟩,zaf _⟩
 |true=>exact jZM oc 99
end Go.Proofs.YtcinmmojlcchfaaGreatDoor
