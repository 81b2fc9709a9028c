import Derived.Test.YtchgdmmcjgmfcaaGreatDoorSC
import Derived.Test.YtchgdmmcjgmfcaaGreatDoorSE
import Derived.Test.YtchgdmmcjgmfcaaGreatDoorQO
set_option linter.unusedVariables false
set_option linter.unusedSimpArgs false
namespace Go.Proofs.YtchgdmmcjgmfcaaGreatDoor
open Go.RowKit
def putD (l:List EDoc) (d:EDoc):List EDoc:=match l with
 | []=>[d]
 |x::r=>if x.1<d.1 then x::putD r d else d::x::r
def sortD (l:List EDoc):List EDoc:=l.foldl putD []
abbrev ELive :Type:=ESeg×List Int
abbrev EIndex :Type:=EConf×List ELive
def jR9 (l:ELive):List EDoc:=l.1.1.filter fun d=> !decide (d.1∈l.2)
def allD (ls:List ELive):List EDoc:=ls.flatMap jR9
theorem jI8 {l:List Int} {a:Int} {n:Nat} (hn:n<l.length) (h:a∉l.take n) (e:¬a=l[n]):a∉l.take (n+1):=by
 rw[zo hn,zaB,zaD]
 rintro(h'|h')
 .exact h h'
 .exact e h'
theorem jI0 (N:Nat) (l:List Int) (a:Int) (h:l.length<N) (hN:N<=1099511627776):Def (jHJ N l a) fun r=>(r=-1/\a∉l)\/ ∃j:Nat,r=(j:Int)/\j<l.length/\l[j]? =some a/\a∉l.take j:=by
 unfold jHJ
 refine Def.upto l.length (fun n g=>a∉l.take n/\g=(l,a,(l.length:Int),(n:Int))) ?_ ?_ N 0 _ (zaf _) ⟨by simp,rfl⟩ (by omega)
 .rintro go _ ⟨hm,rfl⟩
  dsimp only
  rw[zd (zm _),ze]
  rw[zq]at hm
  exact Def.ret (.inl ⟨rfl,hm⟩)
 .rintro go n _ hn ⟨hm,rfl⟩ hgo
  dsimp only
  rw[zb (by omega:(n:Int)<l.length),zg,idx_at hn,za]
  refine Def.dif (fun e=>Def.ret (.inr ⟨n,rfl,hn,by rw[zc hn,e],hm⟩)) (fun e=>?_)
  exact Def.ite (fits_nat (n:=n) (by omega)) (hgo _ ⟨jI8 hn hm e,by rw[cast_succ']⟩)
theorem containsI_spec (N:Nat) (l:List Int) (n:Int) (h:l.length<N) (hN:N<=1099511627776):jHG N l n=some (decide (n∈l)):=by
 obtain⟨r,hr,hc⟩:=jI0 N l n h hN
 unfold jHG
 rw[hr,za]
 rcases hc with⟨rfl,hn⟩|⟨j,rfl,hj,he,_⟩
 .rw [zd hn];rfl
 .have hm:n∈l:=by
   rw[zc hj]at he
   have e:=Option.some.inj he
   exact e▸zr hj
  rw[zb hm,zb (by omega)]
def okLive (c:EConf) (l:ELive):Bool:=okSeg c l.1&&(upB l.2&&(decide (l.2.length<l.1.1.length)&&l.2.all fun n=>(docOf l.1.1 n).isSome))
structure Short (d:EDoc):Prop where
 f:d.2.1.length<=3
 a:d.2.2.length<=3
structure Pieces (ls:List ELive):Prop where
 few:ls.length<=5
 docs:∀l,l∈ls->l.1.1.length<=16/\l.2.length<=60/\∀d,d∈l.1.1->Short d
structure FitI (N:Nat) (x:EIndex):Prop where
 big:Sm<N
 top:N<=16777216
 oc:okD Sm TConf x.1
 len:x.2.length<=1048576
 each:∀l,l∈x.2->(∀d,d∈l.1.1->okD Sm TDoc d)/\l.1.1.length<=1048576/\l.2.length<=1048576
def okIdx (x:EIndex):Bool:=okConf x.1&&(decide ((x.2.length:Int)<=5)&&(x.2.all (okLive x.1)&&okDocs (sortD (allD x.2))))
abbrev docsX (x:EIndex):List EDoc:=sortD (allD x.2)
structure FitC (N:Nat) (c:EConf):Prop where
 big:1048576<N
 a:c.1.length<=1048576
 b:c.2.length<=1048576
 e:∀y,y∈c.2->y.1.length<=1048576
structure FitL (l:ELive):Prop where
 dok:DOk l.1.1
 small:Small 7680 l.1.2
 dead:l.2.length<=1000
structure FitP (N:Nat) (c:EConf) (ls:List ELive):Prop where
 big:1048576<N
 top:N<=16777216
 few:ls.length<=5
 good:∀l,l∈ls->GoodS N c l.1
 up:∀l,l∈ls->upL l.2
 dead:∀l,l∈ls->l.2.length<=200
structure PcOk (l:ELive):Prop where
 ids:l.1.1.Pairwise fun a b=>a.1<b.1
 up:upL l.2
 dead:∀n,n∈l.2->∃d,d∈l.1.1/\d.1=n
structure SameX (x z:EIndex):Prop where
 okx:okIdx x=true
 okz:okIdx z=true
 conf:z.1=x.1
 docs:docsX z=docsX x
end Go.Proofs.YtchgdmmcjgmfcaaGreatDoor
