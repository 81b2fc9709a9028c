import Derived.Test.YtcinmmojlcchfaaGreatDoorSC1
import Derived.Test.YtcinmmojlcchfaaGreatDoorP1
set_option linter.unusedVariables false
set_option linter.unusedSimpArgs false
namespace Go.Proofs.YtcinmmojlcchfaaGreatDoor
open Go.RowKit
theorem jYH (xs:List EDoc) (h1:∀d,d∈xs->okDoc d=true) (h2:xs.Pairwise fun a b=>a.1<b.1) (h3:xs.length<=16):okDocs xs=true:=by
 unfold okDocs allN
 rw[zj,zw,zax]
 refine⟨fun n hn=>?_,by omega⟩
 have hn':n<xs.length:=by simpa using hn
 unfold okDc
 rw[zj,<-dAt_eq hn']
 refine⟨h1 _ (zr hn'),?_⟩
 cases n with
 |zero=>rfl
 |succ n=>
  have:=za2.1 h2 n (n+1) (by omega) hn' (by omega)
  rw[show n+1-1=n from rfl,<-dAt_eq (by omega:n<xs.length),zd (by omega:¬n+1=0),zbf,zd (by omega)]
  rfl
theorem j0y {A B:List EDoc} (h:okDocs (sortD A)=true) (hs:B.Sublist A):okDocs (sortD B)=true:=by
 have hd:=okDocs_ok h
 have hA:=sortD_perm A
 have hB:=sortD_perm B
 refine jYH _ (fun d hm=>okDoc_each h d (hA.mem_iff.2 (hs.subset (hB.mem_iff.1 hm)))) ?_ ?_
 .have h1:A.Pairwise fun a b=>a.1≠b.1:=(hA.pairwise_iff (fun {x y} h=>fun e=>h e.symm)).1 (hd.inn.ids.imp fun h e=>by omega)
  have h2:(sortD B).Pairwise fun a b=>a.1≠b.1:=(hB.pairwise_iff (fun {x y} h=>fun e=>h e.symm)).2 (h1.sublist hs)
  exact((sortD_le B).and h2).imp fun {a b} h=>by have:=h.1;have:=h.2;omega
 .have h1:=hs.length_le
  have h2:=hA.length_eq
  have h3:=hB.length_eq
  have:=hd.few
  omega
theorem j0q {a b:List ELive} (h:a.Sublist b):(allD a).Sublist (allD b):=by
 induction h with
 |slnil=>exact List.Sublist.refl _
 |cons x _ ih=>
  show(allD _).Sublist (alive x++allD _)
  exact ih.trans (List.sublist_append_right _ _)
 |cons_cons x _ ih=>
  show(alive x++allD _).Sublist (alive x++allD _)
  exact(List.Sublist.refl _).append ih
structure FitC (N:Nat) (c:EConf):Prop where
 big:1048576<N
 a:c.1.length<=1048576
 b:c.2.length<=1048576
 e:∀y,y∈c.2->y.1.length<=1048576
structure FitL (l:ELive):Prop where
 dok:DOk l.1.1
 small:Small 7680 l.1.2
 dead:l.2.length<=1000
structure FitP (N:Nat) (c:EConf) (ls:List ELive):Prop where
 big:1048576<N
 top:N<=16777216
 few:ls.length<=5
 good:∀l,l∈ls->GoodS N c l.1
 up:∀l,l∈ls->upL l.2
 dead:∀l,l∈ls->l.2.length<=200
def okC (c:UInt8):Bool:=decide (32<=c.toNat)&&decide (c.toNat<=126)
def okS (n:Nat) (s:List UInt8):Bool:=s.all okC&&decide (s.length<=n)
structure SmallDoc (fs:List EField) (ats:List EAttr) (n:Nat):Prop where
 fl:fs.length<=n
 al:ats.length<=n
 f:∀x,x∈fs->x.1.length<=1000/\x.2.length<=1000
 a:∀x,x∈ats->x.1.length<=4/\ -1<=x.2/\x.2<=1000000000
abbrev nBody :List UInt8:=[98,111,100,121]
abbrev nTitle :List UInt8:=[116,105,116,108,101]
structure FG (fs:List EField) (ns:List (List UInt8)):Prop where
 names:(fs.map (·.1)).Sublist ns
 texts:∀x,x∈fs->okS 160 x.2=true
structure DrawnDocs (docs:List EDoc) (m:Int):Prop where
 few:docs.length<=6
 ids:docs.Pairwise fun a b=>a.1<b.1
 top:∀d,d∈docs->1<=d.1/\d.1<=m
 each:∀d,d∈docs->okD Sm TDoc d/\FG d.2.1 [nBody,nTitle]/\d.2.2.length<=2
structure Drawn (c:EConf) (s:ESeg):Prop where
 conf:okD Sm TConf c
 docs:∀x,x∈s.1->okD Sm TDoc x
 few:s.1.length<=1048576
structure NumL (l:ELive):Prop where
 ok:okDocs l.1.1=true
 num:∀n,n∈l.2-> -9223372036854775808<=n/\n<=9223372036854775807
structure FitX (N:Nat) (x:EIndex):Prop where
 fit:FitI N x
 few:x.2.length<=6
 each:∀l,l∈x.2->FitL l
 nums:∀l,l∈x.2->NumL l
end Go.Proofs.YtcinmmojlcchfaaGreatDoor
