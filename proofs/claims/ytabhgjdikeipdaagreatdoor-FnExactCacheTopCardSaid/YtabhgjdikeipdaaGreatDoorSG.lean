import Derived.Test.YtabhgjdikeipdaaGreatDoorP1
import Derived.Test.YtabhgjdikeipdaaGreatDoorSC
import Derived.Test.YtabhgjdikeipdaaGreatDoorSE
import Derived.Test.YtabhgjdikeipdaaGreatDoorSF
set_option linter.unusedVariables false
set_option linter.unusedSimpArgs false
namespace Go.Proofs.YtabhgjdikeipdaaGreatDoor
open Go.RowKit
theorem cut_spec {α:Type} (xs:List α) (n:Nat) (h:n<=xs.length):cut xs 0 (n:Int)=some (xs.take n):=by
 unfold cut
 rw[zf (by omega)]
 simp
def okC (c:UInt8):Bool:=decide (32<=c.toNat)&&decide (c.toNat<=126)
def okS (n:Nat) (s:List UInt8):Bool:=s.all okC&&decide (s.length<=n)
structure SmallDoc (fs:List EField) (ats:List EAttr) (n:Nat):Prop where
 fl:fs.length<=n
 al:ats.length<=n
 f:∀x,x∈fs->x.1.length<=1000/\x.2.length<=1000
 a:∀x,x∈ats->x.1.length<=4/\ -1<=x.2/\x.2<=1000000000
abbrev nBody :List UInt8:=[98,111,100,121]
abbrev nTitle :List UInt8:=[116,105,116,108,101]
structure FG (fs:List EField) (ns:List (List UInt8)):Prop where
 names:(fs.map (·.1)).Sublist ns
 texts:∀x,x∈fs->okS 160 x.2=true
structure DrawnDocs (docs:List EDoc) (m:Int):Prop where
 few:docs.length<=6
 ids:docs.Pairwise fun a b=>a.1<b.1
 top:∀d,d∈docs->1<=d.1/\d.1<=m
 each:∀d,d∈docs->okD Sm TDoc d/\FG d.2.1 [nBody,nTitle]/\d.2.2.length<=2
structure Drawn (c:EConf) (s:ESeg):Prop where
 conf:okD Sm TConf c
 docs:∀x,x∈s.1->okD Sm TDoc x
 few:s.1.length<=1048576
def AQ (q:DQ):Prop:=∀n,BQ n q
structure Own (q:Int) (f:List UInt8) (ws:List (List UInt8)) (kids:List DQ):Prop where
 f:f.length<=100
 n:ws.length<=100
 w:∀w,w∈ws->w.length<=100
 k:kids.length<=100
 c:∀c,c∈kids->AQ c
structure FitX (N:Nat) (x:EIndex):Prop where
 fit:FitI N x
 few:x.2.length<=6
 each:∀l,l∈x.2->FitL l
end Go.Proofs.YtabhgjdikeipdaaGreatDoor
