/- Plain laws: the laws' own functions over string, int, Syn, Conf, Field, Attr, Doc, Post, Entry, Seg. -/
import Derived.Test.YtcinmmojlcchfaaGreatDoorQ1
import Derived.Test.YtcinmmojlcchfaaGreatDoorG1
set_option linter.unusedVariables false
set_option linter.unusedSimpArgs false
namespace Go.Proofs.YtcinmmojlcchfaaGreatDoor
open Go.RowKit
theorem jxk (N:Nat) (hM:Sm<N) (hN:N<=1099511627776) (a b:List (List UInt8)) (h:okD Sm (.sl .str) a):j0 N a b=some (decide (a=b)):=
 jS (fun(e e2:List UInt8)=>some (decide (e=e2))) N a b (zal h.1 hM) hN fun x hx y=>rfl
theorem jgZ (N:Nat) (hM:Sm<N) (hN:N<=1099511627776) (a:List (List UInt8)) (h:okD Sm (.sl .str) a):jci N a=some a:=
 jV (fun(e:List UInt8)=>some e) ([]:List UInt8) 16 N a (zal h.1 hM) hN (by have:List.length a<=1048576:=h.1;omega) fun x hx=>rfl
theorem jfo (N:Nat) (hM:Sm<N) (a:List (List UInt8)) (left:Int) (h0:0<=left) (h1:left<=1048576) (ha:okD BigN (.sl .str) a):SzP (tot (.sl .str) a) left (jbK N a left) (okD Sm (.sl .str) a):=
 jq4 N hM a left ha.1 h0 h1 fun x hx=>ha.2 x hx
theorem jo1 (N:Nat) (hM:Sm<N) (hN:N<=1099511627776) (a b:List (Int)) (h:okD Sm (.sl (.int .i64)) a):jea N a b=some (decide (a=b)):=
 jS (fun(e e2:Int)=>some (decide (e=e2))) N a b (zal h.1 hM) hN fun x hx y=>rfl
abbrev TSyn :Tp:=.pair (.sl .str) .str
abbrev ESyn :Type:=(List (List UInt8))×(List UInt8)
instance decSyn :DecidableEq (ESyn):=inferInstance
theorem jsY (N:Nat) (hM:Sm<N) (hN:N<=1099511627776) (x y:ESyn) (h:okD Sm TSyn x):jaR N x.1 x.2 y.1 y.2=some (decide (x=y)):=by
 obtain⟨x0,x1⟩:=x
 obtain⟨y0,y1⟩:=y
 unfold jaR
 rw[jxk N hM hN x0 y0 h.1,za]
 clear h
 by_cases h0:x0=y0<;>by_cases h1:x1=y1<;>simp[h0,h1]
theorem jkh (N:Nat) (hM:Sm<N) (hN:N<=1099511627776) (x:ESyn) (h:okD Sm TSyn x):ja0 N x.1 x.2=some x:=by
 unfold ja0
 rw[jgZ N hM hN x.1 h.1,za]
theorem jqx (N:Nat) (hM:Sm<N) (x:ESyn) (left:Int) (h0:0<=left) (h1:left<=1048576) (ha:okD BigN TSyn x):SzP (tot TSyn x) left (jbp N x.1 x.2 left) (okD Sm TSyn x):=by
 unfold jbp
 exact(SzP.then2 h1 (jfo N hM x.1 _ h0 h1 ha.1) (fun _ r0 s0=>SzP.len2 (ha.2) r0 s0 (fun r1 s1=>SzP.ret r1))).imp (by simp only[tot];omega) fun q=>⟨q.1,q.2.1⟩
theorem js8 (N:Nat) (hM:Sm<N) (hN:N<=1099511627776) (a b:List (ESyn)) (h:okD Sm (.sl TSyn) a):jdJ N a b=some (decide (a=b)):=
 jS (fun(e e2:ESyn)=>jaR N e.1 e.2 e2.1 e2.2) N a b (zal h.1 hM) hN fun x hx y=>jsY N hM hN x y (h.2 x hx)
theorem jp7 (N:Nat) (hM:Sm<N) (hN:N<=1099511627776) (a:List (ESyn)) (h:okD Sm (.sl TSyn) a):jeh N a=some a:=
 jV (fun(e:ESyn)=>ja0 N e.1 e.2) (([]:List (List UInt8)),([]:List UInt8)) 40 N a (zal h.1 hM) hN (by have:List.length a<=1048576:=h.1;omega) fun x hx=>jkh N hM hN x (h.2 x hx)
theorem jmR (N:Nat) (hM:Sm<N) (a:List (ESyn)) (left:Int) (h0:0<=left) (h1:left<=1048576) (ha:okD BigN (.sl TSyn) a):SzP (tot (.sl TSyn) a) left (jc6 N a left) (okD Sm (.sl TSyn) a):=
 jaA (fun(e:ESyn) l=>jbp N e.1 e.2 l) N hM (okD Sm TSyn) (tot TSyn) a left ha.1 h0 h1 fun x hx l hl0 hl1=>jqx N hM x l hl0 hl1 (ha.2 x hx)
abbrev TConf :Tp:=.pair (.sl .str) (.sl TSyn)
abbrev EConf :Type:=(List (List UInt8))×(List (ESyn))
instance decConf :DecidableEq (EConf):=inferInstance
theorem jLl (N:Nat) (hM:Sm<N) (hN:N<=1099511627776) (x y:EConf) (h:okD Sm TConf x):jcO N x.1 x.2 y.1 y.2=some (decide (x=y)):=by
 obtain⟨x0,x1⟩:=x
 obtain⟨y0,y1⟩:=y
 unfold jcO
 rw[jxk N hM hN x0 y0 h.1,za]
 rw[js8 N hM hN x1 y1 h.2,za]
 clear h
 by_cases h0:x0=y0<;>by_cases h1:x1=y1<;>simp[h0,h1]
theorem jMX (N:Nat) (hM:Sm<N) (hN:N<=1099511627776) (x:EConf) (h:okD Sm TConf x):jad N x.1 x.2=some x:=by
 unfold jad
 rw[jgZ N hM hN x.1 h.1,za,jp7 N hM hN x.2 h.2,za]
theorem jLu (N:Nat) (hM:Sm<N) (x:EConf) (left:Int) (h0:0<=left) (h1:left<=1048576) (ha:okD BigN TConf x):SzP (tot TConf x) left (jbD N x.1 x.2 left) (okD Sm TConf x):=by
 unfold jbD
 exact(SzP.then2 h1 (jfo N hM x.1 _ h0 h1 ha.1) (fun _ r0 s0=>SzP.then2 s0 (jmR N hM x.2 _ r0 s0 ha.2) (fun _ r1 s1=>SzP.ret r1))).imp (by simp only[tot];omega) fun q=>⟨q.1,q.2.1⟩
abbrev TField :Tp:=.pair .str .str
abbrev EField :Type:=(List UInt8)×(List UInt8)
instance decField :DecidableEq (EField):=inferInstance
theorem jj9 (N:Nat) (hM:Sm<N) (hN:N<=1099511627776) (x y:EField) (h:okD Sm TField x):jbd N x.1 x.2 y.1 y.2=some (decide (x=y)):=by
 obtain⟨x0,x1⟩:=x
 obtain⟨y0,y1⟩:=y
 unfold jbd
 clear h
 by_cases h0:x0=y0<;>by_cases h1:x1=y1<;>simp[h0,h1]
theorem joE (N:Nat) (hM:Sm<N) (hN:N<=1099511627776) (a b:List (EField)) (h:okD Sm (.sl TField) a):jdj N a b=some (decide (a=b)):=
 jS (fun(e e2:EField)=>jbd N e.1 e.2 e2.1 e2.2) N a b (zal h.1 hM) hN fun x hx y=>jj9 N hM hN x y (h.2 x hx)
abbrev TAttr :Tp:=.pair .str (.int .i64)
abbrev EAttr :Type:=(List UInt8)×Int
instance decAttr :DecidableEq (EAttr):=inferInstance
theorem jlP (N:Nat) (hM:Sm<N) (hN:N<=1099511627776) (x y:EAttr) (h:okD Sm TAttr x):jbo N x.1 x.2 y.1 y.2=some (decide (x=y)):=by
 obtain⟨x0,x1⟩:=x
 obtain⟨y0,y1⟩:=y
 unfold jbo
 clear h
 by_cases h0:x0=y0<;>by_cases h1:x1=y1<;>simp[h0,h1]
theorem jpS (N:Nat) (hM:Sm<N) (hN:N<=1099511627776) (a b:List (EAttr)) (h:okD Sm (.sl TAttr) a):jdN N a b=some (decide (a=b)):=
 jS (fun(e e2:EAttr)=>jbo N e.1 e.2 e2.1 e2.2) N a b (zal h.1 hM) hN fun x hx y=>jlP N hM hN x y (h.2 x hx)
abbrev TDoc :Tp:=.pair (.int .i64) (.pair (.sl TField) (.sl TAttr))
abbrev EDoc :Type:=Int×(List (EField))×(List (EAttr))
instance decDoc_1 :DecidableEq ((List (EField))×(List (EAttr))):=inferInstance
instance decDoc :DecidableEq (EDoc):=inferInstance
theorem jrE (N:Nat) (hM:Sm<N) (hN:N<=1099511627776) (x y:EDoc) (h:okD Sm TDoc x):jbi N x.1 x.2.1 x.2.2 y.1 y.2.1 y.2.2=some (decide (x=y)):=by
 obtain⟨x0,x1,x2⟩:=x
 obtain⟨y0,y1,y2⟩:=y
 unfold jbi
 rw[joE N hM hN x1 y1 h.2.1,za]
 rw[jpS N hM hN x2 y2 h.2.2,za]
 clear h
 by_cases h0:x0=y0<;>by_cases h1:x1=y1<;>by_cases h2:x2=y2<;>simp[h0,h1,h2]
theorem jmq (N:Nat) (hM:Sm<N) (hN:N<=1099511627776) (a b:List (EDoc)) (h:okD Sm (.sl TDoc) a):jdZ N a b=some (decide (a=b)):=
 jS (fun(e e2:EDoc)=>jbi N e.1 e.2.1 e.2.2 e2.1 e2.2.1 e2.2.2) N a b (zal h.1 hM) hN fun x hx y=>jrE N hM hN x y (h.2 x hx)
abbrev TPost :Tp:=.pair (.int .i64) (.sl (.int .i64))
abbrev EPost :Type:=Int×(List (Int))
instance decPost :DecidableEq (EPost):=inferInstance
theorem jl1 (N:Nat) (hM:Sm<N) (hN:N<=1099511627776) (x y:EPost) (h:okD Sm TPost x):jbl N x.1 x.2 y.1 y.2=some (decide (x=y)):=by
 obtain⟨x0,x1⟩:=x
 obtain⟨y0,y1⟩:=y
 unfold jbl
 rw[jo1 N hM hN x1 y1 h.2,za]
 clear h
 by_cases h0:x0=y0<;>by_cases h1:x1=y1<;>simp[h0,h1]
theorem jkQ (N:Nat) (hM:Sm<N) (hN:N<=1099511627776) (a b:List (EPost)) (h:okD Sm (.sl TPost) a):jdt N a b=some (decide (a=b)):=
 jS (fun(e e2:EPost)=>jbl N e.1 e.2 e2.1 e2.2) N a b (zal h.1 hM) hN fun x hx y=>jl1 N hM hN x y (h.2 x hx)
abbrev TEntry :Tp:=.pair .str (.pair .str (.sl TPost))
abbrev EEntry :Type:=(List UInt8)×(List UInt8)×(List (EPost))
instance decEntry_1 :DecidableEq ((List UInt8)×(List (EPost))):=inferInstance
instance decEntry :DecidableEq (EEntry):=inferInstance
theorem jql (N:Nat) (hM:Sm<N) (hN:N<=1099511627776) (x y:EEntry) (h:okD Sm TEntry x):jaU N x.1 x.2.1 x.2.2 y.1 y.2.1 y.2.2=some (decide (x=y)):=by
 obtain⟨x0,x1,x2⟩:=x
 obtain⟨y0,y1,y2⟩:=y
 unfold jaU
 rw[jkQ N hM hN x2 y2 h.2.2,za]
 clear h
 by_cases h0:x0=y0<;>by_cases h1:x1=y1<;>by_cases h2:x2=y2<;>simp[h0,h1,h2]
theorem joU (N:Nat) (hM:Sm<N) (hN:N<=1099511627776) (a b:List (EEntry)) (h:okD Sm (.sl TEntry) a):jdU N a b=some (decide (a=b)):=
 jS (fun(e e2:EEntry)=>jaU N e.1 e.2.1 e.2.2 e2.1 e2.2.1 e2.2.2) N a b (zal h.1 hM) hN fun x hx y=>jql N hM hN x y (h.2 x hx)
abbrev TSeg :Tp:=.pair (.sl TDoc) (.sl TEntry)
abbrev ESeg :Type:=(List (EDoc))×(List (EEntry))
instance decSeg :DecidableEq (ESeg):=inferInstance
theorem jMg (N:Nat) (hM:Sm<N) (hN:N<=1099511627776) (x y:ESeg) (h:okD Sm TSeg x):jbJ N x.1 x.2 y.1 y.2=some (decide (x=y)):=by
 obtain⟨x0,x1⟩:=x
 obtain⟨y0,y1⟩:=y
 unfold jbJ
 rw[jmq N hM hN x0 y0 h.1,za]
 rw[joU N hM hN x1 y1 h.2,za]
 clear h
 by_cases h0:x0=y0<;>by_cases h1:x1=y1<;>simp[h0,h1]
end Go.Proofs.YtcinmmojlcchfaaGreatDoor
