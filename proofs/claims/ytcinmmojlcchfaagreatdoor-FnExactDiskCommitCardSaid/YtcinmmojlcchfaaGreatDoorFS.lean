/- Plain laws: the laws' own functions over string, int, Syn, Conf, Field, Attr, Doc, Post, Entry, Seg. -/
import Derived.Test.YtcinmmojlcchfaaGreatDoorQ1
import Derived.Test.YtcinmmojlcchfaaGreatDoorG1
set_option linter.unusedVariables false
set_option linter.unusedSimpArgs false
namespace Go.Proofs.YtcinmmojlcchfaaGreatDoor
open Go.RowKit
theorem jxk (N:Nat) (hM:Sm<N) (hN:N<=1099511627776) (a b:List (List UInt8)) (h:okD Sm (.sl .str) a):j0 N a b=some (decide (a=b)):=
 jS (fun(e e2:List UInt8)=>some (decide (e=e2))) N a b (zal h.1 hM) hN fun x hx y=>rfl
theorem jgZ (N:Nat) (hM:Sm<N) (hN:N<=1099511627776) (a:List (List UInt8)) (h:okD Sm (.sl .str) a):jci N a=some a:=
 jV (fun(e:List UInt8)=>some e) ([]:List UInt8) 16 N a (zal h.1 hM) hN (by have:List.length a<=1048576:=h.1;omega) fun x hx=>rfl
theorem jfo (N:Nat) (hM:Sm<N) (a:List (List UInt8)) (left:Int) (h0:0<=left) (h1:left<=1048576) (ha:okD BigN (.sl .str) a):SzP (tot (.sl .str) a) left (jbK N a left) (okD Sm (.sl .str) a):=
 jq4 N hM a left ha.1 h0 h1 fun x hx=>ha.2 x hx
theorem jo1 (N:Nat) (hM:Sm<N) (hN:N<=1099511627776) (a b:List (Int)) (h:okD Sm (.sl (.int .i64)) a):jea N a b=some (decide (a=b)):=
 jS (fun(e e2:Int)=>some (decide (e=e2))) N a b (zal h.1 hM) hN fun x hx y=>rfl
theorem joY (N:Nat) (hM:Sm<N) (hN:N<=1099511627776) (a:List (Int)) (h:okD Sm (.sl (.int .i64)) a):jek N a=some a:=
 jV (fun(e:Int)=>some e) 0 8 N a (zal h.1 hM) hN (by have:List.length a<=1048576:=h.1;omega) fun x hx=>rfl
theorem jpk (N:Nat) (hM:Sm<N) (a:List (Int)) (left:Int) (h0:0<=left) (h1:left<=1048576) (ha:okD BigN (.sl (.int .i64)) a):SzP (tot (.sl (.int .i64)) a) left (jeb N a left) (okD Sm (.sl (.int .i64)) a):=
 (SzP.len ha.1 h0 h1 (fun a b=>SzP.ret a) fun h _=>⟨h,ha.2⟩).imp (by rw[show tot (.sl (.int .i64)) a=mcnt (tot (.int .i64)) a+List.length a from rfl,jjI (tot (.int .i64)) (fun _=>rfl)];exact zae _) id
abbrev TSyn :Tp:=.pair (.sl .str) .str
abbrev ESyn :Type:=(List (List UInt8))×(List UInt8)
instance decSyn :DecidableEq (ESyn):=inferInstance
theorem jsY (N:Nat) (hM:Sm<N) (hN:N<=1099511627776) (x y:ESyn) (h:okD Sm TSyn x):jaR N x.1 x.2 y.1 y.2=some (decide (x=y)):=by
 obtain⟨x0,x1⟩:=x
 obtain⟨y0,y1⟩:=y
 unfold jaR
 rw[jxk N hM hN x0 y0 h.1,za]
 clear h
 by_cases h0:x0=y0<;>by_cases h1:x1=y1<;>simp[h0,h1]
theorem jkh (N:Nat) (hM:Sm<N) (hN:N<=1099511627776) (x:ESyn) (h:okD Sm TSyn x):ja0 N x.1 x.2=some x:=by
 unfold ja0
 rw[jgZ N hM hN x.1 h.1,za]
theorem jqx (N:Nat) (hM:Sm<N) (x:ESyn) (left:Int) (h0:0<=left) (h1:left<=1048576) (ha:okD BigN TSyn x):SzP (tot TSyn x) left (jbp N x.1 x.2 left) (okD Sm TSyn x):=by
 unfold jbp
 exact(SzP.then2 h1 (jfo N hM x.1 _ h0 h1 ha.1) (fun _ r0 s0=>SzP.len2 (ha.2) r0 s0 (fun r1 s1=>SzP.ret r1))).imp (by simp only[tot];omega) fun q=>⟨q.1,q.2.1⟩
theorem js8 (N:Nat) (hM:Sm<N) (hN:N<=1099511627776) (a b:List (ESyn)) (h:okD Sm (.sl TSyn) a):jdJ N a b=some (decide (a=b)):=
 jS (fun(e e2:ESyn)=>jaR N e.1 e.2 e2.1 e2.2) N a b (zal h.1 hM) hN fun x hx y=>jsY N hM hN x y (h.2 x hx)
theorem jp7 (N:Nat) (hM:Sm<N) (hN:N<=1099511627776) (a:List (ESyn)) (h:okD Sm (.sl TSyn) a):jeh N a=some a:=
 jV (fun(e:ESyn)=>ja0 N e.1 e.2) (([]:List (List UInt8)),([]:List UInt8)) 40 N a (zal h.1 hM) hN (by have:List.length a<=1048576:=h.1;omega) fun x hx=>jkh N hM hN x (h.2 x hx)
theorem jmR (N:Nat) (hM:Sm<N) (a:List (ESyn)) (left:Int) (h0:0<=left) (h1:left<=1048576) (ha:okD BigN (.sl TSyn) a):SzP (tot (.sl TSyn) a) left (jc6 N a left) (okD Sm (.sl TSyn) a):=
 jaA (fun(e:ESyn) l=>jbp N e.1 e.2 l) N hM (okD Sm TSyn) (tot TSyn) a left ha.1 h0 h1 fun x hx l hl0 hl1=>jqx N hM x l hl0 hl1 (ha.2 x hx)
abbrev TConf :Tp:=.pair (.sl .str) (.sl TSyn)
abbrev EConf :Type:=(List (List UInt8))×(List (ESyn))
instance decConf :DecidableEq (EConf):=inferInstance
theorem jLl (N:Nat) (hM:Sm<N) (hN:N<=1099511627776) (x y:EConf) (h:okD Sm TConf x):jcO N x.1 x.2 y.1 y.2=some (decide (x=y)):=by
 obtain⟨x0,x1⟩:=x
 obtain⟨y0,y1⟩:=y
 unfold jcO
 rw[jxk N hM hN x0 y0 h.1,za]
 rw[js8 N hM hN x1 y1 h.2,za]
 clear h
 by_cases h0:x0=y0<;>by_cases h1:x1=y1<;>simp[h0,h1]
theorem jMX (N:Nat) (hM:Sm<N) (hN:N<=1099511627776) (x:EConf) (h:okD Sm TConf x):jad N x.1 x.2=some x:=by
 unfold jad
 rw[jgZ N hM hN x.1 h.1,za,jp7 N hM hN x.2 h.2,za]
theorem jLu (N:Nat) (hM:Sm<N) (x:EConf) (left:Int) (h0:0<=left) (h1:left<=1048576) (ha:okD BigN TConf x):SzP (tot TConf x) left (jbD N x.1 x.2 left) (okD Sm TConf x):=by
 unfold jbD
 exact(SzP.then2 h1 (jfo N hM x.1 _ h0 h1 ha.1) (fun _ r0 s0=>SzP.then2 s0 (jmR N hM x.2 _ r0 s0 ha.2) (fun _ r1 s1=>SzP.ret r1))).imp (by simp only[tot];omega) fun q=>⟨q.1,q.2.1⟩
abbrev TField :Tp:=.pair .str .str
abbrev EField :Type:=(List UInt8)×(List UInt8)
instance decField :DecidableEq (EField):=inferInstance
theorem jj9 (N:Nat) (hM:Sm<N) (hN:N<=1099511627776) (x y:EField) (h:okD Sm TField x):jbd N x.1 x.2 y.1 y.2=some (decide (x=y)):=by
 obtain⟨x0,x1⟩:=x
 obtain⟨y0,y1⟩:=y
 unfold jbd
 clear h
 by_cases h0:x0=y0<;>by_cases h1:x1=y1<;>simp[h0,h1]
theorem jpb (N:Nat) (hM:Sm<N) (hN:N<=1099511627776) (x:EField) (h:okD Sm TField x):jaW N x.1 x.2=some x:=by
 unfold jaW
 rfl
theorem jre (N:Nat) (hM:Sm<N) (x:EField) (left:Int) (h0:0<=left) (h1:left<=1048576) (ha:okD BigN TField x):SzP (tot TField x) left (jaN N x.1 x.2 left) (okD Sm TField x):=by
 unfold jaN
 exact(SzP.len2 (ha.1) h0 h1 (fun r0 s0=>SzP.len2 (ha.2) r0 s0 (fun r1 s1=>SzP.ret r1))).imp (by simp only[tot];omega) fun q=>⟨q.1,q.2.1⟩
theorem joE (N:Nat) (hM:Sm<N) (hN:N<=1099511627776) (a b:List (EField)) (h:okD Sm (.sl TField) a):jdj N a b=some (decide (a=b)):=
 jS (fun(e e2:EField)=>jbd N e.1 e.2 e2.1 e2.2) N a b (zal h.1 hM) hN fun x hx y=>jj9 N hM hN x y (h.2 x hx)
theorem jrn (N:Nat) (hM:Sm<N) (hN:N<=1099511627776) (a:List (EField)) (h:okD Sm (.sl TField) a):jdS N a=some a:=
 jV (fun(e:EField)=>jaW N e.1 e.2) (([]:List UInt8),([]:List UInt8)) 32 N a (zal h.1 hM) hN (by have:List.length a<=1048576:=h.1;omega) fun x hx=>jpb N hM hN x (h.2 x hx)
theorem jqn (N:Nat) (hM:Sm<N) (a:List (EField)) (left:Int) (h0:0<=left) (h1:left<=1048576) (ha:okD BigN (.sl TField) a):SzP (tot (.sl TField) a) left (jdb N a left) (okD Sm (.sl TField) a):=
 jaA (fun(e:EField) l=>jaN N e.1 e.2 l) N hM (okD Sm TField) (tot TField) a left ha.1 h0 h1 fun x hx l hl0 hl1=>jre N hM x l hl0 hl1 (ha.2 x hx)
abbrev TAttr :Tp:=.pair .str (.int .i64)
abbrev EAttr :Type:=(List UInt8)×Int
instance decAttr :DecidableEq (EAttr):=inferInstance
theorem jlP (N:Nat) (hM:Sm<N) (hN:N<=1099511627776) (x y:EAttr) (h:okD Sm TAttr x):jbo N x.1 x.2 y.1 y.2=some (decide (x=y)):=by
 obtain⟨x0,x1⟩:=x
 obtain⟨y0,y1⟩:=y
 unfold jbo
 clear h
 by_cases h0:x0=y0<;>by_cases h1:x1=y1<;>simp[h0,h1]
theorem jnh (N:Nat) (hM:Sm<N) (hN:N<=1099511627776) (x:EAttr) (h:okD Sm TAttr x):jaX N x.1 x.2=some x:=by
 unfold jaX
 rfl
theorem jq6 (N:Nat) (hM:Sm<N) (x:EAttr) (left:Int) (h0:0<=left) (h1:left<=1048576) (ha:okD BigN TAttr x):SzP (tot TAttr x) left (jaT N x.1 x.2 left) (okD Sm TAttr x):=by
 unfold jaT
 exact(SzP.len2 (ha.1) h0 h1 (fun r0 s0=>SzP.ret r0)).imp (by simp only[tot];omega) fun q=>⟨q.1,ha.2⟩
theorem jpS (N:Nat) (hM:Sm<N) (hN:N<=1099511627776) (a b:List (EAttr)) (h:okD Sm (.sl TAttr) a):jdN N a b=some (decide (a=b)):=
 jS (fun(e e2:EAttr)=>jbo N e.1 e.2 e2.1 e2.2) N a b (zal h.1 hM) hN fun x hx y=>jlP N hM hN x y (h.2 x hx)
theorem jqr (N:Nat) (hM:Sm<N) (hN:N<=1099511627776) (a:List (EAttr)) (h:okD Sm (.sl TAttr) a):jd3 N a=some a:=
 jV (fun(e:EAttr)=>jaX N e.1 e.2) (([]:List UInt8),0) 24 N a (zal h.1 hM) hN (by have:List.length a<=1048576:=h.1;omega) fun x hx=>jnh N hM hN x (h.2 x hx)
theorem jr3 (N:Nat) (hM:Sm<N) (a:List (EAttr)) (left:Int) (h0:0<=left) (h1:left<=1048576) (ha:okD BigN (.sl TAttr) a):SzP (tot (.sl TAttr) a) left (jdV N a left) (okD Sm (.sl TAttr) a):=
 jaA (fun(e:EAttr) l=>jaT N e.1 e.2 l) N hM (okD Sm TAttr) (tot TAttr) a left ha.1 h0 h1 fun x hx l hl0 hl1=>jq6 N hM x l hl0 hl1 (ha.2 x hx)
abbrev TDoc :Tp:=.pair (.int .i64) (.pair (.sl TField) (.sl TAttr))
abbrev EDoc :Type:=Int×(List (EField))×(List (EAttr))
instance decDoc_1 :DecidableEq ((List (EField))×(List (EAttr))):=inferInstance
instance decDoc :DecidableEq (EDoc):=inferInstance
theorem jrE (N:Nat) (hM:Sm<N) (hN:N<=1099511627776) (x y:EDoc) (h:okD Sm TDoc x):jbi N x.1 x.2.1 x.2.2 y.1 y.2.1 y.2.2=some (decide (x=y)):=by
 obtain⟨x0,x1,x2⟩:=x
 obtain⟨y0,y1,y2⟩:=y
 unfold jbi
 rw[joE N hM hN x1 y1 h.2.1,za]
 rw[jpS N hM hN x2 y2 h.2.2,za]
 clear h
 by_cases h0:x0=y0<;>by_cases h1:x1=y1<;>by_cases h2:x2=y2<;>simp[h0,h1,h2]
theorem joZ (N:Nat) (hM:Sm<N) (hN:N<=1099511627776) (x:EDoc) (h:okD Sm TDoc x):jbv N x.1 x.2.1 x.2.2=some x:=by
 unfold jbv
 rw[jrn N hM hN x.2.1 h.2.1,za,jqr N hM hN x.2.2 h.2.2,za]
theorem jq8 (N:Nat) (hM:Sm<N) (x:EDoc) (left:Int) (h0:0<=left) (h1:left<=1048576) (ha:okD BigN TDoc x):SzP (tot TDoc x) left (jbq N x.1 x.2.1 x.2.2 left) (okD Sm TDoc x):=by
 unfold jbq
 exact(SzP.then2 h1 (jqn N hM x.2.1 _ h0 h1 ha.2.1) (fun _ r0 s0=>SzP.then2 s0 (jr3 N hM x.2.2 _ r0 s0 ha.2.2) (fun _ r1 s1=>SzP.ret r1))).imp (by simp only[tot];omega) fun q=>⟨ha.1,q.1,q.2.1⟩
theorem jmq (N:Nat) (hM:Sm<N) (hN:N<=1099511627776) (a b:List (EDoc)) (h:okD Sm (.sl TDoc) a):jdZ N a b=some (decide (a=b)):=
 jS (fun(e e2:EDoc)=>jbi N e.1 e.2.1 e.2.2 e2.1 e2.2.1 e2.2.2) N a b (zal h.1 hM) hN fun x hx y=>jrE N hM hN x y (h.2 x hx)
theorem jqm (N:Nat) (hM:Sm<N) (hN:N<=1099511627776) (a:List (EDoc)) (h:okD Sm (.sl TDoc) a):jdO N a=some a:=
 jV (fun(e:EDoc)=>jbv N e.1 e.2.1 e.2.2) (0,([]:List ((List UInt8)×(List UInt8))),([]:List ((List UInt8)×(Int)))) 56 N a (zal h.1 hM) hN (by have:List.length a<=1048576:=h.1;omega) fun x hx=>joZ N hM hN x (h.2 x hx)
theorem joJ (N:Nat) (hM:Sm<N) (a:List (EDoc)) (left:Int) (h0:0<=left) (h1:left<=1048576) (ha:okD BigN (.sl TDoc) a):SzP (tot (.sl TDoc) a) left (jdo N a left) (okD Sm (.sl TDoc) a):=
 jaA (fun(e:EDoc) l=>jbq N e.1 e.2.1 e.2.2 l) N hM (okD Sm TDoc) (tot TDoc) a left ha.1 h0 h1 fun x hx l hl0 hl1=>jq8 N hM x l hl0 hl1 (ha.2 x hx)
abbrev TPost :Tp:=.pair (.int .i64) (.sl (.int .i64))
abbrev EPost :Type:=Int×(List (Int))
instance decPost :DecidableEq (EPost):=inferInstance
theorem jl1 (N:Nat) (hM:Sm<N) (hN:N<=1099511627776) (x y:EPost) (h:okD Sm TPost x):jbl N x.1 x.2 y.1 y.2=some (decide (x=y)):=by
 obtain⟨x0,x1⟩:=x
 obtain⟨y0,y1⟩:=y
 unfold jbl
 rw[jo1 N hM hN x1 y1 h.2,za]
 clear h
 by_cases h0:x0=y0<;>by_cases h1:x1=y1<;>simp[h0,h1]
theorem jpa (N:Nat) (hM:Sm<N) (hN:N<=1099511627776) (x:EPost) (h:okD Sm TPost x):jbr N x.1 x.2=some x:=by
 unfold jbr
 rw[joY N hM hN x.2 h.2,za]
theorem joM (N:Nat) (hM:Sm<N) (x:EPost) (left:Int) (h0:0<=left) (h1:left<=1048576) (ha:okD BigN TPost x):SzP (tot TPost x) left (jbb N x.1 x.2 left) (okD Sm TPost x):=by
 unfold jbb
 exact(SzP.then2 h1 (jpk N hM x.2 _ h0 h1 ha.2) (fun _ r0 s0=>SzP.ret r0)).imp (by simp only[tot];omega) fun q=>⟨ha.1,q.1⟩
theorem jkQ (N:Nat) (hM:Sm<N) (hN:N<=1099511627776) (a b:List (EPost)) (h:okD Sm (.sl TPost) a):jdt N a b=some (decide (a=b)):=
 jS (fun(e e2:EPost)=>jbl N e.1 e.2 e2.1 e2.2) N a b (zal h.1 hM) hN fun x hx y=>jl1 N hM hN x y (h.2 x hx)
theorem jrP (N:Nat) (hM:Sm<N) (hN:N<=1099511627776) (a:List (EPost)) (h:okD Sm (.sl TPost) a):jdx N a=some a:=
 jV (fun(e:EPost)=>jbr N e.1 e.2) (0,([]:List (Int))) 32 N a (zal h.1 hM) hN (by have:List.length a<=1048576:=h.1;omega) fun x hx=>jpa N hM hN x (h.2 x hx)
theorem jnH (N:Nat) (hM:Sm<N) (a:List (EPost)) (left:Int) (h0:0<=left) (h1:left<=1048576) (ha:okD BigN (.sl TPost) a):SzP (tot (.sl TPost) a) left (jdz N a left) (okD Sm (.sl TPost) a):=
 jaA (fun(e:EPost) l=>jbb N e.1 e.2 l) N hM (okD Sm TPost) (tot TPost) a left ha.1 h0 h1 fun x hx l hl0 hl1=>joM N hM x l hl0 hl1 (ha.2 x hx)
abbrev TEntry :Tp:=.pair .str (.pair .str (.sl TPost))
abbrev EEntry :Type:=(List UInt8)×(List UInt8)×(List (EPost))
instance decEntry_1 :DecidableEq ((List UInt8)×(List (EPost))):=inferInstance
instance decEntry :DecidableEq (EEntry):=inferInstance
theorem jql (N:Nat) (hM:Sm<N) (hN:N<=1099511627776) (x y:EEntry) (h:okD Sm TEntry x):jaU N x.1 x.2.1 x.2.2 y.1 y.2.1 y.2.2=some (decide (x=y)):=by
 obtain⟨x0,x1,x2⟩:=x
 obtain⟨y0,y1,y2⟩:=y
 unfold jaU
 rw[jkQ N hM hN x2 y2 h.2.2,za]
 clear h
 by_cases h0:x0=y0<;>by_cases h1:x1=y1<;>by_cases h2:x2=y2<;>simp[h0,h1,h2]
theorem jrM (N:Nat) (hM:Sm<N) (hN:N<=1099511627776) (x:EEntry) (h:okD Sm TEntry x):jaM N x.1 x.2.1 x.2.2=some x:=by
 unfold jaM
 rw[jrP N hM hN x.2.2 h.2.2,za]
theorem jlf (N:Nat) (hM:Sm<N) (x:EEntry) (left:Int) (h0:0<=left) (h1:left<=1048576) (ha:okD BigN TEntry x):SzP (tot TEntry x) left (jbj N x.1 x.2.1 x.2.2 left) (okD Sm TEntry x):=by
 unfold jbj
 exact(SzP.len2 (ha.1) h0 h1 (fun r0 s0=>SzP.len2 (ha.2.1) r0 s0 (fun r1 s1=>SzP.then2 s1 (jnH N hM x.2.2 _ r1 s1 ha.2.2) (fun _ r2 s2=>SzP.ret r2)))).imp (by simp only[tot];omega) fun q=>⟨q.1,q.2.1,q.2.2.1⟩
theorem joU (N:Nat) (hM:Sm<N) (hN:N<=1099511627776) (a b:List (EEntry)) (h:okD Sm (.sl TEntry) a):jdU N a b=some (decide (a=b)):=
 jS (fun(e e2:EEntry)=>jaU N e.1 e.2.1 e.2.2 e2.1 e2.2.1 e2.2.2) N a b (zal h.1 hM) hN fun x hx y=>jql N hM hN x y (h.2 x hx)
theorem jtp (N:Nat) (hM:Sm<N) (hN:N<=1099511627776) (a:List (EEntry)) (h:okD Sm (.sl TEntry) a):jd4 N a=some a:=
 jV (fun(e:EEntry)=>jaM N e.1 e.2.1 e.2.2) (([]:List UInt8),([]:List UInt8),([]:List ((Int)×(List (Int))))) 56 N a (zal h.1 hM) hN (by have:List.length a<=1048576:=h.1;omega) fun x hx=>jrM N hM hN x (h.2 x hx)
theorem jrF (N:Nat) (hM:Sm<N) (a:List (EEntry)) (left:Int) (h0:0<=left) (h1:left<=1048576) (ha:okD BigN (.sl TEntry) a):SzP (tot (.sl TEntry) a) left (jej N a left) (okD Sm (.sl TEntry) a):=
 jaA (fun(e:EEntry) l=>jbj N e.1 e.2.1 e.2.2 l) N hM (okD Sm TEntry) (tot TEntry) a left ha.1 h0 h1 fun x hx l hl0 hl1=>jlf N hM x l hl0 hl1 (ha.2 x hx)
abbrev TSeg :Tp:=.pair (.sl TDoc) (.sl TEntry)
abbrev ESeg :Type:=(List (EDoc))×(List (EEntry))
instance decSeg :DecidableEq (ESeg):=inferInstance
theorem jMg (N:Nat) (hM:Sm<N) (hN:N<=1099511627776) (x y:ESeg) (h:okD Sm TSeg x):jbJ N x.1 x.2 y.1 y.2=some (decide (x=y)):=by
 obtain⟨x0,x1⟩:=x
 obtain⟨y0,y1⟩:=y
 unfold jbJ
 rw[jmq N hM hN x0 y0 h.1,za]
 rw[joU N hM hN x1 y1 h.2,za]
 clear h
 by_cases h0:x0=y0<;>by_cases h1:x1=y1<;>simp[h0,h1]
theorem jMY (N:Nat) (hM:Sm<N) (hN:N<=1099511627776) (x:ESeg) (h:okD Sm TSeg x):jZ N x.1 x.2=some x:=by
 unfold jZ
 rw[jqm N hM hN x.1 h.1,za,jtp N hM hN x.2 h.2,za]
theorem jLK (N:Nat) (hM:Sm<N) (x:ESeg) (left:Int) (h0:0<=left) (h1:left<=1048576) (ha:okD BigN TSeg x):SzP (tot TSeg x) left (jbR N x.1 x.2 left) (okD Sm TSeg x):=by
 unfold jbR
 exact(SzP.then2 h1 (joJ N hM x.1 _ h0 h1 ha.1) (fun _ r0 s0=>SzP.then2 s0 (jrF N hM x.2 _ r0 s0 ha.2) (fun _ r1 s1=>SzP.ret r1))).imp (by simp only[tot];omega) fun q=>⟨q.1,q.2.1⟩
end Go.Proofs.YtcinmmojlcchfaaGreatDoor
