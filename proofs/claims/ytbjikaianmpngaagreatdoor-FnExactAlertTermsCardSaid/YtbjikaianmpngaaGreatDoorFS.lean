/- Plain laws: the laws' own functions over string, int, Syn, Conf. -/
import Derived.Test.YtbjikaianmpngaaGreatDoorQ1
import Derived.Test.YtbjikaianmpngaaGreatDoorG1
set_option linter.unusedVariables false
set_option linter.unusedSimpArgs false
namespace Go.Proofs.YtbjikaianmpngaaGreatDoor
open Go.RowKit
theorem jxk (N:Nat) (hM:Sm<N) (hN:N<=1099511627776) (a b:List (List UInt8)) (h:okD Sm (.sl .str) a):j0 N a b=some (decide (a=b)):=
 jS (fun(e e2:List UInt8)=>some (decide (e=e2))) N a b (zal h.1 hM) hN fun x hx y=>rfl
theorem jgZ (N:Nat) (hM:Sm<N) (hN:N<=1099511627776) (a:List (List UInt8)) (h:okD Sm (.sl .str) a):jci N a=some a:=
 jV (fun(e:List UInt8)=>some e) ([]:List UInt8) 16 N a (zal h.1 hM) hN (by have:List.length a<=1048576:=h.1;omega) fun x hx=>rfl
theorem jfo (N:Nat) (hM:Sm<N) (a:List (List UInt8)) (left:Int) (h0:0<=left) (h1:left<=1048576) (ha:okD BigN (.sl .str) a):SzP (tot (.sl .str) a) left (jbK N a left) (okD Sm (.sl .str) a):=
 jq4 N hM a left ha.1 h0 h1 fun x hx=>ha.2 x hx
abbrev TSyn :Tp:=.pair (.sl .str) .str
abbrev ESyn :Type:=(List (List UInt8))×(List UInt8)
instance decSyn :DecidableEq (ESyn):=inferInstance
theorem jsY (N:Nat) (hM:Sm<N) (hN:N<=1099511627776) (x y:ESyn) (h:okD Sm TSyn x):jaR N x.1 x.2 y.1 y.2=some (decide (x=y)):=by
 obtain⟨x0,x1⟩:=x
 obtain⟨y0,y1⟩:=y
 unfold jaR
 rw[jxk N hM hN x0 y0 h.1,za]
 clear h
 by_cases h0:x0=y0<;>by_cases h1:x1=y1<;>simp[h0,h1]
theorem jkh (N:Nat) (hM:Sm<N) (hN:N<=1099511627776) (x:ESyn) (h:okD Sm TSyn x):ja0 N x.1 x.2=some x:=by
 unfold ja0
 rw[jgZ N hM hN x.1 h.1,za]
theorem jqx (N:Nat) (hM:Sm<N) (x:ESyn) (left:Int) (h0:0<=left) (h1:left<=1048576) (ha:okD BigN TSyn x):SzP (tot TSyn x) left (jbp N x.1 x.2 left) (okD Sm TSyn x):=by
 unfold jbp
 exact(SzP.then2 h1 (jfo N hM x.1 _ h0 h1 ha.1) (fun _ r0 s0=>SzP.len2 (ha.2) r0 s0 (fun r1 s1=>SzP.ret r1))).imp (by simp only[tot];omega) fun q=>⟨q.1,q.2.1⟩
theorem js8 (N:Nat) (hM:Sm<N) (hN:N<=1099511627776) (a b:List (ESyn)) (h:okD Sm (.sl TSyn) a):jdJ N a b=some (decide (a=b)):=
 jS (fun(e e2:ESyn)=>jaR N e.1 e.2 e2.1 e2.2) N a b (zal h.1 hM) hN fun x hx y=>jsY N hM hN x y (h.2 x hx)
theorem jp7 (N:Nat) (hM:Sm<N) (hN:N<=1099511627776) (a:List (ESyn)) (h:okD Sm (.sl TSyn) a):jeh N a=some a:=
 jV (fun(e:ESyn)=>ja0 N e.1 e.2) (([]:List (List UInt8)),([]:List UInt8)) 40 N a (zal h.1 hM) hN (by have:List.length a<=1048576:=h.1;omega) fun x hx=>jkh N hM hN x (h.2 x hx)
theorem jmR (N:Nat) (hM:Sm<N) (a:List (ESyn)) (left:Int) (h0:0<=left) (h1:left<=1048576) (ha:okD BigN (.sl TSyn) a):SzP (tot (.sl TSyn) a) left (jc6 N a left) (okD Sm (.sl TSyn) a):=
 jaA (fun(e:ESyn) l=>jbp N e.1 e.2 l) N hM (okD Sm TSyn) (tot TSyn) a left ha.1 h0 h1 fun x hx l hl0 hl1=>jqx N hM x l hl0 hl1 (ha.2 x hx)
abbrev jTz :Tp:=.pair (.sl .str) (.sl TSyn)
abbrev EConf :Type:=(List (List UInt8))×(List (ESyn))
instance decConf :DecidableEq (EConf):=inferInstance
theorem jLl (N:Nat) (hM:Sm<N) (hN:N<=1099511627776) (x y:EConf) (h:okD Sm jTz x):jcO N x.1 x.2 y.1 y.2=some (decide (x=y)):=by
 obtain⟨x0,x1⟩:=x
 obtain⟨y0,y1⟩:=y
 unfold jcO
 rw[jxk N hM hN x0 y0 h.1,za]
 rw[js8 N hM hN x1 y1 h.2,za]
 clear h
 by_cases h0:x0=y0<;>by_cases h1:x1=y1<;>simp[h0,h1]
theorem jMX (N:Nat) (hM:Sm<N) (hN:N<=1099511627776) (x:EConf) (h:okD Sm jTz x):jad N x.1 x.2=some x:=by
 unfold jad
 rw[jgZ N hM hN x.1 h.1,za,jp7 N hM hN x.2 h.2,za]
theorem jLu (N:Nat) (hM:Sm<N) (x:EConf) (left:Int) (h0:0<=left) (h1:left<=1048576) (ha:okD BigN jTz x):SzP (tot jTz x) left (jbD N x.1 x.2 left) (okD Sm jTz x):=by
 unfold jbD
 exact(SzP.then2 h1 (jfo N hM x.1 _ h0 h1 ha.1) (fun _ r0 s0=>SzP.then2 s0 (jmR N hM x.2 _ r0 s0 ha.2) (fun _ r1 s1=>SzP.ret r1))).imp (by simp only[tot];omega) fun q=>⟨q.1,q.2.1⟩
end Go.Proofs.YtbjikaianmpngaaGreatDoor
