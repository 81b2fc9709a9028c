/- Plain laws: the laws' own functions over File, Disk. -/
import Derived.Test.YtcinmmojlcchfaaGreatDoorFS
import Derived.Test.YtcinmmojlcchfaaGreatDoorSG1
set_option linter.unusedVariables false
set_option linter.unusedSimpArgs false
namespace Go.Proofs.YtcinmmojlcchfaaGreatDoor
open Go.RowKit
abbrev jZs :Tp:=.pair .str .str
theorem jZ9 (N:Nat) (hM:Sm<N) (hN:N<=1099511627776) (x y:EFile) (h:okD Sm jZs x):jZA N x.1 x.2 y.1 y.2=some (decide (x=y)):=by
 obtain⟨x0,x1⟩:=x
 obtain⟨y0,y1⟩:=y
 unfold jZA
 clear h
 by_cases h0:x0=y0<;>by_cases h1:x1=y1<;>simp[h0,h1]
theorem jZ5 (N:Nat) (hM:Sm<N) (hN:N<=1099511627776) (x:EFile) (h:okD Sm jZs x):jZz N x.1 x.2=some x:=by
 unfold jZz
 rfl
theorem j0c (N:Nat) (hM:Sm<N) (x:EFile) (left:Int) (h0:0<=left) (h1:left<=1048576) (ha:okD BigN jZs x):SzP (tot jZs x) left (jZx N x.1 x.2 left) (okD Sm jZs x):=by
 unfold jZx
 exact(SzP.len2 (ha.1) h0 h1 (fun r0 s0=>SzP.len2 (ha.2) r0 s0 (fun r1 s1=>SzP.ret r1))).imp (by simp only[tot];omega) fun q=>⟨q.1,q.2.1⟩
theorem j0z (N:Nat) (hM:Sm<N) (hN:N<=1099511627776) (a b:List (EFile)) (h:okD Sm (.sl jZs) a):jZG N a b=some (decide (a=b)):=
 jS (fun(e e2:EFile)=>jZA N e.1 e.2 e2.1 e2.2) N a b (zal h.1 hM) hN fun x hx y=>jZ9 N hM hN x y (h.2 x hx)
theorem jZ8 (N:Nat) (hM:Sm<N) (hN:N<=1099511627776) (a:List (EFile)) (h:okD Sm (.sl jZs) a):jZI N a=some a:=
 jV (fun(e:EFile)=>jZz N e.1 e.2) (([]:List UInt8),([]:List UInt8)) 32 N a (zal h.1 hM) hN (by have:List.length a<=1048576:=h.1;omega) fun x hx=>jZ5 N hM hN x (h.2 x hx)
theorem jZV (N:Nat) (hM:Sm<N) (a:List (EFile)) (left:Int) (h0:0<=left) (h1:left<=1048576) (ha:okD BigN (.sl jZs) a):SzP (tot (.sl jZs) a) left (jZH N a left) (okD Sm (.sl jZs) a):=
 jaA (fun(e:EFile) l=>jZx N e.1 e.2 l) N hM (okD Sm jZs) (tot jZs) a left ha.1 h0 h1 fun x hx l hl0 hl1=>j0c N hM x l hl0 hl1 (ha.2 x hx)
abbrev jZu :Tp:=(.sl jZs)
abbrev jZv :Type:=(List (EFile))
theorem j0b (N:Nat) (hM:Sm<N) (hN:N<=1099511627776) (x y:jZv) (h:okD Sm jZu x):jZE N x y=some (decide (x=y)):=by
 unfold jZE
 rw[j0z N hM hN x y h,za]
 clear h
 by_cases h0:x=y<;>simp[h0]
theorem j0G (N:Nat) (hM:Sm<N) (hN:N<=1099511627776) (x:jZv) (h:okD Sm jZu x):jZw N x=some x:=by
 unfold jZw
 rw[jZ8 N hM hN x h,za]
theorem j0k (N:Nat) (hM:Sm<N) (x:jZv) (left:Int) (h0:0<=left) (h1:left<=1048576) (ha:okD BigN jZu x):SzP (tot jZu x) left (jZB N x left) (okD Sm jZu x):=by
 unfold jZB
 exact(SzP.then2 h1 (jZV N hM x _ h0 h1 ha) (fun _ r0 s0=>SzP.ret r0)).imp (by simp only[tot];omega) fun q=>q.1
end Go.Proofs.YtcinmmojlcchfaaGreatDoor
