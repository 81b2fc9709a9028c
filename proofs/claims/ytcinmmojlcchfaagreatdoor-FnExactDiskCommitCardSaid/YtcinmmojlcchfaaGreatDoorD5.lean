/- Plain laws: sizes and copies of an index. -/
import Derived.Test.YtcinmmojlcchfaaGreatDoorDK
set_option linter.unusedVariables false
set_option linter.unusedSimpArgs false
namespace Go.Proofs.YtcinmmojlcchfaaGreatDoor
open Go.RowKit
abbrev jAe {α β:Type} (T:α->Option β) (G:β->α) (z:α) (m:Int) (N:Nat) (a:List α):Option (List α):=
 (if(a.length:Int)=(a.length:Int)/\0<=(a.length:Int)/\(a.length:Int)*m<=140737488355328/\(a.length:Int)<=140737488355328 then
  (iter (fun(go:(List α×List α×Int)->Option (List α)) (g:List α×List α×Int)=>
    match g with
    |(a2,out,i)=>
    (bif(decide (i<(a2.length:Int)))then
     (Option.bind (idx a2 i) fun(e:α)=>
      (Option.bind (T e) fun(r:β)=>
       (if 0<=i/\i<(out.length:Int)then
        (Option.bind (out[i.toNat]?) fun(e2:α)=>
         (if fits (i+1)then(go (a2,(out.set i.toNat (G r)),(i+1)))else none))
        else none)))
     else
     (some out))) N (a,(List.replicate (a.length:Int).toNat z),0))
  else none)
theorem jB0 {α β:Type} (T:α->Option β) (G:β->α) (z:α) (m:Int) (N:Nat) (a:List α) (h:a.length<N) (hN:N<=1099511627776) (hm:(a.length:Int)*m<=140737488355328) (hT:∀x,x∈a->∃r,T x=some r/\G r=x):jAe T G z m N a=some a:=by
 unfold jAe
 rw[zf ⟨rfl,by omega,hm,by omega⟩]
 refine(iter_scan _ a.length (fun n=>(a,a.take n++List.replicate (a.length-n) z,(n:Int))) (fun n=>some a) (fun go=>?_) (fun go n hn hgo=>?_) N 0 (zaf _) (by omega))
 .dsimp only
  rw[zd (zcd _),ze,zq,Nat.sub_self]
  simp
 .have hn':(n:Int)<a.length:=by omega
  have hol:(a.take n++List.replicate (a.length-n) z).length=a.length:=by simp;omega
  obtain⟨r,hr,hg⟩:=hT _ (zr hn)
  dsimp only
  rw[zb hn',zg,idx_at hn,za,hr,za,zf (by omega),zai,zc (by omega),za,zf (fits_nat (n:=n) (by omega)),hg,jkc a z n hn]
  simp only[cast_succ']at hgo
  exact hgo
theorem jLv (N:Nat) (hM:Sm<N) (x:ELive) (left:Int) (h0:0<=left) (h1:left<=1048576) (ha:okD BigN TLive x):SzP (tot TLive x) left (jJQ N x.1.1 x.1.2 x.2 left) (okD Sm TLive x):=by
 unfold jJQ
 exact(SzP.then2 h1 (jLK N hM x.1 _ h0 h1 ha.1) (fun _ r0 s0=>SzP.then2 s0 (jpk N hM x.2 _ r0 s0 ha.2) (fun _ r1 s1=>SzP.ret r1))).imp (by simp only[tot];omega) fun q=>⟨q.1,q.2.1⟩
theorem jMJ (N:Nat) (hM:Sm<N) (a:List ELive) (left:Int) (h0:0<=left) (h1:left<=1048576) (ha:okD BigN (.sl TLive) a):SzP (tot (.sl TLive) a) left (jKm N a left) (okD Sm (.sl TLive) a):=
 jaA (fun(e:ELive) l=>jJQ N e.1.1 e.1.2 e.2 l) N hM (okD Sm TLive) (tot TLive) a left ha.1 h0 h1 fun x hx l hl0 hl1=>jLv N hM x l hl0 hl1 (ha.2 x hx)
theorem jLz (N:Nat) (hM:Sm<N) (x:EIndex) (left:Int) (h0:0<=left) (h1:left<=1048576) (ha:okD BigN jJJ x):SzP (tot jJJ x) left (jJ5 N x.1.1 x.1.2 x.2 left) (okD Sm jJJ x):=by
 unfold jJ5
 exact(SzP.then2 h1 (jLu N hM x.1 _ h0 h1 ha.1) (fun _ r0 s0=>SzP.then2 s0 (jMJ N hM x.2 _ r0 s0 ha.2) (fun _ r1 s1=>SzP.ret r1))).imp (by simp only[tot];omega) fun q=>⟨q.1,q.2.1⟩
theorem jLh (N:Nat) (hM:Sm<N) (hN:N<=1099511627776) (a:List ELive) (h:okD Sm (.sl TLive) a):jKe N a=some a:=
 jB0 (fun(e:ELive)=>jJS N e.1.1 e.1.2 e.2) (fun r=>((r.1,r.2.1),r.2.2)) _ 72 N a (zal h.1 hM) hN (by have:List.length a<=1048576:=h.1;omega)
  (fun x hm=>⟨(x.1.1,x.1.2,x.2),by
   show jJS N _ _ _=_
   unfold jJS
   rw[jMY N hM hN x.1 (h.2 x hm).1,za,joY N hM hN x.2 (h.2 x hm).2,za],rfl⟩)
theorem jLO (N:Nat) (hM:Sm<N) (hN:N<=1099511627776) (x:EIndex) (h:okD Sm jJJ x):jJM N x.1.1 x.1.2 x.2=some (x.1.1,x.1.2,x.2):=by
 unfold jJM
 rw[jMX N hM hN x.1 h.1,za,jLh N hM hN x.2 h.2,za]
theorem jMh (x:ELive):cLive x<=8*(tot TLive x+1):=by
 have h1:=cSeg_le x.1
 have h3:=mcntInt_le x.2
 have e:tot TLive x=tot (.sl (.int .i64)) x.2+tot TSeg x.1:=rfl
 unfold cLive
 omega
theorem jMd (xs:List ELive):mcnt cLive xs<=8*tot (.sl TLive) xs:=mcnt_le8 (t:=TLive) cLive (fun x=>jMh x) xs
theorem jM9 {N:Nat} (hM:Sm<N) (hN:N<=16777216) {x:EIndex} (h:okD Sm jJJ x):FitI N x:=
 ⟨hM,hN,h.1,h.2.1,fun l hl=>⟨(h.2.2 l hl).1.1.2,(h.2.2 l hl).1.1.1,(h.2.2 l hl).2.1⟩⟩
theorem jL2 (x:EIndex):jJK x<=8*(tot jJJ x+1):=by
 have c1:=cConf_le x.1
 have c2:=jMd x.2
 have c3:tot jJJ x=tot (.sl TLive) x.2+tot TConf x.1:=rfl
 unfold jJK
 omega
end Go.Proofs.YtcinmmojlcchfaaGreatDoor
