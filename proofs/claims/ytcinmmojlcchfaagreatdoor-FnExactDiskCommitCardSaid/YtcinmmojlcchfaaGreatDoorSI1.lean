import Derived.Test.YtcinmmojlcchfaaGreatDoorSH1
import Derived.Test.YtcinmmojlcchfaaGreatDoorD5
set_option linter.unusedVariables false
set_option linter.unusedSimpArgs false
namespace Go.Proofs.YtcinmmojlcchfaaGreatDoor
open Go.RowKit
theorem j2o {x:EIndex} (hk:okIdx x=true) {n:Int} (h0:0<=n) (h1:n<=1000):∀f,f∈j3J x n->f.1.length<=1048576/\f.2.length<=1048576:=fun f hf=>by
 have hl5:x.2.length<=5:=(okIdx_ok hk).2.1
 have seg:∀(ls:List ELive) (k:Nat),(∀l,l∈ls->okIdx (x.1,[l])=true)->k+ls.length<=1000->(∀f,f∈j3I n k ls->f.1.length<=44/\f.2.length<=1048576)/\(manR (j3I n k ls)).length<=70*ls.length:=fun ls=>by
  induction ls with
  |nil=>exact fun k _ _=>⟨(fun f hf=>by cases hf),zaf _⟩
  |cons l ls ih=>
   intro k h hk
   rw[zi]at hk
   obtain⟨g1,g2⟩:=ih (k+1) (fun l hl=>h l (zl _ hl)) (by omega)
   have b4:=j1b h0 h1 (k:=(k:Int)) (by omega) (by omega)
   refine⟨fun f hf=>?_,?_⟩
   .rcases zp.1 (show f∈(segN n (k:Int),liveT l.1.1 l.2)::j3I n (k+1) ls from hf)with rfl|hf
    .exact ⟨b4,j1h (h l zy)⟩
    .exact g1 f hf
   .have:=j1f (f:=(segN n (k:Int),liveT l.1.1 l.2)) b4
    rw[show j3I n k (l::ls)=(segN n (k:Int),liveT l.1.1 l.2)::j3I n (k+1) ls from rfl,j1e,zam,zi]
    omega
 obtain⟨g1,g2⟩:=seg x.2 0 (fun l hl=>jZP hk hl) (by omega)
 unfold j3J at hf
 rw[zaB,zaD]at hf
 rcases hf with hf|rfl
 .have:=g1 f hf
  omega
 .have e1:=itoa_len20 (n:=1000+n) (by omega) (by omega)
  refine⟨?_,?_⟩
  .unfold genN
   rw[zam,zi,zi,zi,zac]
   omega
  .show (manR (j3I n 0 x.2)++endT).length<=1048576
   rw[zam,show endT.length=3 from rfl]
   omega
theorem j36 (x:EFile):∀(fs d:List EFile),x∈writeAll fs d->x∈fs\/x∈d
 | [],d,h=>.inr h
 |f::fs,d,h=>by
  rw[writeAll_cons]at h
  rcases j36 x fs _ h with h|h
  .exact .inl (zl _ h)
  .rcases j3V f x d h with rfl|h
   .exact .inl zy
   .exact .inr h
theorem j4s {w:Int} {fs:List EFile} {f:EFile} (h:f∈j3G w fs):f∈fs:=by
 unfold j3G at h
 cases hw:decide (w<0)with
 |true=>rw[hw]at h;exact h
 |false=>rw[hw]at h;exact zaP h
theorem j33 {d:List EFile} (hd:FitD d) (x:EIndex) (w:Int):FitD (j3M d x w).1:=by
 unfold j3M
 cases hdo:okDisk d with
 |false=>exact⟨zaf _,(fun f hf=>by cases hf)⟩
 |true=>
  cases hk:okIdx x with
  |false=>exact⟨zaf _,(fun f hf=>by cases hf)⟩
  |true=>
   rw[zaV,zg]
   cases hn:decide (99<j3F d+1)||decide (24<d.length+6)with
   |true=>rw[j3N hn];exact hd
   |false=>
    have hmost:j3F d<=99:=j3T d 99
    have h24:d.length<=24:=(okDisk_ok hdo).few
    have hl5:x.2.length<=5:=(okIdx_ok hk).2.1
    rw[j3Y hn]
    have hfit:=j2o hk (n:=((j3F d+1:Nat):Int)) (by omega) (by omega)
    have hfl:(j3J x ((j3F d+1:Nat):Int)).length<=6:=by rw[j3X];omega
    have hw:FitD (writeAll (j3G w (j3J x ((j3F d+1:Nat):Int))) d):=by
     refine⟨by have:=j4u w _ d hfl h24;omega,fun f hf=>?_⟩
     rcases j36 f _ d hf with hf|hf
     .exact hfit f (j4s hf)
     .exact hd.each f hf
    dsimp only
    cases decide (w<0)||decide (((j3J x ((j3F d+1:Nat):Int)).length:Int)<w)with
    |false=>exact hw
    |true=>
     rw[zg]
     exact⟨zau (j39 ((j3F d+1:Nat):Int) _) hw.len,fun f hf=>hw.each f (zaZ.1 hf).1⟩
theorem FitD.okD {d:List EFile} (h:FitD d):okD Sm jZu d:=⟨h.len,fun f hf=>h.each f hf⟩
theorem FitD.marks {d:List EFile} (h:FitD d):jZy d<=2097152:=by
 have h1:=jWL (c:=jZt) 2 d fun f _=>zae _
 have:=h.len
 unfold jZy
 omega
theorem j4q {N:Nat} (hN:1048600<=N) (hN2:N<=16777216) (d:List EFile) (x:EIndex) (w:Int) (hd:okD BigN jZu d) (hx:okD BigN jJJ x):j3R N d x.1.1 x.1.2 x.2 w=some true:=by
 have hM:Sm<N:=by show 1048576<N;omega
 have hN':N<=1099511627776:=by omega
 refine Def.get ?_
 unfold j3R
 refine Def.bind (j0k N hM d 1048576 (by omega) (by omega) hd) fun r hr=>?_
 refine Def.dif (fun e=>Def.ret rfl) (fun e3=>?_)
 rcases hr with hr|⟨r0,r1,od⟩
 .omega
 refine Def.bind (jLz N hM x r r0 (by omega) hx) fun r2 hr2=>?_
 refine Def.dif (fun e=>Def.ret rfl) (fun e4=>?_)
 rcases hr2 with hr2|⟨r3,r4,oi⟩
 .omega
 have F:FitD d:=⟨od.1,fun f hf=>⟨(od.2 f hf).1,(od.2 f hf).2⟩⟩
 have FI:FitI N x:=jM9 hM hN2 oi
 have c1:=jL2 x
 have c2:=j0a d
 have oR:=(j33 F x w).okD
 have c3:=(j33 F x w).marks
 have t1:=jLO N hM hN' x oi
 have t2:=j0G N hM hN' d od
 have t3:=jKv N hM hN' x oi
 have t4:=j0b N hM hN' d d od
 rw[zb rfl]at t4
 have t5:=j4l hN hN2 d F FI w
 have t6:=j4n hN hN2 d F FI w
 have m1:=j0E N hM hN' d 1 (by omega) (by omega) od
 have m2:=jKq N hM hN' x (1+(jZy d:Nat)) (by omega) (by omega) oi
 generalize j3M d x w=R at*
 have t7:=j0b N hM hN' R.1 R.1 oR
 rw[zb rfl]at t7
 have m4:=j0E N hM hN' R.1 1 (by omega) (by omega) oR
 have m5:=j4p N hM hN' R.1 1 (by omega) (by omega) oR
 simp only[t1,t2,t3,t4,t5,t6,t7,m1,m2,m4,m5,za,zn,ze,eq_self,decide_true]
 rw[zd (by omega),ze]
 rw[zd (by omega),ze]
 exact Def.ret rfl
theorem j4i (x0:List EFile) (x1:EIndex) (x2:Int) (o0:okD BigN jZu x0) (o1:okD BigN jJJ x1) (o2:okD BigN (.int .i64) x2):j3R 1048700 x0 x1.1.1 x1.1.2 x1.2 x2=some true:=j4q (by omega) (by omega) x0 x1 x2 o0 o1
end Go.Proofs.YtcinmmojlcchfaaGreatDoor
