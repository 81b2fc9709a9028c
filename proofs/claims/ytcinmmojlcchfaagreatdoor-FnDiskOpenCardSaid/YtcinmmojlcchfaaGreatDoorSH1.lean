import Derived.Test.YtcinmmojlcchfaaGreatDoorSG1
set_option linter.unusedVariables false
set_option linter.unusedSimpArgs false
namespace Go.Proofs.YtcinmmojlcchfaaGreatDoor
open Go.RowKit
theorem j1T {c:UInt8} (h:digB c=true):48<=c.toNat/\c.toNat<=57:=by
 unfold digB at h
 rw[zj,zw,zw]at h
 exact h
theorem j1l :∀(l:List UInt8) (acc:Nat),(∀c,c∈l->digB c=true)->numD acc l<(acc+1)*10^l.length
 | [],acc,_=>by show acc<(acc+1)*10^0;omega
 |c::l,acc,h=>by
  have hc:=j1T (h c zy)
  have:=j1l l (acc*10+(c.toNat-48)) fun x hx=>h x (zl _ hx)
  have e:numD acc (c::l)=numD (acc*10+(c.toNat-48)) l:=rfl
  rw[e]
  refine zbi this ?_
  rw[zi,Nat.pow_succ,zbx (10^l.length) 10,<-Nat.mul_assoc]
  exact zag _ (by omega)
def midN (nm:List UInt8):List UInt8:=(nm.drop 3).take 4
theorem j1v {nm:List UInt8} (h:7<=nm.length):cut nm 3 7=some (midN nm):=by
 unfold cut midN
 rw[zf ⟨by omega,by omega,by omega⟩]
 show some ((nm.take 7).drop 3)=_
 rw[List.drop_take]
theorem j01 {nm:List UInt8} (h:7<=nm.length):(midN nm).length=4:=by
 unfold midN
 rw[zah,zaQ]
 omega
def inB (n:Int) (nm:List UInt8):Bool:=(midN nm).all digB&&(decide ((1001:Int)<=(numD 0 (midN nm):Int))&&decide ((numD 0 (midN nm):Int)<=1000+n-1))
theorem j1I (n:Int) (nm:List UInt8):oldB n nm=(decide (7<=nm.length)&&(decide (nm.take 3=[103,101,110])||decide (nm.take 3=[115,101,103]))&&inB n nm):=rfl
theorem j1F {nm:List UInt8} (h:7<=nm.length):cut nm 0 3=some (nm.take 3):=by
 unfold cut
 rw[zf ⟨by omega,by omega,by omega⟩]
 rfl
theorem j0W (n:Int) (f:EFile) (d:List EFile):j3H n (d++ [f])=j3H n d++(bif oldB n f.1 then []else [f]):=by
 unfold j3H
 rw[za6]
 congr 1
 cases h:oldB n f.1 with
 |true=>rw[List.filter_cons_of_neg (by rw[h];decide)];rfl
 |false=>rw[List.filter_cons_of_pos (by rw[h];rfl)];rfl
theorem j0R {α:Type} {l:List α} {n:Nat} (h:n<l.length):l.take (n+1)=l.take n++ [l[n]]:=by
 rw[List.take_add_one,zc h]
 rfl
theorem j15 {nm:List UInt8} (h:7<=nm.length) (n:Int):(decide ((1001:Int)<=numS (midN nm))&&decide (numS (midN nm)<=1000+n-1))=inB n nm:=by
 have hl:=j01 h
 have hne:midN nm≠ []:=fun e=>by rw[e]at hl;cases hl
 unfold inB numS
 cases ha:(midN nm).all digB with
 |false=>rfl
 |true=>
  rw[zaj,zaj,zb (by omega:(midN nm).length<=9),zaj,zb hne,zaj,zb (by omega:1<(midN nm).length),zaj]
  by_cases e:(midN nm).head? =some 48
  .rw [zb e]
   have hz:numD 0 (midN nm)<1000:=by
    match hm:midN nm,hl with
    |c::r,hl=>
     rw[hm]at e ha
     have e:c=48:=Option.some.inj e
     subst e
     have:=j1l r 0 fun x hx=>zax.1 ha x (zl _ hx)
     have hr:r.length=3:=by rw[zi]at hl;omega
     rw[hr]at this
     exact this
   rw[zd (by omega:¬(1001:Int)<=(numD 0 (midN nm):Int))]
   rfl
  .rw [zd e]
   rfl
theorem j2p (N:Nat) (n a b:Int):jJ N n a b=some (decide (a<=n)&&decide (n<=b)):=by
 unfold jJ
 cases decide (a<=n)<;>rfl
theorem j2Y (N:Nat) (hN:16<=N) (hN2:N<=16777216) (d:List EFile) (hd:d.length<N) (n:Int) (h0:0<=n) (h1:n<=1000):j0S N d n=some (j3H n d):=by
 refine Def.get ?_
 unfold j0S
 refine Def.iter (fun g=>∃(k:Nat),g=(n,(k:Int),d,j3H n (d.take k))/\k<=d.length) (fun g=>((d.length:Int)-g.2.1).toNat) (fun go g hI ih=>?_) N _ ⟨0,rfl,zaf _⟩ (by show((d.length:Int)-0).toNat<N;omega)
 obtain⟨k,rfl,hk⟩:=hI
 dsimp only
 by_cases hlt:k<d.length
 .have hol:(j3H n (d.take k)).length<=d.length:=by
   have:=zbh (fun f:EFile=> !oldB n f.1) (d.take k)
   unfold j3H
   rw[zah]at this
   omega
  have keep:oldB n d[k].1=false->Def (if room (j3H n (d.take k)).length ([d[k]]:List EFile).length 32 then if fits ((k:Int)+1)then go (n,(k:Int)+1,d,j3H n (d.take k)++ [d[k]])else none else none) fun r=>r=j3H n d:=fun e=>by
   refine Def.ite (room_of (by rw[zbE];omega) (by rw[zbE];omega)) (Def.ite (fits_nat (by omega)) (ih _ ⟨k+1,?_,hlt⟩ (by dsimp only;omega)))
   rw[j0R hlt,j0W,e,cast_succ']
   rfl
  have pass:oldB n d[k].1=true->Def (if fits ((k:Int)+1)then go (n,(k:Int)+1,d,j3H n (d.take k))else none) fun r=>r=j3H n d:=fun e=>by
   refine Def.ite (fits_nat (by omega)) (ih _ ⟨k+1,?_,hlt⟩ (by dsimp only;omega))
   rw[j0R hlt,j0W,e,cast_succ',zg,zat]
  have ho:=j1I n d[k].1
  rw[zb (by omega:(k:Int)<d.length),zg,idx_at hlt,za]
  by_cases h7:7<=d[k].1.length
  .rw [zb h7,zaj]at ho
   have hm4:=j01 h7
   have hn:=numS_spec N (midN d[k].1) (by omega)
   have hnum:=j15 h7 n
   rw[zb (by omega:(7:Int)<=d[k].1.length),zg,j1F h7]
   simp only[za]
   have look:(decide (d[k].1.take 3=[103,101,110])||decide (d[k].1.take 3=[115,101,103]))=true->Def (Option.bind (cut d[k].1 3 7) fun(y2:List UInt8)=>Option.bind (s_l1Num_m N y2) fun(r:Int)=>if fits (1000+n)then if fits (1000+n-1)then Option.bind (jJ N r 1001 (1000+n-1)) fun(r2:Bool)=>bif(!r2)then(if room (j3H n (d.take k)).length ([d[k]]:List EFile).length 32 then if fits ((k:Int)+1)then go (n,(k:Int)+1,d,j3H n (d.take k)++ [d[k]])else none else none)else if fits ((k:Int)+1)then go (n,(k:Int)+1,d,j3H n (d.take k))else none else none else none) fun r=>r=j3H n d:=fun e=>by
    rw[e,zaj]at ho
    rw[j1v h7,za,hn,za]
    refine Def.ite (by unfold fits;omega) (Def.ite (by unfold fits;omega) ?_)
    rw[j2p,za,hnum,<-ho]
    refine Def.bif (fun e3=>?_) (fun e3=>?_)
    .rw [zb2]at e3
     exact keep e3
    .rw [Bool.not_eq_false']at e3
     exact pass e3
   by_cases e1:d[k].1.take 3=[103,101,110]
   .rw [zb e1,zg]
    exact look (by rw[zb e1];rfl)
   .rw [zd e1,ze]
    by_cases e2:d[k].1.take 3=[115,101,103]
    .rw [zb e2,zg]
     exact look (by rw[zb e2,Bool.or_true])
    .rw [zd e2,ze]
     rw[zd e1,zd e2]at ho
     exact keep ho
  .rw [zd (by omega:¬(7:Int)<=d[k].1.length),ze]
   simp only[za]
   rw[zd h7]at ho
   exact keep ho
 .rw [zd (by omega:¬(k:Int)<d.length),ze]
  refine Def.ret ?_
  rw[zba (by omega)]
theorem j1z {g:EFile} {d:List EFile} (h:UpN (g::d)):(∀x,x∈d->Op.bytesLess g.1 x.1=true)/\UpN d:=zas.1 h
theorem j2i (f g:EFile) (d:List EFile):writeD f (g::d)=if g.1=f.1 then f::d else if Op.bytesLess g.1 f.1=true then g::writeD f d else f::g::d:=rfl
theorem j13 (N:Nat) (hN2:N<=16777216) (d:List EFile) (hd:d.length+1<N) (hu:UpN d) (nm t:List UInt8):j0X N d nm t=some (writeD (nm,t) d):=by
 refine Def.get ?_
 unfold j0X
 refine Def.iter (fun g=>∃(k:Nat) (out:List EFile),out.length<=2*k/\k<=d.length/\((g=(false,(k:Int),d,nm,t,out)/\out++writeD (nm,t) (d.drop k)=writeD (nm,t) d)\/(g=(true,(k:Int),d,nm,t,out)/\out++d.drop k=writeD (nm,t) d/\∀g,g∈d.drop k->g.1≠nm))) (fun g=>((d.length:Int)-g.2.1).toNat) (fun go g hI ih=>?_) N _ ⟨0,[],zaf _,zaf _,.inl ⟨rfl,rfl⟩⟩ (by show((d.length:Int)-0).toNat<N;omega)
 obtain⟨k,out,ho,hk,hI⟩:=hI
 by_cases hlt:k<d.length
 .have hcons:=zan hlt
  have hup:UpN (d.drop k):=hu.sublist (List.drop_sublist _ _)
  rw[hcons]at hup hI
  rw[j2i]at hI
  obtain⟨u1,u2⟩:=j1z hup
  have rm:∀(o:List EFile) (x:EFile),o.length<=2*k+1->room o.length ([x]:List EFile).length 32:=fun o x h=>room_of (by rw[zbE];omega) (by rw[zbE];omega)
  have fk:fits ((k:Int)+1):=fits_nat (by omega)
  have hne:∀g,g∈d.drop (k+1)->Op.bytesLess d[k].1 nm=false->g.1≠nm:=fun g hg h e2=>by
   have:=u1 g hg
   rw[e2,h]at this
   cases this
  rcases hI with⟨rfl,hw⟩|⟨rfl,hw,hno⟩
  .dsimp only
   rw[zb (by omega:(k:Int)<d.length),zg]
   cases hl:Op.bytesLess d[k].1 nm with
   |false=>
    rw[hl]at hw
    refine Def.meet (fun g=>g=(true,(k:Int),d,nm,t,out++ [(nm,t)])) (fun g hg=>?_) (fun J hJ=>?_)
    .subst hg
     dsimp only
     rw[idx_at hlt,za]
     by_cases e:d[k].1=nm
     .rw [zf e]at hw
      rw[zb e,zn,ze]
      refine Def.ite fk (ih _ ⟨k+1,out++ [(nm,t)],by rw[zam,zbE];omega,hlt,.inr ⟨by rw[cast_succ'],by rw[zao];exact hw,fun g hg=>hne g hg hl⟩⟩ (by dsimp only;omega))
     .rw [zu e,zu (by decide)]at hw
      rw[zd e,zaI,zg,za]
      refine Def.ite (rm _ _ (by rw[zam,zbE];omega)) (Def.ite fk (ih _ ⟨k+1,out++ [(nm,t)]++ [d[k]],?_,hlt,.inr ⟨by rw[cast_succ'],by rw[zao,zao];exact hw,fun g hg=>hne g hg hl⟩⟩ (by dsimp only;omega)))
      rw[zam,zam,zbE,zbE];omega
    .rw [zaI,zg,idx_at hlt,za,hl,zaI,zg]
     exact Def.ite (rm _ _ (by omega)) (hJ _ rfl)
   |true=>
    have e:d[k].1≠nm:=fun e=>by rw[e,bl_irrefl]at hl;cases hl
    rw[zu e,hl,zf rfl]at hw
    refine Def.meet (fun g=>g=(false,(k:Int),d,nm,t,out)) (fun g hg=>?_) (fun J hJ=>?_)
    .subst hg
     dsimp only
     rw[idx_at hlt,za,zd e,zaI,zg,za]
     exact Def.ite (rm _ _ (by omega)) (Def.ite fk (ih _ ⟨k+1,out++ [d[k]],by rw[zam,zbE];omega,hlt,.inl ⟨by rw[cast_succ'],by rw[zao];exact hw⟩⟩ (by dsimp only;omega)))
    .rw [zaI,zg,idx_at hlt,za,hl,zn,ze]
     exact hJ _ rfl
  .have e:=hno d[k] zy
   dsimp only
   rw[zb (by omega:(k:Int)<d.length),zg]
   refine Def.meet (fun g=>g=(true,(k:Int),d,nm,t,out)) (fun g hg=>?_) (fun J hJ=>?_)
   .subst hg
    dsimp only
    rw[idx_at hlt,za,zd e,zaI,zg,za]
    exact Def.ite (rm _ _ (by omega)) (Def.ite fk (ih _ ⟨k+1,out++ [d[k]],by rw[zam,zbE];omega,hlt,.inr ⟨by rw[cast_succ'],by rw[zao];exact hw,fun g hg=>hno g (zl _ hg)⟩⟩ (by dsimp only;omega)))
   .rw [zn,ze]
    exact hJ _ rfl
 .rw [zbw (by omega)]at hI
  rcases hI with⟨rfl,hw⟩|⟨rfl,hw,_⟩
  .dsimp only
   rw[zd (by omega:¬(k:Int)<d.length),ze,zaI,zg]
   exact Def.ite (room_of (by rw[zbE];omega) (by rw[zbE];omega)) (Def.ret hw)
  .dsimp only
   rw[zd (by omega:¬(k:Int)<d.length),ze,zn,ze]
   rw[zat]at hw
   exact Def.ret hw
theorem j1y (o:Option (List UInt8)):(outF o).2=o.isSome:=by cases o<;>rfl
theorem j2U (N:Nat) (hN:1048576<N) (hN2:N<=16777216) (d:List EFile) (hd:d.length<N):j04 N d=some (mostD d:Int):=by
 refine Def.get ?_
 unfold j04
 refine Def.iter (fun g=>∃k:Nat,g=((k:Int),d)/\k<=99/\mostFrom d k=mostD d) (fun g=>g.1.toNat) (fun go g hI ih=>?_) N _ ⟨99,rfl,zae _,rfl⟩ (by show(99:Int).toNat<N;omega)
 obtain⟨k,rfl,hk,e⟩:=hI
 dsimp only
 cases k with
 |zero=>
  rw[zd (by decide:¬(1:Int)<=((0:Nat):Int)),ze]
  refine Def.ret ?_
  rw[<-e]
  rfl
 |succ k=>
  rw[zb (by omega:(1:Int)<=((k+1:Nat):Int)),zg,gen_s N hN hN2 _ (by omega) (by omega),za,file_s N d _ hd hN2,za,j1y]
  unfold mostFrom at e
  cases hf:(fileD d (genN ((k+1:Nat):Int))).isSome with
  |true=>
   rw[hf,zg]at e
   rw[zg,<-e]
   exact Def.ret rfl
  |false=>
   rw[hf,ze]at e
   rw[ze]
   exact Def.ite (by unfold fits;omega) (ih _ ⟨k,by rw[show((k+1:Nat):Int)-1=(k:Int)from by omega],by omega,e⟩ (by dsimp only;omega))
theorem j05 (n:Int):∀(ls:List ELive) (k i:Nat) (h:i<ls.length),segFrom n k (ls.drop i)=(segN n (k:Int),liveT ls[i].1.1 ls[i].2)::segFrom n (k+1) (ls.drop (i+1)):=fun ls k i h=>by
 rw[zan h]
 rfl
theorem j1b {n k:Int} (h1:0<=n) (h2:n<=1000) (h3:0<=k) (h4:k<=1000):(segN n k).length<=44:=by
 have e1:=itoa_len20 (n:=1000+n) (by omega) (by omega)
 have e2:=itoa_len20 (n:=k) (by omega) (by omega)
 unfold segN
 simp only[zam,zi,zac]
 omega
theorem j1f {f:EFile} (h:f.1.length<=44):(manLn f++ [10]).length<=70:=by
 have h1:=crcT_lt f.2
 have e1:=itoa_len20 (n:=(crcT f.2:Int)) (by omega) (by omega)
 unfold manLn
 simp only[zam,zi,zac]
 omega
def manR (fs:List EFile):List UInt8:=linesT (fs.map manLn)
theorem j1e (f:EFile) (fs:List EFile):manR (f::fs)=(manLn f++ [10])++manR fs:=by
 unfold manR
 rw[zv,linesT_cons,zao]
 rfl
theorem j1h {c:EConf} {l:ELive} (h:okIdx (c,[l])=true):(liveT l.1.1 l.2).length<=1048576:=(oneL h).small
theorem j21 {N:Nat} (hN:1048600<=N) (hN2:N<=16777216) (x:EIndex) (oc:okD Sm TConf x.1) (hk:okIdx x=true) (n:Int) (h0:0<=n) (h1:n<=1000):j09 N x.1.1 x.1.2 x.2 n=some (filesC x n):=by
 have hM:Sm<N:=by show 1048576<N;omega
 have hl5:x.2.length<=5:=(okIdx_ok hk).2.1
 refine Def.get ?_
 unfold j09
 refine Def.iter (fun g=>∃(i:Nat) (out:List EFile) (gen:List UInt8),g=(n,out,gen,(i:Int),x.1.1,x.1.2,x.2)/\i<=x.2.length/\out.length=i/\gen.length<=70*i/\out++segFrom n i (x.2.drop i)=segFrom n 0 x.2/\gen++manR (segFrom n i (x.2.drop i))=manR (segFrom n 0 x.2)) (fun g=>((x.2.length:Int)-g.2.2.2.1).toNat) (fun go g hI ih=>?_) N _ ⟨0,[],[],rfl,zaf _,rfl,zaf _,rfl,rfl⟩ (by show((x.2.length:Int)-0).toNat<N;omega)
 obtain⟨i,out,gen,rfl,hi,ho,hg,e1,e2⟩:=hI
 dsimp only
 by_cases hlt:i<x.2.length
 .have hsub:okIdx (x.1,[x.2[i]])=true:=jZP hk (zr hlt)
  have z:SizL x.2[i].1.1 x.2[i].2:=(fitMany hM hN2 oc (xs:=[x.2[i]]) (by simp) (fun l hl=>by rw[zaD]at hl;rw[hl];exact hsub)).siz hsub
  have ht:=j1h hsub
  have hc:=crcT_lt (liveT x.2[i].1.1 x.2[i].2)
  have a1:=dec_spec N N (by omega) (by omega) (1000+n) (by omega) (by omega)
  have a2:=dec_spec N N (by omega) (by omega) (i:Int) (by omega) (by omega)
  have a3:=dec_spec N N (by omega) (by omega) (crcT (liveT x.2[i].1.1 x.2[i].2):Int) (by omega) (by omega)
  have b1:=itoa_len20 (n:=1000+n) (by omega) (by omega)
  have b2:=itoa_len20 (n:=(i:Int)) (by omega) (by omega)
  have b3:=itoa_len20 (n:=(crcT (liveT x.2[i].1.1 x.2[i].2):Int)) (by omega) (by omega)
  have b4:=j1b h0 h1 (k:=(i:Int)) (by omega) (by omega)
  unfold itoaL at a1 a2 a3
  have seg:([115,101,103]++Lib.itoa (1000+n))++ [120]++Lib.itoa (i:Int)=segN n (i:Int):=rfl
  rw[zb (by omega:(i:Int)<x.2.length),zg]
  refine Def.ite (by unfold fits;omega) ?_
  rw[a1,za]
  refine Def.ite (by simp only[zi,zac];omega) (Def.ite (by simp only[zam,zi,zac];omega) ?_)
  rw[a2,za]
  refine Def.ite (by simp only[zam,zi,zac];omega) ?_
  rw[idx_at hlt,za,seg_s N (by omega) hN2 x.2[i] z,za,seg]
  refine Def.ite (room_of (by rw[zbE];omega) (by rw[zbE];omega)) (Def.ite (by omega) (Def.ite (by simp only[zam,zi,zac];omega) ?_))
  rw[crc_s N (by omega) _ (by omega) (by omega),za,a3,za]
  refine Def.ite (by simp only[zam,zi,zac];omega) (Def.ite (by simp only[zam,zi,zac];omega) (Def.ite (fits_nat (by omega)) (ih _ ⟨i+1,out++ [(segN n (i:Int),liveT x.2[i].1.1 x.2[i].2)],gen++(manLn (segN n (i:Int),liveT x.2[i].1.1 x.2[i].2)++ [10]),?_,hlt,by rw[zam,ho];rfl,?_,?_,?_⟩ (by dsimp only;omega))))
  .rw [cast_succ']
   unfold manLn
   simp only[zao]
  .have:=j1f (f:=(segN n (i:Int),liveT x.2[i].1.1 x.2[i].2)) b4
   rw[zam]
   omega
  .rw [<-e1,j05 n x.2 i i hlt,zao]
   rfl
  .rw [<-e2,j05 n x.2 i i hlt,j1e,zao]
 .rw [zbw (by omega)]at e1 e2
  have e1:out=segFrom n 0 x.2:=by rw[<-e1];exact(zat _).symm
  have e2:gen=manR (segFrom n 0 x.2):=by rw[<-e2];exact(zat _).symm
  rw[zd (by omega:¬(i:Int)<x.2.length),ze,gen_s N (by omega) hN2 n h0 h1,za]
  refine Def.ite (by simp only[zi,zac];omega) (Def.ite (room_of (by rw[zbE];omega) (by rw[zbE];omega)) (Def.ret ?_))
  rw[e1,e2]
  rfl
theorem j1m (w:Int) (fs:List EFile) {i:Nat} (hi:i<fs.length):takeW w (fs.take (i+1))=takeW w (fs.take i)++(bif decide (w<0)||decide ((i:Int)<w)then [fs[i]]else []):=by
 unfold takeW
 cases hw:decide (w<0)with
 |true=>rw[zg,zg,Bool.true_or,zg,j0R hi]
 |false=>
  rw[decide_eq_false_iff_not]at hw
  rw[ze,ze,zbf,List.take_take,List.take_take]
  by_cases h:(i:Int)<w
  .rw [zb h,zg,Nat.min_eq_right (by omega),Nat.min_eq_right (by omega),j0R hi]
  .rw [zd h,ze,zcq (by omega),zcq (by omega),zat]
theorem j1o :∀(fs d:List EFile),UpN d->UpN (writeAll fs d)
 | [],_,h=>h
 |f::fs,d,h=>by rw[writeAll_cons];exact j1o fs _ (j3W f d h)
theorem j2r (w:Int) (fs:List EFile):(takeW w fs).length<=fs.length:=by
 unfold takeW
 cases decide (w<0)with
 |true=>exact zae _
 |false=>rw[ze,zah];omega
theorem j1k (w:Int) (fs d:List EFile) (i:Nat) (hf:fs.length<=6) (hd:d.length<=24):(writeAll (takeW w (fs.take i)) d).length<=30:=by
 have h1:=writeAll_len (takeW w (fs.take i)) d
 have h2:=j2r w (fs.take i)
 rw[zah]at h2
 omega
theorem fin_len (w:Int) (fs d:List EFile) (hf:fs.length<=6) (hd:d.length<=24):(writeAll (takeW w fs) d).length<=30:=by
 have:=j1k w fs d fs.length hf hd
 rwa[zba (zae _)]at this
theorem clean_len (n:Int) (d:List EFile):(j3H n d).length<=d.length:=zbh _ _
def commitR (d:List EFile) (x:EIndex) (w:Int):List EFile×Int:=bif okDisk d&&okIdx x then commitD d x w else([],-1)
theorem commit_full {d:List EFile} {x:EIndex} {w:Int} (h:(decide (99<mostD d+1)||decide (24<d.length+6))=true):commitD d x w=(d,0):=by unfold commitD;rw[h];rfl
theorem commit_room {d:List EFile} {x:EIndex} {w:Int} (h:(decide (99<mostD d+1)||decide (24<d.length+6))=false):commitD d x w=(bif decide (w<0)||decide (((filesC x (mostD d+1:Nat)).length:Int)<w)then j3H (mostD d+1:Nat) (writeAll (takeW w (filesC x (mostD d+1:Nat))) d)else writeAll (takeW w (filesC x (mostD d+1:Nat))) d,((mostD d+1:Nat):Int)):=by unfold commitD;rw[h];rfl
theorem diskCommit_s {N:Nat} (hN:1048600<=N) (hN2:N<=16777216) (d:List EFile) (hd:FitD d) {x:EIndex} (F:FitI N x) (w:Int):j3U N d x.1.1 x.1.2 x.2 w=some (commitR d x w):=by
 unfold j3U commitR
 rw[diskOk_s N (by omega) hN2 d hd,za]
 cases hdo:okDisk d with
 |false=>rfl
 |true=>
  rw[zn,ze,l18Ok_spec F,za]
  cases hk:okIdx x with
  |false=>rfl
  |true=>
   have P:=okDisk_ok hdo
   have hd24:d.length<=24:=P.few
   have hmost:mostD d<=99:=mostFrom_le d 99
   rw[zn,ze,zaV,zg,j2U N (by omega) hN2 d (by omega),za,zf (by unfold fits;omega)]
   have rm:room ([]:List EFile).length d.length 32:=room_of (by rw[show([]:List EFile).length=0 from rfl,zaY];omega) (by rw[show([]:List EFile).length=0 from rfl,zaY];omega)
   by_cases h99:99<mostD d+1
   .rw [zb (by omega:(99:Int)<(mostD d:Int)+1),zg,zf rm,commit_full (by rw[zb h99];rfl)]
    rfl
   .rw [zd (by omega:¬(99:Int)<(mostD d:Int)+1),ze,zf (by unfold fits;omega),zf (by unfold fits;omega)]
    by_cases h24:24<d.length+6
    .rw [zb (by omega:(24:Int)<d.length+5+1),zg,zf rm,commit_full (by rw[zb h24,Bool.or_true])]
     rfl
    .have hl5:x.2.length<=5:=(okIdx_ok hk).2.1
     rw[zd (by omega:¬(24:Int)<d.length+5+1),ze,zf rm,show(mostD d:Int)+1=((mostD d+1:Nat):Int)from by omega,j21 hN hN2 x F.oc hk _ (by omega) (by omega),za,commit_room (by rw[zd h99,zd h24];rfl)]
     generalize hfs:filesC x ((mostD d+1:Nat):Int)=fs
     have hfl:fs.length<=6:=by rw[<-hfs,filesC_len];omega
     have hU:UpN d:=P.up
     refine Def.get ?_
     refine Def.iter (fun g=>∃i:Nat,g=(w,((mostD d+1:Nat):Int),fs,(i:Int),writeAll (takeW w (fs.take i)) d)/\i<=fs.length) (fun g=>((fs.length:Int)-g.2.2.2.1).toNat) (fun go g hI ih=>?_) N _ ⟨0,by unfold takeW;cases decide (w<0)<;>simp[writeAll],zaf _⟩ (by show((fs.length:Int)-0).toNat<N;omega)
     obtain⟨i,rfl,hi⟩:=hI
     have hsm:=j1k w fs d i hfl hd24
     have hup:=j1o (takeW w (fs.take i)) d hU
     have done:takeW w (fs.take i)=takeW w fs->Def (bif decide (w<0)then Option.bind (j0S N (writeAll (takeW w (fs.take i)) d) ((mostD d+1:Nat):Int)) fun r7=>some (r7,((mostD d+1:Nat):Int))else bif decide ((fs.length:Int)<w)then Option.bind (j0S N (writeAll (takeW w (fs.take i)) d) ((mostD d+1:Nat):Int)) fun r8=>some (r8,((mostD d+1:Nat):Int))else some (writeAll (takeW w (fs.take i)) d,((mostD d+1:Nat):Int))) fun r=>r=(bif decide (w<0)||decide ((fs.length:Int)<w)then j3H ((mostD d+1:Nat):Int) (writeAll (takeW w fs) d)else writeAll (takeW w fs) d,((mostD d+1:Nat):Int)):=fun e=>by
      rw[j2Y N (by omega) hN2 _ (by omega) _ (by omega) (by omega),za,e]
      cases decide (w<0)with
      |true=>exact Def.ret rfl
      |false=>cases decide ((fs.length:Int)<w)<;>exact Def.ret rfl
     dsimp only
     by_cases hlt:i<fs.length
     .rw [zb (by omega:(i:Int)<fs.length),zg]
      have wr:(decide (w<0)||decide ((i:Int)<w))=true->Def (Option.bind (idx fs (i:Int)) fun(e:EFile)=>Option.bind (j0X N (writeAll (takeW w (fs.take i)) d) e.1 e.2) fun r5=>if fits ((i:Int)+1)then go (w,((mostD d+1:Nat):Int),fs,(i:Int)+1,r5)else none) fun r=>r=(bif decide (w<0)||decide ((fs.length:Int)<w)then j3H ((mostD d+1:Nat):Int) (writeAll (takeW w fs) d)else writeAll (takeW w fs) d,((mostD d+1:Nat):Int)):=fun e=>by
       rw[idx_at hlt,za,j13 N hN2 _ (by omega) hup,za]
       refine Def.ite (fits_nat (by omega)) (ih _ ⟨i+1,?_,hlt⟩ (by dsimp only;omega))
       rw[j1m w fs hlt,e,zg,j1C,cast_succ']
       rfl
      refine Def.bif (fun hw=>wr (by rw[hw];rfl)) (fun hw=>Def.bif (fun hiw=>wr (by rw[hiw,Bool.or_true])) (fun hiw=>?_))
      have:=done (by
       rw[decide_eq_false_iff_not]at hw hiw
       unfold takeW
       rw[zd hw,ze,ze,List.take_take,zcq (by omega)])
      exact this
     .rw [zd (by omega:¬(i:Int)<fs.length),ze]
      exact done (by rw[zba (by omega)])
end Go.Proofs.YtcinmmojlcchfaaGreatDoor
