import Derived.Test.YtcinmmojlcchfaaGreatDoorSG1
set_option linter.unusedVariables false
set_option linter.unusedSimpArgs false
namespace Go.Proofs.YtcinmmojlcchfaaGreatDoor
open Go.RowKit
theorem j1T {c:UInt8} (h:digB c=true):48<=c.toNat/\c.toNat<=57:=by
 unfold digB at h
 rw[zj,zw,zw]at h
 exact h
theorem j1l :∀(l:List UInt8) (acc:Nat),(∀c,c∈l->digB c=true)->numD acc l<(acc+1)*10^l.length
 | [],acc,_=>by show acc<(acc+1)*10^0;omega
 |c::l,acc,h=>by
  have hc:=j1T (h c zy)
  have:=j1l l (acc*10+(c.toNat-48)) fun x hx=>h x (zl _ hx)
  have e:numD acc (c::l)=numD (acc*10+(c.toNat-48)) l:=rfl
  rw[e]
  refine zbi this ?_
  rw[zi,Nat.pow_succ,zbx (10^l.length) 10,<-Nat.mul_assoc]
  exact zag _ (by omega)
theorem j3w {s:List UInt8} (hd:∀c,c∈s->digB c=true) (hne:s≠ []) (hb:numD 0 s<1000000000000000000):atoiN s=(numD 0 s:Int):=by
 cases s with
 |nil=>exact absurd rfl hne
 |cons c r=>
  have hc:=j1T (hd c zy)
  have hp:=jXL (c::r) 0 hd hb
  unfold atoiN
  rw[Lib.atoiAll_plain c r (by omega) (by omega)]
  unfold Lib.parseMag
  rw[zu (by simp),hp]
  unfold Lib.signless
  dsimp only
  rw[zu (by omega:¬9223372036854775808<=numD 0 (c::r))]
def midN (nm:List UInt8):List UInt8:=(nm.drop 3).take 4
theorem j1v {nm:List UInt8} (h:7<=nm.length):cut nm 3 7=some (midN nm):=by
 unfold cut midN
 rw[zf ⟨by omega,by omega,by omega⟩]
 show some ((nm.take 7).drop 3)=_
 rw[List.drop_take]
theorem j01 {nm:List UInt8} (h:7<=nm.length):(midN nm).length=4:=by
 unfold midN
 rw[zah,zaQ]
 omega
theorem j1R {nm:List UInt8} (h:7<=nm.length) {i:Nat} (hi:i<4):(midN nm)[i]? =nm[3+i]? :=by
 unfold midN
 rw[zaH,zf hi,zaL]
def inB (n:Int) (nm:List UInt8):Bool:=(midN nm).all digB&&(decide ((1001:Int)<=(numD 0 (midN nm):Int))&&decide ((numD 0 (midN nm):Int)<=1000+n-1))
theorem j1I (n:Int) (nm:List UInt8):oldB n nm=(decide (7<=nm.length)&&(decide (nm.take 3=[103,101,110])||decide (nm.take 3=[115,101,103]))&&inB n nm):=rfl
theorem j2g {nm:List UInt8} (h:7<=nm.length) (hd:(midN nm).all digB=true):numD 0 (midN nm)<10000:=by
 have:=j1l (midN nm) 0 (zax.1 hd)
 rw[j01 h]at this
 omega
theorem j2x (N:Nat) (hN:16<=N) (nm:List UInt8) (h7:7<=nm.length) (n:Int) (h0:0<=n) (h1:n<=1000):
  iter (fun(go:((List UInt8)×Int×Int)->Option Bool) (g:(List UInt8)×Int×Int)=>
 match g with
 |(name2,n2,k)=>
 (bif(decide (k<7))then
 (Option.bind (idx name2 k) fun(c:UInt8)=>
 (bif(decide ((c.toNat:Int)<48))then
 (some false)
 else
 (Option.bind (idx name2 k) fun(c2:UInt8)=>
 (bif(decide ((57:Int)<(c2.toNat:Int)))then
 (some false)
 else
 (if fits (k+1)then(go (name2,n2,(k+1)))else none)))))
 else
 (Option.bind (cut name2 3 7) fun(y3:List UInt8)=>
 (Option.bind (jXn N y3) fun(r:Int)=>
 (if fits (r-1000)then(if fits (n2-1)then(Option.bind (jm N (r-1000) 1 (n2-1)) fun(r2:Bool)=>
 (some r2))else none)else none))))) N (nm,n,3)=some (inB n nm):=by
 refine Def.get ?_
 refine Def.iter (fun g=>∃k:Nat,g=(nm,n,((3+k:Nat):Int))/\k<=4/\∀j,j<k->∀c,nm[3+j]? =some c->digB c=true) (fun g=>(7-g.2.2).toNat) (fun go g hI ih=>?_) N _ ⟨0,rfl,zaf _,fun j hj=>absurd hj (Nat.not_lt_zero _)⟩ (by show((7:Int)-3).toNat<N;omega)
 obtain⟨k,rfl,hk,hd⟩:=hI
 dsimp only
 by_cases hk4:k<4
 .rw [zb (by omega:((3+k:Nat):Int)<7),zg,idx_at (by omega),za]
  have hm:(midN nm)[k]? =some nm[3+k]:=by rw[j1R h7 hk4,zc (by omega)]
  have hno:digB nm[3+k]=false->inB n nm=false:=fun e=>by
   unfold inB
   have:(midN nm).all digB=false:=by
    cases ha:(midN nm).all digB with
    |false=>rfl
    |true=>
     have:=zax.1 ha _ (zak hm)
     rw[e]at this
     cases this
   rw[this,Bool.false_and]
  refine Def.bif (fun e=>?_) (fun e=>?_)
  .rw [zw]at e
   refine Def.ret (hno ?_).symm
   unfold digB
   rw[Bool.and_eq_false_iff]
   exact .inl (zd (by omega))
  .rw [decide_eq_false_iff_not]at e
   rw[za]
   refine Def.bif (fun e2=>?_) (fun e2=>?_)
   .rw [zw]at e2
    refine Def.ret (hno ?_).symm
    unfold digB
    rw[Bool.and_eq_false_iff]
    exact .inr (zd (by omega))
   .rw [decide_eq_false_iff_not]at e2
    refine Def.ite (by unfold fits;omega) (ih _ ⟨k+1,by rw[show((3+k:Nat):Int)+1=((3+(k+1):Nat):Int)from by omega],by omega,fun j hj c hc=>?_⟩ (by dsimp only;omega))
    by_cases ej:j=k
    .subst ej
     rw[zc (by omega)]at hc
     cases hc
     unfold digB
     rw[zj]
     exact⟨zb (by omega),zb (by omega)⟩
    .exact hd j (by omega) c hc
 .have e4:k=4:=by omega
  subst e4
  have hall:(midN nm).all digB=true:=zax.2 fun c hc=>by
   obtain⟨i,hi,rfl⟩:=zav.1 hc
   rw[j01 h7]at hi
   refine hd i hi _ ?_
   rw[<-j1R h7 hi,zc]
  have hs:=j2g h7 hall
  have hm4:=j01 h7
  have ha:jXn N (midN nm)=some (atoiN (midN nm)):=atoiM_one (by omega)
  rw[zd (by omega:¬((3+4:Nat):Int)<7),ze,j1v h7,za,ha,za,j3w (zax.1 hall) (fun e=>by rw[e]at hm4;cases hm4) (by omega)]
  refine Def.ite (by unfold fits;omega) (Def.ite (by unfold fits;omega) ?_)
  have hw:jm N ((numD 0 (midN nm):Int)-1000) 1 (n-1)=some (decide ((1001:Int)<=(numD 0 (midN nm):Int))&&decide ((numD 0 (midN nm):Int)<=1000+n-1)):=by
   unfold jm
   by_cases e1:(1001:Int)<=(numD 0 (midN nm):Int)
   .rw [zb (by omega:(1:Int)<=(numD 0 (midN nm):Int)-1000),zg,zb e1,zaj]
    congr 1
    exact decide_eq_decide.2 (by omega)
   .rw [zd (by omega:¬(1:Int)<=(numD 0 (midN nm):Int)-1000),ze,zd e1,Bool.false_and]
  rw[hw,za]
  refine Def.ret ?_
  unfold inB
  rw[hall,zaj]
theorem j1F {nm:List UInt8} (h:7<=nm.length):cut nm 0 3=some (nm.take 3):=by
 unfold cut
 rw[zf ⟨by omega,by omega,by omega⟩]
 rfl
theorem j1K (N:Nat) (hN:16<=N) (nm:List UInt8) (n:Int) (h0:0<=n) (h1:n<=1000):j07 N nm n=some (oldB n nm):=by
 rw[j1I]
 unfold j07
 by_cases h7:7<=nm.length
 .rw [zd (by omega:¬(nm.length:Int)<7),ze,j1F h7,za,zb h7,zaj]
  have hl:=j2x N hN nm h7 n h0 h1
  by_cases e1:nm.take 3=[103,101,110]
  .rw [zb e1,zn,ze,Bool.true_or,zaj]
   exact hl
  .rw [zd e1,zaI,zg,za,zbf]
   by_cases e2:nm.take 3=[115,101,103]
   .rw [zb e2,zn,ze,zaj]
    exact hl
   .rw [zd e2,zaI,zg,Bool.false_and]
 .rw [zb (by omega:(nm.length:Int)<7),zg,zd h7]
  rfl
theorem j0W (n:Int) (f:EFile) (d:List EFile):j3H n (d++ [f])=j3H n d++(bif oldB n f.1 then []else [f]):=by
 unfold j3H
 rw[za6]
 congr 1
 cases h:oldB n f.1 with
 |true=>rw[List.filter_cons_of_neg (by rw[h];decide)];rfl
 |false=>rw[List.filter_cons_of_pos (by rw[h];rfl)];rfl
theorem j0R {α:Type} {l:List α} {n:Nat} (h:n<l.length):l.take (n+1)=l.take n++ [l[n]]:=by
 rw[List.take_add_one,zc h]
 rfl
theorem j3r (N:Nat) (hN:16<=N) (hN2:N<=16777216) (s:List EFile) (hs:s.length<N) (n:Int) (h0:0<=n) (h1:n<=1000):Def (j03 N s n) fun r=>r.2=s/\((r.1=-1/\j3H n s=s)\/ ∃i:Nat,r.1=(i:Int)/\i<s.length/\j3H n (s.take (i+1))=s.take i):=by
 unfold j03
 refine Def.iter (fun g=>∃k:Nat,g=(s,n,(s.length:Int),(k:Int))/\k<=s.length/\j3H n (s.take k)=s.take k) (fun g=>((s.length:Int)-g.2.2.2).toNat) (fun go g hI ih=>?_) N _ ⟨0,rfl,zaf _,rfl⟩ (by show((s.length:Int)-0).toNat<N;omega)
 obtain⟨k,rfl,hk,hd⟩:=hI
 dsimp only
 by_cases hlt:k<s.length
 .have e1:j0U N s[k].1 s[k].2 n=some (oldB n s[k].1):=by
   unfold j0U
   rw[j1K N hN _ n h0 h1,za]
  rw[zb (by omega:(k:Int)<s.length),zg,zf ⟨by omega,by omega⟩,zai,zc hlt,za,e1,za]
  refine Def.bif (fun e=>Def.ret ⟨rfl,.inr ⟨k,rfl,hlt,?_⟩⟩) (fun e=>Def.ite (fits_nat (by omega)) (ih _ ⟨k+1,by rw[cast_succ'],by omega,?_⟩ (by dsimp only;omega)))
  .rw [j0R hlt,j0W,e,hd,zg,zat]
  .rw [j0R hlt,j0W,e,hd,ze]
 .rw [zd (by omega:¬(k:Int)<s.length),ze]
  refine Def.ret ⟨rfl,.inl ⟨rfl,?_⟩⟩
  rwa[zba (by omega)]at hd
theorem j1W (N:Nat) (hN:16<=N) (hN2:N<=16777216) (s:List EFile) (hs:s.length<N) (n:Int) (h0:0<=n) (h1:n<=1000):j02 N s n=some (j3H n s):=by
 refine Def.get ?_
 unfold j02
 refine Def.bind (j3r N hN hN2 s hs n h0 h1) fun r ⟨e1,h⟩=>?_
 rcases h with⟨e2,e3⟩|⟨i,e2,hi,e3⟩
 .rw [e2,zb rfl,zg,e1]
  exact Def.ret e3.symm
 .rw [e1,e2,zd (by omega:¬(i:Int)=-1),ze]
  refine Def.ite (fits_nat (by omega)) ?_
  refine Def.iter (fun g=>∃(a b:Nat) (t:List EFile),g=(t,n,(a:Int),(b:Int))/\a<b/\b<=s.length/\t.length=s.length/\t.take a=j3H n (s.take b)/\t.drop b=s.drop b) (fun g=>((s.length:Int)-g.2.2.2).toNat) (fun go g hI ih=>?_) N _ ⟨i,i+1,s,by rw[cast_succ'],by omega,hi,rfl,e3.symm,rfl⟩ (by show((s.length:Int)-((i:Int)+1)).toNat<N;omega)
  obtain⟨a,b,t,rfl,hab,hb,hl,ht,hdr⟩:=hI
  dsimp only
  by_cases hlt:b<s.length
  .have hlt':b<t.length:=by omega
   have e4:t[b]=s[b]:=by
    have h5:=congrArg (fun l:List EFile=>l[0]?) hdr
    simp only[zaL,Nat.add_zero]at h5
    rw[zc hlt',zc hlt]at h5
    exact Option.some.inj h5
   have e5:j0U N t[b].1 t[b].2 n=some (oldB n s[b].1):=by
    unfold j0U
    rw[e4,j1K N hN _ n h0 h1,za]
   rw[zb (by omega:(b:Int)<t.length),zg,zf ⟨by omega,by omega⟩,zai,zc hlt',za,e5,za]
   have hdr2:t.drop (b+1)=s.drop (b+1):=by
    have:=congrArg (List.drop 1) hdr
    rwa[zcc,zcc]at this
   refine Def.bif (fun e=>?_) (fun e=>?_)
   .rw [zb2]at e
    rw[zf ⟨by omega,by omega⟩,zai,zc (by omega:a<t.length),za]
    refine Def.ite (fits_nat (by omega)) (Def.ite (fits_nat (by omega)) (ih _ ⟨a+1,b+1,t.set a t[b],by rw[cast_succ',cast_succ'],by omega,hlt,by rw[zap];exact hl,?_,?_⟩ (by dsimp only;omega)))
    .rw [j0R hlt,j0W,e,ze,<-ht,j0R (by rw[zap];omega:a<(t.set a t[b]).length),zaG,List.take_set_of_le (zae _),e4]
    .rw [List.drop_set_of_lt (by omega)]
     exact hdr2
   .rw [Bool.not_eq_false']at e
    refine Def.ite (fits_nat (by omega)) (ih _ ⟨a,b+1,t,by rw[cast_succ'],by omega,hlt,hl,?_,hdr2⟩ (by dsimp only;omega))
    rw[j0R hlt,j0W,e,zg,zat]
    exact ht
  .have eb:b=s.length:=by omega
   subst eb
   rw[zd (by omega:¬(s.length:Int)<(t.length:Int)),ze]
   refine Def.cut (by omega) (by omega) (by omega) (Def.cut (by omega) (by omega) (by rw[zam,zam,zah];omega) (Def.ret ?_))
   rw[zai,show Int.toNat 0=0 from rfl,List.drop_zero,zao,List.take_append_of_le_length (by rw[zah];omega),List.take_take,Nat.min_self,ht,zba (zae _)]
theorem j15 {nm:List UInt8} (h:7<=nm.length) (n:Int):(decide ((1001:Int)<=numS (midN nm))&&decide (numS (midN nm)<=1000+n-1))=inB n nm:=by
 have hl:=j01 h
 have hne:midN nm≠ []:=fun e=>by rw[e]at hl;cases hl
 unfold inB numS
 cases ha:(midN nm).all digB with
 |false=>rfl
 |true=>
  rw[zaj,zaj,zb (by omega:(midN nm).length<=9),zaj,zb hne,zaj,zb (by omega:1<(midN nm).length),zaj]
  by_cases e:(midN nm).head? =some 48
  .rw [zb e]
   have hz:numD 0 (midN nm)<1000:=by
    match hm:midN nm,hl with
    |c::r,hl=>
     rw[hm]at e ha
     have e:c=48:=Option.some.inj e
     subst e
     have:=j1l r 0 fun x hx=>zax.1 ha x (zl _ hx)
     have hr:r.length=3:=by rw[zi]at hl;omega
     rw[hr]at this
     exact this
   rw[zd (by omega:¬(1001:Int)<=(numD 0 (midN nm):Int))]
   rfl
  .rw [zd e]
   rfl
theorem j2p (N:Nat) (n a b:Int):jJ N n a b=some (decide (a<=n)&&decide (n<=b)):=by
 unfold jJ
 cases decide (a<=n)<;>rfl
theorem j2Y (N:Nat) (hN:16<=N) (hN2:N<=16777216) (d:List EFile) (hd:d.length<N) (n:Int) (h0:0<=n) (h1:n<=1000):j0S N d n=some (j3H n d):=by
 refine Def.get ?_
 unfold j0S
 refine Def.iter (fun g=>∃(k:Nat),g=(n,(k:Int),d,j3H n (d.take k))/\k<=d.length) (fun g=>((d.length:Int)-g.2.1).toNat) (fun go g hI ih=>?_) N _ ⟨0,rfl,zaf _⟩ (by show((d.length:Int)-0).toNat<N;omega)
 obtain⟨k,rfl,hk⟩:=hI
 dsimp only
 by_cases hlt:k<d.length
 .have hol:(j3H n (d.take k)).length<=d.length:=by
   have:=zbh (fun f:EFile=> !oldB n f.1) (d.take k)
   unfold j3H
   rw[zah]at this
   omega
  have keep:oldB n d[k].1=false->Def (if room (j3H n (d.take k)).length ([d[k]]:List EFile).length 32 then if fits ((k:Int)+1)then go (n,(k:Int)+1,d,j3H n (d.take k)++ [d[k]])else none else none) fun r=>r=j3H n d:=fun e=>by
   refine Def.ite (room_of (by rw[zbE];omega) (by rw[zbE];omega)) (Def.ite (fits_nat (by omega)) (ih _ ⟨k+1,?_,hlt⟩ (by dsimp only;omega)))
   rw[j0R hlt,j0W,e,cast_succ']
   rfl
  have pass:oldB n d[k].1=true->Def (if fits ((k:Int)+1)then go (n,(k:Int)+1,d,j3H n (d.take k))else none) fun r=>r=j3H n d:=fun e=>by
   refine Def.ite (fits_nat (by omega)) (ih _ ⟨k+1,?_,hlt⟩ (by dsimp only;omega))
   rw[j0R hlt,j0W,e,cast_succ',zg,zat]
  have ho:=j1I n d[k].1
  rw[zb (by omega:(k:Int)<d.length),zg,idx_at hlt,za]
  by_cases h7:7<=d[k].1.length
  .rw [zb h7,zaj]at ho
   have hm4:=j01 h7
   have hn:=numS_spec N (midN d[k].1) (by omega)
   have hnum:=j15 h7 n
   rw[zb (by omega:(7:Int)<=d[k].1.length),zg,j1F h7]
   simp only[za]
   have look:(decide (d[k].1.take 3=[103,101,110])||decide (d[k].1.take 3=[115,101,103]))=true->Def (Option.bind (cut d[k].1 3 7) fun(y2:List UInt8)=>Option.bind (s_l1Num_m N y2) fun(r:Int)=>if fits (1000+n)then if fits (1000+n-1)then Option.bind (jJ N r 1001 (1000+n-1)) fun(r2:Bool)=>bif(!r2)then(if room (j3H n (d.take k)).length ([d[k]]:List EFile).length 32 then if fits ((k:Int)+1)then go (n,(k:Int)+1,d,j3H n (d.take k)++ [d[k]])else none else none)else if fits ((k:Int)+1)then go (n,(k:Int)+1,d,j3H n (d.take k))else none else none else none) fun r=>r=j3H n d:=fun e=>by
    rw[e,zaj]at ho
    rw[j1v h7,za,hn,za]
    refine Def.ite (by unfold fits;omega) (Def.ite (by unfold fits;omega) ?_)
    rw[j2p,za,hnum,<-ho]
    refine Def.bif (fun e3=>?_) (fun e3=>?_)
    .rw [zb2]at e3
     exact keep e3
    .rw [Bool.not_eq_false']at e3
     exact pass e3
   by_cases e1:d[k].1.take 3=[103,101,110]
   .rw [zb e1,zg]
    exact look (by rw[zb e1];rfl)
   .rw [zd e1,ze]
    by_cases e2:d[k].1.take 3=[115,101,103]
    .rw [zb e2,zg]
     exact look (by rw[zb e2,Bool.or_true])
    .rw [zd e2,ze]
     rw[zd e1,zd e2]at ho
     exact keep ho
  .rw [zd (by omega:¬(7:Int)<=d[k].1.length),ze]
   simp only[za]
   rw[zd h7]at ho
   exact keep ho
 .rw [zd (by omega:¬(k:Int)<d.length),ze]
  refine Def.ret ?_
  rw[zba (by omega)]
theorem j1z {g:EFile} {d:List EFile} (h:UpN (g::d)):(∀x,x∈d->Op.bytesLess g.1 x.1=true)/\UpN d:=zas.1 h
theorem j1E (f:EFile):∀(d:List EFile),UpN d->∀(k:Nat) (g:EFile),d[k]? =some g->g.1=f.1->writeD f d=d.set k f
 | [],_,k,g,hk,_=>by simp at hk
 |x::d,h,0,g,hk,e=>by
  obtain rfl:x=g:=by simpa using hk
  unfold writeD
  rw[zf e]
  rfl
 |x::d,h,k+1,g,hk,e=>by
  obtain⟨h1,h2⟩:=j1z h
  have hk':d[k]? =some g:=by simpa using hk
  have hlt:=h1 g (zak hk')
  rw[e]at hlt
  have hne:x.1≠f.1:=fun e2=>by rw[e2,bl_irrefl]at hlt;cases hlt
  unfold writeD
  rw[zu hne,zf hlt,j1E f d h2 k g hk' e]
  rfl
theorem j1M (f:EFile):∀d:List EFile,(∀g,g∈d->g.1≠f.1)->(writeD f d).Perm (d++ [f])
 | [],_=>List.Perm.refl _
 |x::d,h=>by
  have ih:=j1M f d fun g hg=>h g (zl _ hg)
  unfold writeD
  rw[zu (h x zy)]
  split
  .exact ih.cons x
  .exact List.perm_append_singleton f (x::d)|>.symm
theorem j3d (N:Nat) (x y:List UInt8):jam N x y=some (if Op.bytesLess x y then-1 else if Op.bytesLess y x then 1 else 0):=by
 unfold jam
 have h:∀z:List UInt8,jbn N z=some false:=fun z=>by unfold jbn;simp
 rw[h,h]
 simp only[za,ze]
 rw[jqg]
 cases h1:Op.bytesLess x y
 .cases h2:Op.bytesLess y x<;>simp
 .simp
theorem j1A {α β:Type} (f:α->β):∀ {l:List α},l.Pairwise (fun x y=>f x≠f y)->∀ {x y:α},x∈l->y∈l->f x=f y->x=y
 | [],_,x,y,hx,_,_=>by cases hx
 |z::l,h,x,y,hx,hy,e=>by
  obtain⟨h1,h2⟩:=zas.1 h
  rcases zp.1 hx with ex|hx2
  .rcases zp.1 hy with ey|hy2
   .exact ex.trans ey.symm
   .exact absurd (ex▸e) (h1 y hy2)
  .rcases zp.1 hy with ey|hy2
   .exact absurd (ey▸e.symm) (h1 x hx2)
   .exact j1A f h2 hx2 hy2 e
theorem j2i (f g:EFile) (d:List EFile):writeD f (g::d)=if g.1=f.1 then f::d else if Op.bytesLess g.1 f.1=true then g::writeD f d else f::g::d:=rfl
def ltF (a b:EFile):Bool:=Op.bytesLess a.1 b.1
theorem j2Q :WOrd ltF:=⟨fun x y h=>bl_asym h,fun x y z h k=>by
 unfold ltF at*
 cases hz:Op.bytesLess z.1 x.1 with
 |false=>rfl
 |true=>
  by_cases e:x.1=y.1
  .rw [e]at hz;rw[hz]at k;cases k
  .have h1:Op.bytesLess x.1 y.1=true:=bl_total h (Ne.symm e)
   rw[bl_trans hz h1]at k
   cases k⟩
theorem j1U (N:Nat) (hN:64<=N) (hN2:N<=16777216) (nm t:List UInt8) (b:List EFile) (hb:b.length+1<N) (hu:UpN b):j0Y N nm t b=some (writeD (nm,t) b):=by
 refine Def.get ?_
 unfold j0Y
 refine Def.iter (fun g=>∃k:Nat,g=(nm,t,(b.length:Int),(k:Int),b)/\k<=b.length/\∀g,g∈b.take k->g.1≠nm) (fun g=>((b.length:Int)-g.2.2.2.1).toNat) (fun go g hI ih=>?_) N _ ⟨0,rfl,zaf _,fun g hg=>by simp at hg⟩ (by show((b.length:Int)-0).toNat<N;omega)
 obtain⟨k,rfl,hk,hn⟩:=hI
 dsimp only
 by_cases hlt:k<b.length
 .rw [zb (by omega:(k:Int)<b.length),zg,zf ⟨by omega,by omega⟩,zai,zc hlt,za]
  by_cases e:b[k].1=nm
  .rw [zb e,zg,zf ⟨by omega,by omega⟩,za]
   refine Def.ret ?_
   rw[j1E (nm,t) b hu k b[k] (zc hlt) e,e]
  .rw [zd e,ze]
   refine Def.ite (fits_nat (by omega)) (ih _ ⟨k+1,by rw[cast_succ'],hlt,fun g hg=>?_⟩ (by dsimp only;omega))
   rw[j0R hlt,zaB,zaD]at hg
   rcases hg with hg|rfl
   .exact hn g hg
   .exact e
 .have ek:k=b.length:=by omega
  subst ek
  rw[zba (zae _)]at hn
  rw[zd (by omega:¬(b.length:Int)<(b.length:Int)),ze]
  refine Def.ite (room_of (by rw[zbE];omega) (by rw[zbE];omega)) ?_
  refine Def.bind (sortWk_581 ltF j2Q N hN2 (by omega) (b++ [(nm,t)]) () ⟨fun x _ y _=>?_⟩ (by rw[zam,zbE];omega)) fun r ⟨h1,h2⟩=>Def.ret ?_
  .have e2:cmp581 N () x y=some (if Op.bytesLess x.1 y.1 then-1 else if Op.bytesLess y.1 x.1 then 1 else 0):=by
    show j08 N x.1 x.2 y.1 y.2=_
    unfold j08
    rw[j3d,za]
   refine⟨_,e2,?_⟩
   unfold ltF
   cases hxy:Op.bytesLess x.1 y.1 with
   |true=>rfl
   |false=>cases Op.bytesLess y.1 x.1<;>rfl
  .have h3:=j1M (nm,t) b hn
   have h4:=j3W (nm,t) b hu
   have hd:(b++ [(nm,t)]).Pairwise fun x y=>x.1≠y.1:=by
    rw[List.pairwise_append]
    refine⟨hu.imp (fun {x y} h e=>by rw[e,bl_irrefl]at h;cases h),List.pairwise_singleton _ _,fun x hx y hy=>?_⟩
    rw[zaD]at hy
    rw[hy]
    exact hn x hx
   refine List.Perm.eq_of_pairwise (le:=fun x y=>ltF y x=false) (fun x y hx hy k1 k2=>?_) h2 (h4.imp fun {x y} h=>bl_asym h) (h1.trans h3.symm)
   have e:x.1=y.1:=by
    by_cases e:x.1=y.1
    .exact e
    .have:=bl_total k2 e
     unfold ltF at k1
     rw[this]at k1
     cases k1
   exact j1A (fun x:EFile=>x.1) hd (h1.mem_iff.1 hx) (h3.mem_iff.1 hy) e
theorem j13 (N:Nat) (hN2:N<=16777216) (d:List EFile) (hd:d.length+1<N) (hu:UpN d) (nm t:List UInt8):j0X N d nm t=some (writeD (nm,t) d):=by
 refine Def.get ?_
 unfold j0X
 refine Def.iter (fun g=>∃(k:Nat) (out:List EFile),out.length<=2*k/\k<=d.length/\((g=(false,(k:Int),d,nm,t,out)/\out++writeD (nm,t) (d.drop k)=writeD (nm,t) d)\/(g=(true,(k:Int),d,nm,t,out)/\out++d.drop k=writeD (nm,t) d/\∀g,g∈d.drop k->g.1≠nm))) (fun g=>((d.length:Int)-g.2.1).toNat) (fun go g hI ih=>?_) N _ ⟨0,[],zaf _,zaf _,.inl ⟨rfl,rfl⟩⟩ (by show((d.length:Int)-0).toNat<N;omega)
 obtain⟨k,out,ho,hk,hI⟩:=hI
 by_cases hlt:k<d.length
 .have hcons:=zan hlt
  have hup:UpN (d.drop k):=hu.sublist (List.drop_sublist _ _)
  rw[hcons]at hup hI
  rw[j2i]at hI
  obtain⟨u1,u2⟩:=j1z hup
  have rm:∀(o:List EFile) (x:EFile),o.length<=2*k+1->room o.length ([x]:List EFile).length 32:=fun o x h=>room_of (by rw[zbE];omega) (by rw[zbE];omega)
  have fk:fits ((k:Int)+1):=fits_nat (by omega)
  have hne:∀g,g∈d.drop (k+1)->Op.bytesLess d[k].1 nm=false->g.1≠nm:=fun g hg h e2=>by
   have:=u1 g hg
   rw[e2,h]at this
   cases this
  rcases hI with⟨rfl,hw⟩|⟨rfl,hw,hno⟩
  .dsimp only
   rw[zb (by omega:(k:Int)<d.length),zg]
   cases hl:Op.bytesLess d[k].1 nm with
   |false=>
    rw[hl]at hw
    refine Def.meet (fun g=>g=(true,(k:Int),d,nm,t,out++ [(nm,t)])) (fun g hg=>?_) (fun J hJ=>?_)
    .subst hg
     dsimp only
     rw[idx_at hlt,za]
     by_cases e:d[k].1=nm
     .rw [zf e]at hw
      rw[zb e,zn,ze]
      refine Def.ite fk (ih _ ⟨k+1,out++ [(nm,t)],by rw[zam,zbE];omega,hlt,.inr ⟨by rw[cast_succ'],by rw[zao];exact hw,fun g hg=>hne g hg hl⟩⟩ (by dsimp only;omega))
     .rw [zu e,zu (by decide)]at hw
      rw[zd e,zaI,zg,za]
      refine Def.ite (rm _ _ (by rw[zam,zbE];omega)) (Def.ite fk (ih _ ⟨k+1,out++ [(nm,t)]++ [d[k]],?_,hlt,.inr ⟨by rw[cast_succ'],by rw[zao,zao];exact hw,fun g hg=>hne g hg hl⟩⟩ (by dsimp only;omega)))
      rw[zam,zam,zbE,zbE];omega
    .rw [zaI,zg,idx_at hlt,za,hl,zaI,zg]
     exact Def.ite (rm _ _ (by omega)) (hJ _ rfl)
   |true=>
    have e:d[k].1≠nm:=fun e=>by rw[e,bl_irrefl]at hl;cases hl
    rw[zu e,hl,zf rfl]at hw
    refine Def.meet (fun g=>g=(false,(k:Int),d,nm,t,out)) (fun g hg=>?_) (fun J hJ=>?_)
    .subst hg
     dsimp only
     rw[idx_at hlt,za,zd e,zaI,zg,za]
     exact Def.ite (rm _ _ (by omega)) (Def.ite fk (ih _ ⟨k+1,out++ [d[k]],by rw[zam,zbE];omega,hlt,.inl ⟨by rw[cast_succ'],by rw[zao];exact hw⟩⟩ (by dsimp only;omega)))
    .rw [zaI,zg,idx_at hlt,za,hl,zn,ze]
     exact hJ _ rfl
  .have e:=hno d[k] zy
   dsimp only
   rw[zb (by omega:(k:Int)<d.length),zg]
   refine Def.meet (fun g=>g=(true,(k:Int),d,nm,t,out)) (fun g hg=>?_) (fun J hJ=>?_)
   .subst hg
    dsimp only
    rw[idx_at hlt,za,zd e,zaI,zg,za]
    exact Def.ite (rm _ _ (by omega)) (Def.ite fk (ih _ ⟨k+1,out++ [d[k]],by rw[zam,zbE];omega,hlt,.inr ⟨by rw[cast_succ'],by rw[zao];exact hw,fun g hg=>hno g (zl _ hg)⟩⟩ (by dsimp only;omega)))
   .rw [zn,ze]
    exact hJ _ rfl
 .rw [zbw (by omega)]at hI
  rcases hI with⟨rfl,hw⟩|⟨rfl,hw,_⟩
  .dsimp only
   rw[zd (by omega:¬(k:Int)<d.length),ze,zaI,zg]
   exact Def.ite (room_of (by rw[zbE];omega) (by rw[zbE];omega)) (Def.ret hw)
  .dsimp only
   rw[zd (by omega:¬(k:Int)<d.length),ze,zn,ze]
   rw[zat]at hw
   exact Def.ret hw
theorem j1y (o:Option (List UInt8)):(outF o).2=o.isSome:=by cases o<;>rfl
theorem j2U (N:Nat) (hN:1048576<N) (hN2:N<=16777216) (d:List EFile) (hd:d.length<N):j04 N d=some (j3F d:Int):=by
 refine Def.get ?_
 unfold j04
 refine Def.iter (fun g=>∃k:Nat,g=((k:Int),d)/\k<=99/\j3K d k=j3F d) (fun g=>g.1.toNat) (fun go g hI ih=>?_) N _ ⟨99,rfl,zae _,rfl⟩ (by show(99:Int).toNat<N;omega)
 obtain⟨k,rfl,hk,e⟩:=hI
 dsimp only
 cases k with
 |zero=>
  rw[zd (by decide:¬(1:Int)<=((0:Nat):Int)),ze]
  refine Def.ret ?_
  rw[<-e]
  rfl
 |succ k=>
  rw[zb (by omega:(1:Int)<=((k+1:Nat):Int)),zg,gen_s N hN hN2 _ (by omega) (by omega),za,file_s N d _ hd hN2,za,j1y]
  unfold j3K at e
  cases hf:(fileD d (genN ((k+1:Nat):Int))).isSome with
  |true=>
   rw[hf,zg]at e
   rw[zg,<-e]
   exact Def.ret rfl
  |false=>
   rw[hf,ze]at e
   rw[ze]
   exact Def.ite (by unfold fits;omega) (ih _ ⟨k,by rw[show((k+1:Nat):Int)-1=(k:Int)from by omega],by omega,e⟩ (by dsimp only;omega))
theorem j05 (n:Int):∀(ls:List ELive) (k i:Nat) (h:i<ls.length),j3I n k (ls.drop i)=(segN n (k:Int),liveT ls[i].1.1 ls[i].2)::j3I n (k+1) (ls.drop (i+1)):=fun ls k i h=>by
 rw[zan h]
 rfl
theorem j1b {n k:Int} (h1:0<=n) (h2:n<=1000) (h3:0<=k) (h4:k<=1000):(segN n k).length<=44:=by
 have e1:=itoa_len20 (n:=1000+n) (by omega) (by omega)
 have e2:=itoa_len20 (n:=k) (by omega) (by omega)
 unfold segN
 simp only[zam,zi,zac]
 omega
theorem j1f {f:EFile} (h:f.1.length<=44):(j3L f++ [10]).length<=70:=by
 have h1:=crcT_lt f.2
 have e1:=itoa_len20 (n:=(crcT f.2:Int)) (by omega) (by omega)
 unfold j3L
 simp only[zam,zi,zac]
 omega
def manR (fs:List EFile):List UInt8:=linesT (fs.map j3L)
theorem j1e (f:EFile) (fs:List EFile):manR (f::fs)=(j3L f++ [10])++manR fs:=by
 unfold manR
 rw[zv,linesT_cons,zao]
 rfl
theorem j1h {c:EConf} {l:ELive} (h:okIdx (c,[l])=true):(liveT l.1.1 l.2).length<=1048576:=(oneL h).small
theorem j21 {N:Nat} (hN:1048600<=N) (hN2:N<=16777216) (x:EIndex) (oc:okD Sm TConf x.1) (hk:okIdx x=true) (n:Int) (h0:0<=n) (h1:n<=1000):j09 N x.1.1 x.1.2 x.2 n=some (j3J x n):=by
 have hM:Sm<N:=by show 1048576<N;omega
 have hl5:x.2.length<=5:=(okIdx_ok hk).2.1
 refine Def.get ?_
 unfold j09
 refine Def.iter (fun g=>∃(i:Nat) (out:List EFile) (gen:List UInt8),g=(n,out,gen,(i:Int),x.1.1,x.1.2,x.2)/\i<=x.2.length/\out.length=i/\gen.length<=70*i/\out++j3I n i (x.2.drop i)=j3I n 0 x.2/\gen++manR (j3I n i (x.2.drop i))=manR (j3I n 0 x.2)) (fun g=>((x.2.length:Int)-g.2.2.2.1).toNat) (fun go g hI ih=>?_) N _ ⟨0,[],[],rfl,zaf _,rfl,zaf _,rfl,rfl⟩ (by show((x.2.length:Int)-0).toNat<N;omega)
 obtain⟨i,out,gen,rfl,hi,ho,hg,e1,e2⟩:=hI
 dsimp only
 by_cases hlt:i<x.2.length
 .have hsub:okIdx (x.1,[x.2[i]])=true:=jZP hk (zr hlt)
  have z:SizL x.2[i].1.1 x.2[i].2:=(fitMany hM hN2 oc (xs:=[x.2[i]]) (by simp) (fun l hl=>by rw[zaD]at hl;rw[hl];exact hsub)).siz hsub
  have ht:=j1h hsub
  have hc:=crcT_lt (liveT x.2[i].1.1 x.2[i].2)
  have a1:=dec_spec N N (by omega) (by omega) (1000+n) (by omega) (by omega)
  have a2:=dec_spec N N (by omega) (by omega) (i:Int) (by omega) (by omega)
  have a3:=dec_spec N N (by omega) (by omega) (crcT (liveT x.2[i].1.1 x.2[i].2):Int) (by omega) (by omega)
  have b1:=itoa_len20 (n:=1000+n) (by omega) (by omega)
  have b2:=itoa_len20 (n:=(i:Int)) (by omega) (by omega)
  have b3:=itoa_len20 (n:=(crcT (liveT x.2[i].1.1 x.2[i].2):Int)) (by omega) (by omega)
  have b4:=j1b h0 h1 (k:=(i:Int)) (by omega) (by omega)
  unfold itoaL at a1 a2 a3
  have seg:([115,101,103]++Lib.itoa (1000+n))++ [120]++Lib.itoa (i:Int)=segN n (i:Int):=rfl
  rw[zb (by omega:(i:Int)<x.2.length),zg]
  refine Def.ite (by unfold fits;omega) ?_
  rw[a1,za]
  refine Def.ite (by simp only[zi,zac];omega) (Def.ite (by simp only[zam,zi,zac];omega) ?_)
  rw[a2,za]
  refine Def.ite (by simp only[zam,zi,zac];omega) ?_
  rw[idx_at hlt,za,seg_s N (by omega) hN2 x.2[i] z,za,seg]
  refine Def.ite (room_of (by rw[zbE];omega) (by rw[zbE];omega)) (Def.ite (by omega) (Def.ite (by simp only[zam,zi,zac];omega) ?_))
  rw[crc_s N (by omega) _ (by omega) (by omega),za,a3,za]
  refine Def.ite (by simp only[zam,zi,zac];omega) (Def.ite (by simp only[zam,zi,zac];omega) (Def.ite (fits_nat (by omega)) (ih _ ⟨i+1,out++ [(segN n (i:Int),liveT x.2[i].1.1 x.2[i].2)],gen++(j3L (segN n (i:Int),liveT x.2[i].1.1 x.2[i].2)++ [10]),?_,hlt,by rw[zam,ho];rfl,?_,?_,?_⟩ (by dsimp only;omega))))
  .rw [cast_succ']
   unfold j3L
   simp only[zao]
  .have:=j1f (f:=(segN n (i:Int),liveT x.2[i].1.1 x.2[i].2)) b4
   rw[zam]
   omega
  .rw [<-e1,j05 n x.2 i i hlt,zao]
   rfl
  .rw [<-e2,j05 n x.2 i i hlt,j1e,zao]
 .rw [zbw (by omega)]at e1 e2
  have e1:out=j3I n 0 x.2:=by rw[<-e1];exact(zat _).symm
  have e2:gen=manR (j3I n 0 x.2):=by rw[<-e2];exact(zat _).symm
  rw[zd (by omega:¬(i:Int)<x.2.length),ze,gen_s N (by omega) hN2 n h0 h1,za]
  refine Def.ite (by simp only[zi,zac];omega) (Def.ite (room_of (by rw[zbE];omega) (by rw[zbE];omega)) (Def.ret ?_))
  rw[e1,e2]
  rfl
theorem j1m (w:Int) (fs:List EFile) {i:Nat} (hi:i<fs.length):j3G w (fs.take (i+1))=j3G w (fs.take i)++(bif decide (w<0)||decide ((i:Int)<w)then [fs[i]]else []):=by
 unfold j3G
 cases hw:decide (w<0)with
 |true=>rw[zg,zg,Bool.true_or,zg,j0R hi]
 |false=>
  rw[decide_eq_false_iff_not]at hw
  rw[ze,ze,zbf,List.take_take,List.take_take]
  by_cases h:(i:Int)<w
  .rw [zb h,zg,Nat.min_eq_right (by omega),Nat.min_eq_right (by omega),j0R hi]
  .rw [zd h,ze,zm (by omega),zm (by omega),zat]
theorem j1o :∀(fs d:List EFile),UpN d->UpN (writeAll fs d)
 | [],_,h=>h
 |f::fs,d,h=>by rw[writeAll_cons];exact j1o fs _ (j3W f d h)
theorem j2r (w:Int) (fs:List EFile):(j3G w fs).length<=fs.length:=by
 unfold j3G
 cases decide (w<0)with
 |true=>exact zae _
 |false=>rw[ze,zah];omega
theorem j1k (w:Int) (fs d:List EFile) (i:Nat) (hf:fs.length<=6) (hd:d.length<=24):(writeAll (j3G w (fs.take i)) d).length<=30:=by
 have h1:=writeAll_len (j3G w (fs.take i)) d
 have h2:=j2r w (fs.take i)
 rw[zah]at h2
 omega
theorem j4u (w:Int) (fs d:List EFile) (hf:fs.length<=6) (hd:d.length<=24):(writeAll (j3G w fs) d).length<=30:=by
 have:=j1k w fs d fs.length hf hd
 rwa[zba (zae _)]at this
theorem j39 (n:Int) (d:List EFile):(j3H n d).length<=d.length:=zbh _ _
def j3M (d:List EFile) (x:EIndex) (w:Int):List EFile×Int:=bif okDisk d&&okIdx x then j3O d x w else([],-1)
theorem j3N {d:List EFile} {x:EIndex} {w:Int} (h:(decide (99<j3F d+1)||decide (24<d.length+6))=true):j3O d x w=(d,0):=by unfold j3O;rw[h];rfl
theorem j3Y {d:List EFile} {x:EIndex} {w:Int} (h:(decide (99<j3F d+1)||decide (24<d.length+6))=false):j3O d x w=(bif decide (w<0)||decide (((j3J x (j3F d+1:Nat)).length:Int)<w)then j3H (j3F d+1:Nat) (writeAll (j3G w (j3J x (j3F d+1:Nat))) d)else writeAll (j3G w (j3J x (j3F d+1:Nat))) d,((j3F d+1:Nat):Int)):=by unfold j3O;rw[h];rfl
theorem j4l {N:Nat} (hN:1048600<=N) (hN2:N<=16777216) (d:List EFile) (hd:FitD d) {x:EIndex} (F:FitI N x) (w:Int):j3U N d x.1.1 x.1.2 x.2 w=some (j3M d x w):=by
 unfold j3U j3M
 rw[diskOk_s N (by omega) hN2 d hd,za]
 cases hdo:okDisk d with
 |false=>rfl
 |true=>
  rw[zn,ze,l18Ok_spec F,za]
  cases hk:okIdx x with
  |false=>rfl
  |true=>
   have P:=okDisk_ok hdo
   have hd24:d.length<=24:=P.few
   have hmost:j3F d<=99:=j3T d 99
   rw[zn,ze,zaV,zg,j2U N (by omega) hN2 d (by omega),za,zf (by unfold fits;omega)]
   have rm:room ([]:List EFile).length d.length 32:=room_of (by rw[show([]:List EFile).length=0 from rfl,zaY];omega) (by rw[show([]:List EFile).length=0 from rfl,zaY];omega)
   by_cases h99:99<j3F d+1
   .rw [zb (by omega:(99:Int)<(j3F d:Int)+1),zg,zf rm,j3N (by rw[zb h99];rfl)]
    rfl
   .rw [zd (by omega:¬(99:Int)<(j3F d:Int)+1),ze,zf (by unfold fits;omega),zf (by unfold fits;omega)]
    by_cases h24:24<d.length+6
    .rw [zb (by omega:(24:Int)<d.length+5+1),zg,zf rm,j3N (by rw[zb h24,Bool.or_true])]
     rfl
    .have hl5:x.2.length<=5:=(okIdx_ok hk).2.1
     rw[zd (by omega:¬(24:Int)<d.length+5+1),ze,zf rm,show(j3F d:Int)+1=((j3F d+1:Nat):Int)from by omega,j21 hN hN2 x F.oc hk _ (by omega) (by omega),za,j3Y (by rw[zd h99,zd h24];rfl)]
     generalize hfs:j3J x ((j3F d+1:Nat):Int)=fs
     have hfl:fs.length<=6:=by rw[<-hfs,j3X];omega
     have hU:UpN d:=P.up
     refine Def.get ?_
     refine Def.iter (fun g=>∃i:Nat,g=(w,((j3F d+1:Nat):Int),fs,(i:Int),writeAll (j3G w (fs.take i)) d)/\i<=fs.length) (fun g=>((fs.length:Int)-g.2.2.2.1).toNat) (fun go g hI ih=>?_) N _ ⟨0,by unfold j3G;cases decide (w<0)<;>simp[writeAll],zaf _⟩ (by show((fs.length:Int)-0).toNat<N;omega)
     obtain⟨i,rfl,hi⟩:=hI
     have hsm:=j1k w fs d i hfl hd24
     have hup:=j1o (j3G w (fs.take i)) d hU
     have done:j3G w (fs.take i)=j3G w fs->Def (bif decide (w<0)then Option.bind (j0S N (writeAll (j3G w (fs.take i)) d) ((j3F d+1:Nat):Int)) fun r7=>some (r7,((j3F d+1:Nat):Int))else bif decide ((fs.length:Int)<w)then Option.bind (j0S N (writeAll (j3G w (fs.take i)) d) ((j3F d+1:Nat):Int)) fun r8=>some (r8,((j3F d+1:Nat):Int))else some (writeAll (j3G w (fs.take i)) d,((j3F d+1:Nat):Int))) fun r=>r=(bif decide (w<0)||decide ((fs.length:Int)<w)then j3H ((j3F d+1:Nat):Int) (writeAll (j3G w fs) d)else writeAll (j3G w fs) d,((j3F d+1:Nat):Int)):=fun e=>by
      rw[j2Y N (by omega) hN2 _ (by omega) _ (by omega) (by omega),za,e]
      cases decide (w<0)with
      |true=>exact Def.ret rfl
      |false=>cases decide ((fs.length:Int)<w)<;>exact Def.ret rfl
     dsimp only
     by_cases hlt:i<fs.length
     .rw [zb (by omega:(i:Int)<fs.length),zg]
      have wr:(decide (w<0)||decide ((i:Int)<w))=true->Def (Option.bind (idx fs (i:Int)) fun(e:EFile)=>Option.bind (j0X N (writeAll (j3G w (fs.take i)) d) e.1 e.2) fun r5=>if fits ((i:Int)+1)then go (w,((j3F d+1:Nat):Int),fs,(i:Int)+1,r5)else none) fun r=>r=(bif decide (w<0)||decide ((fs.length:Int)<w)then j3H ((j3F d+1:Nat):Int) (writeAll (j3G w fs) d)else writeAll (j3G w fs) d,((j3F d+1:Nat):Int)):=fun e=>by
       rw[idx_at hlt,za,j13 N hN2 _ (by omega) hup,za]
       refine Def.ite (fits_nat (by omega)) (ih _ ⟨i+1,?_,hlt⟩ (by dsimp only;omega))
       rw[j1m w fs hlt,e,zg,j1C,cast_succ']
       rfl
      refine Def.bif (fun hw=>wr (by rw[hw];rfl)) (fun hw=>Def.bif (fun hiw=>wr (by rw[hiw,Bool.or_true])) (fun hiw=>?_))
      have:=done (by
       rw[decide_eq_false_iff_not]at hw hiw
       unfold j3G
       rw[zd hw,ze,ze,List.take_take,zm (by omega)])
      exact this
     .rw [zd (by omega:¬(i:Int)<fs.length),ze]
      exact done (by rw[zba (by omega)])
theorem j3j {c:EConf} {l:ELive} (h:okIdx (c,[l])=true):putLive c l=liveT l.1.1 l.2:=by
 unfold putLive
 rw[h]
 rfl
set_option maxHeartbeats 1000000 in
theorem j4n {N:Nat} (hN:1048600<=N) (hN2:N<=16777216) (d:List EFile) (hd:FitD d) {x:EIndex} (F:FitI N x) (w:Int):j3P N d x.1.1 x.1.2 x.2 w=some (j3M d x w):=by
 have hM:Sm<N:=by show 1048576<N;omega
 unfold j3P j3M
 rw[diskOk_i N (by omega) hN2 d hd,za]
 cases hdo:okDisk d with
 |false=>rfl
 |true=>
  rw[zn,ze,indexOk_spec F,za]
  cases hk:okIdx x with
  |false=>rfl
  |true=>
   have P:=okDisk_ok hdo
   have hd24:d.length<=24:=P.few
   have hl5:x.2.length<=5:=(okIdx_ok hk).2.1
   have hU:UpN d:=P.up
   have oc:=F.oc
   have rm:room ([]:List EFile).length d.length 32:=room_of (by rw[show([]:List EFile).length=0 from rfl,zaY];omega) (by rw[show([]:List EFile).length=0 from rfl,zaY];omega)
   rw[zn,ze,zaV,zg,zf rm,zaW]
   refine Def.get ?_
   refine Def.iter (fun g=>∃k:Nat,g=(w,((k+1:Nat):Int),d,x.1.1,x.1.2,x.2,d,((j3K d k+1:Nat):Int))/\k<=99) (fun g=>(100-g.2.1).toNat) (fun go g hI ih=>?_) N _ ⟨0,rfl,zaf _⟩ (by show((100:Int)-1).toNat<N;omega)
   obtain⟨k,rfl,hk99⟩:=hI
   dsimp only
   by_cases hkl:k<99
   .rw [zb (by omega:((k+1:Nat):Int)<=99),zg,gen_i N _ (by omega) (by omega),za,file_i N d _ (by omega) hN2,za,j1y]
    have hm:j3K d (k+1)=bif(fileD d (genN ((k+1:Nat):Int))).isSome then k+1 else j3K d k:=rfl
    cases hf:(fileD d (genN ((k+1:Nat):Int))).isSome with
    |true=>
     rw[hf,zg]at hm
     rw[zg]
     exact Def.ite (by unfold fits;omega) (Def.ite (by unfold fits;omega) (ih _ ⟨k+1,by simp only[hm,cast_succ'],by omega⟩ (by dsimp only;omega)))
    |false=>
     rw[hf,ze]at hm
     rw[ze]
     exact Def.ite (by unfold fits;omega) (ih _ ⟨k+1,by simp only[hm,cast_succ'],by omega⟩ (by dsimp only;omega))
   .have ek:k=99:=by omega
    subst ek
    have hmost:j3F d<=99:=j3T d 99
    rw[zd (by omega:¬((99+1:Nat):Int)<=99),ze,show j3K d 99=j3F d from rfl]
    by_cases h99:99<j3F d+1
    .rw [zb (by omega:(99:Int)<((j3F d+1:Nat):Int)),zg,j3N (by rw[zb h99];rfl)]
     exact Def.ret rfl
    .rw [zd (by omega:¬(99:Int)<((j3F d+1:Nat):Int)),ze,zf (by unfold fits;omega),zf (by unfold fits;omega)]
     by_cases h24:24<d.length+6
     .rw [zb (by omega:(24:Int)<d.length+5+1),zg,j3N (by rw[zb h24,Bool.or_true])]
      exact Def.ret rfl
     .rw [zd (by omega:¬(24:Int)<d.length+5+1),ze,j3Y (by rw[zd h99,zd h24];rfl)]
      obtain⟨n,hn⟩:∃n:Int,n=((j3F d+1:Nat):Int):=⟨_,rfl⟩
      rw[<-hn]
      have h0:0<=n:=by omega
      have h1:n<=1000:=by omega
      refine Def.iter (fun g=>∃(i:Nat) (out:List EFile) (gen:List UInt8),g=(w,out,gen,x.2,(x.2.length:Int),(i:Int),x.1.1,x.1.2,x.2,d,n)/\i<=x.2.length/\out.length=i/\gen.length<=70*i/\out++j3I n i (x.2.drop i)=j3I n 0 x.2/\gen++manR (j3I n i (x.2.drop i))=manR (j3I n 0 x.2)) (fun g=>((x.2.length:Int)-g.2.2.2.2.2.1).toNat) (fun go2 g hI ih2=>?_) N _ ⟨0,[],[],rfl,zaf _,rfl,zaf _,rfl,rfl⟩ (by show((x.2.length:Int)-0).toNat<N;omega)
      obtain⟨i,out,gen,rfl,hi,ho,hg,e1,e2⟩:=hI
      dsimp only
      by_cases hlt:i<x.2.length
      .have hsub:okIdx (x.1,[x.2[i]])=true:=jZP hk (zr hlt)
       have F1:FitI N (x.1,[x.2[i]]):=fitMany hM hN2 oc (xs:=[x.2[i]]) (by simp) (fun l hl=>by rw[zaD]at hl;rw[hl];exact hsub)
       have ht:=j1h hsub
       have hc:=crcT_lt (liveT x.2[i].1.1 x.2[i].2)
       have a1:=itoa_spec N (1000+n) (by omega) (by omega)
       have a2:=itoa_spec N (i:Int) (by omega) (by omega)
       have a3:=itoa_spec N (crcT (liveT x.2[i].1.1 x.2[i].2):Int) (by omega) (by omega)
       have b1:=itoa_len20 (n:=1000+n) (by omega) (by omega)
       have b2:=itoa_len20 (n:=(i:Int)) (by omega) (by omega)
       have b3:=itoa_len20 (n:=(crcT (liveT x.2[i].1.1 x.2[i].2):Int)) (by omega) (by omega)
       have b4:=j1b h0 h1 (k:=(i:Int)) (by omega) (by omega)
       have hp:i_LivePut_m N x.1.1 x.1.2 x.2[i].1.1 x.2[i].1.2 x.2[i].2=some (liveT x.2[i].1.1 x.2[i].2):=by rw[livePut_i F1,j3j hsub]
       unfold itoaL at a1 a2 a3
       have seg:([115,101,103]++Lib.itoa (1000+n))++ [120]++Lib.itoa (i:Int)=segN n (i:Int):=rfl
       rw[zb (by omega:(i:Int)<x.2.length),zg,idx_at hlt,za]
       refine Def.ite (by unfold fits;omega) ?_
       rw[a1,za]
       refine Def.ite (by simp only[zi,zac];omega) (Def.ite (by simp only[zam,zi,zac];omega) ?_)
       rw[a2,za]
       refine Def.ite (by simp only[zam,zi,zac];omega) ?_
       rw[hp,za,seg]
       refine Def.ite (room_of (by rw[zbE];omega) (by rw[zbE];omega)) (Def.ite (by simp only[zi,zac];omega) ?_)
       rw[crc_i N (by omega) _ (by omega) (by omega),za,a3,za]
       refine Def.ite (by simp only[zam,zi,zac];omega) (Def.ite (by simp only[zam,zi,zac];omega) (Def.ite (by simp only[zam,zi,zac];omega) (Def.ite (fits_nat (by omega)) (ih2 _ ⟨i+1,out++ [(segN n (i:Int),liveT x.2[i].1.1 x.2[i].2)],gen++(j3L (segN n (i:Int),liveT x.2[i].1.1 x.2[i].2)++ [10]),?_,hlt,by rw[zam,ho];rfl,?_,?_,?_⟩ (by dsimp only;omega)))))
       .rw [cast_succ']
        rfl
       .have:=j1f (f:=(segN n (i:Int),liveT x.2[i].1.1 x.2[i].2)) b4
        rw[zam]
        omega
       .rw [<-e1,j05 n x.2 i i hlt,zao]
        rfl
       .rw [<-e2,j05 n x.2 i i hlt,j1e,zao]
      .rw [zbw (by omega)]at e1 e2
       have e1:out=j3I n 0 x.2:=by rw[<-e1];exact(zat _).symm
       have e2:gen=manR (j3I n 0 x.2):=by rw[<-e2];exact(zat _).symm
       rw[zd (by omega:¬(i:Int)<x.2.length),ze,gen_i N n h0 h1,za]
       refine Def.ite (by simp only[zi,zac];omega) (Def.ite (room_of (by rw[zbE];omega) (by rw[zbE];omega)) ?_)
       have efs:out++ [(genN n,gen++ [101,110,100])]=j3J x n:=by rw[e1,e2];rfl
       rw[efs]
       have hfl:(j3J x n).length<=6:=by rw[j3X];omega
       generalize j3J x n=fs at*
       refine Def.iter (fun g=>∃i:Nat,g=(w,fs,fs,(fs.length:Int),(i:Int),writeAll (j3G w (fs.take i)) d,n)/\i<=fs.length) (fun g=>((fs.length:Int)-g.2.2.2.2.1).toNat) (fun go3 g hI ih3=>?_) N _ ⟨0,by unfold j3G;cases decide (w<0)<;>simp[writeAll],zaf _⟩ (by show((fs.length:Int)-0).toNat<N;omega)
       obtain⟨i,rfl,hi⟩:=hI
       have hsm:=j1k w fs d i hfl hd24
       have hup:=j1o (j3G w (fs.take i)) d hU
       dsimp only
       by_cases hlt:i<fs.length
       .have wr:(decide (w<0)||decide ((i:Int)<w))=true->Def (Option.bind (j0Y N fs[i].1 fs[i].2 (writeAll (j3G w (fs.take i)) d)) fun r11=>if fits ((i:Int)+1)then go3 (w,fs,fs,(fs.length:Int),(i:Int)+1,r11,n)else none) fun r=>r=(bif decide (w<0)||decide ((fs.length:Int)<w)then j3H n (writeAll (j3G w fs) d)else writeAll (j3G w fs) d,n):=fun e=>by
         rw[j1U N (by omega) hN2 _ _ _ (by omega) hup,za]
         refine Def.ite (fits_nat (by omega)) (ih3 _ ⟨i+1,?_,hlt⟩ (by dsimp only;omega))
         rw[j1m w fs hlt,e,zg,j1C,cast_succ']
         rfl
        rw[zb (by omega:(i:Int)<fs.length),zg,idx_at hlt,za]
        refine Def.bif (fun hw=>wr (by rw[hw];rfl)) (fun hw=>Def.bif (fun hiw=>wr (by rw[hiw,Bool.or_true])) (fun hiw=>?_))
        refine Def.ite (fits_nat (by omega)) (ih3 _ ⟨i+1,?_,hlt⟩ (by dsimp only;omega))
        rw[j1m w fs hlt,hw,hiw,Bool.or_false,ze,zat,cast_succ']
       .have e3:j3G w (fs.take i)=j3G w fs:=by rw[zba (by omega)]
        rw[zd (by omega:¬(i:Int)<fs.length),ze]
        rw[e3]at hsm⊢
        have hcl:=j39 n (writeAll (j3G w fs) d)
        have rm2:room ([]:List EFile).length (j3H n (writeAll (j3G w fs) d)).length 32:=room_of (by rw[show([]:List EFile).length=0 from rfl,zaY];omega) (by rw[show([]:List EFile).length=0 from rfl,zaY];omega)
        rw[j1W N (by omega) hN2 _ (by omega) n h0 h1,za,zf rm2,zaW]
        cases decide (w<0)with
        |true=>exact Def.ret rfl
        |false=>cases decide ((fs.length:Int)<w)<;>exact Def.ret rfl
end Go.Proofs.YtcinmmojlcchfaaGreatDoor
