import Derived.Test.YtcinmmojlcchfaaGreatDoorSE1
import Derived.Test.YtcinmmojlcchfaaGreatDoorSD1
import Derived.Test.YtcinmmojlcchfaaGreatDoorFS
set_option linter.unusedVariables false
set_option linter.unusedSimpArgs false
namespace Go.Proofs.YtcinmmojlcchfaaGreatDoor
open Go.RowKit
theorem jX9 (N:Nat) (hN:1048600<=N) (ls:List (List UInt8)) (hl:∀l,l∈ls->l.length<=1048576) (hs:sumL ls<=1048577):jXo N ls=some (readD ls):=by
 have hlen:=sumL_len ls
 unfold jXo
 refine Def.get ?_
 refine Def.iter (fun g=>∃(n:Nat) (D:EDoc),g=(ls,(ls.length:Int),(n:Int),(0:Int),D.1,D.2.1,D.2.2)/\n<=ls.length/\D=(ls.take n).foldl readLn (0,[],[])) (fun g=>ls.length-g.2.2.1.toNat) (fun go g hI ih=>?_) N _ ⟨0,(0,[],[]),rfl,zaf _,rfl⟩ (by dsimp only;omega)
 obtain⟨n,D,rfl,hn',hD⟩:=hI
 dsimp only
 by_cases hn:n<ls.length
 .have hx:=hl _ (zr hn)
  have hr:=RdD.fold (ls.take n) .zero fun l h=>hl l (zaP h)
  rw[<-hD]at hr
  have h1:=hr.fl
  have h2:=hr.al
  have h3:=sumL_take ls n
  have e:(ls.take (n+1)).foldl readLn (0,[],[])=readLn D ls[n]:=by rw[zo hn,zaX,hD];rfl
  have hgo:∀D':EDoc,D'=readLn D ls[n]->Def (go (ls,(ls.length:Int),((n:Int)+1),(0:Int),D'.1,D'.2.1,D'.2.2)) fun r=>r=readD ls:=fun D' h=>ih _ ⟨n+1,D',by rw[cast_succ'],hn,by rw[e,h]⟩ (by dsimp only;omega)
  have k1:=(cut1_len 32 ls[n]).2
  have k2:=(cut1_len 32 (cut1 32 ls[n]).2.1).2
  have c1:k_strings_Cut_m N ls[n] [32]=some (cut1 32 ls[n]):=cutM_one hx
  have c2:k_strings_Cut_m N (cut1 32 ls[n]).2.1 [32]=some (cut1 32 (cut1 32 ls[n]).2.1):=cutM_one (by omega)
  have a1:jXn N (cut1 32 ls[n]).2.1=some (atoiN (cut1 32 ls[n]).2.1):=atoiM_one (by omega)
  have a2:jXn N (cut1 32 (cut1 32 ls[n]).2.1).2.1=some (atoiN (cut1 32 (cut1 32 ls[n]).2.1).2.1):=atoiM_one (by omega)
  rw[zb (by omega:(n:Int)<ls.length),zg,idx_at hn,za,c1,za,c2,za,a1,a2,za,za]
  unfold readLn at hgo
  dsimp only at hgo
  by_cases e1:(cut1 32 ls[n]).1=[100,111,99]
  .rw [zb e1,zg]at hgo
   rw[zb e1,zg]
   exact Def.ite (fits_nat (n:=n) (by omega)) (hgo _ rfl)
  rw[zd e1,ze]at hgo
  rw[zd e1,ze]
  by_cases e2:(cut1 32 ls[n]).1=[102,105,101,108,100]
  .rw [zb e2,zg]at hgo
   rw[zb e2,zg]
   exact Def.ite (room_of (by rw[zbE];omega) (by rw[zbE];omega)) (Def.ite (fits_nat (n:=n) (by omega)) (hgo _ rfl))
  rw[zd e2,ze]at hgo
  rw[zd e2,ze]
  by_cases e3:(cut1 32 ls[n]).1=[110,117,109]
  .rw [zb e3,zg]at hgo
   rw[zb e3,zg]
   exact Def.ite (room_of (by rw[zbE];omega) (by rw[zbE];omega)) (Def.ite (fits_nat (n:=n) (by omega)) (hgo _ rfl))
  rw[zd e3,ze]at hgo
  rw[zd e3,ze]
  exact Def.ite (fits_nat (n:=n) (by omega)) (hgo _ rfl)
 .rw [zd (by omega:¬(n:Int)<ls.length),ze]
  rw[zba (by omega)]at hD
  refine Def.ret ?_
  unfold readD
  rw[<-hD]
def outL :Option ELive->List EDoc×List EEntry×List Int×Bool
 |some l=>(l.1.1,l.1.2,l.2,true)
 |none=>([],[],[],false)
theorem jX5 {c:EConf} {s:List UInt8} (hc:okConf c=false):getI c s=none:=by
 cases h:getI c s with
 |none=>rfl
 |some l=>
  have:=(okIdx_ok (getI_some h).1).1
  rw[hc]at this
  cases this
theorem jYj (c:EConf) (docs:List EDoc):(segI c docs).1=docs\/(segI c docs).1=[]:=by
 unfold segI
 cases okConf c&&okDocs docs
 .exact .inr rfl
 .exact .inl rfl
theorem jYo {α:Type} (l:List α) {a e:Nat} (h:a<=e) (he:e<=l.length):l.drop a=(l.take e).drop a++l.drop e:=by
 have e1:l.take e++l.drop e=l:=zaR e l
 have e2:(l.take e++l.drop e).drop a=(l.take e).drop a++l.drop e:=by rw[zch (by rw[zah];omega)]
 rw[e1]at e2
 exact e2
theorem jYn {N:Nat} (hM:Sm<N) (hN:N<=16777216) {c:EConf} (oc:okD Sm TConf c) {docs:List EDoc} {dead:List Int} (hd:∀d,d∈docs->okD Sm TDoc d) (h1:docs.length<=1048576) (h2:dead.length<=1048576):FitI N (c,[(segI c docs,dead)]):=
 ⟨hM,hN,oc,by show 1<=1048576;omega,fun l hl=>by
  rw[zaD]at hl
  subst hl
  dsimp only
  rcases jYj c docs with e|e
  .rw [e];exact⟨hd,h1,h2⟩
  .rw [e];exact⟨(fun d h=>by cases h),zaf _,h2⟩⟩
set_option maxHeartbeats 1000000 in
theorem liveGet_i {N:Nat} (hN:1048600<=N) (hN2:N<=16777216) (c:EConf) (oc:okD Sm TConf c) (s:List UInt8) (hs:s.length<=1048576):jY4 N c.1 c.2 s=some (outL (getI c s)):=by
 have hM:Sm<N:=by show 1048576<N;omega
 unfold jY4
 rw[confOk_spec N hM (by omega) c oc,za]
 cases hc:okConf c with
 |false=>
  rw[zaI,zg,jX5 hc]
  rfl
 |true=>
  have hsp:k_strings_Split_m N s [10]=some (cutAt 10 s):=by
   show splitM s [10]=_
   unfold splitM
   dsimp only
   rw[zf (by omega)]
  rw[zn,ze,hsp,za]
  refine Def.get ?_
  have hsum:=sumL_cut 10 s
  have hG:getI c s=(let r:=readL (cutAt 10 s);let l:ELive:=(segI c r.1,r.2);bif !decide (s=[])&&decide (putLive c l=s)then some l else none):=rfl
  generalize cutAt 10 s=ls at hsum hG⊢
  have hl:∀l,l∈ls->l.length<=1048576:=fun l h=>by have:=sumL_mem h;omega
  have hlen:=sumL_len ls
  obtain⟨q1,q2,q3,q4⟩:=readL_ok _ ls (zae _) hl (by omega)
  refine Def.iter (fun g=>∃(docs:List EDoc) (dead:List Int) (a:Nat),g=(s,docs,dead,ls,(a:Int),c.1,c.2)/\a<=ls.length/\docs.length<=a/\dead.length<=a/\(docs++(readL (ls.drop a)).1,dead++(readL (ls.drop a)).2)=readL ls) (fun g=>ls.length-g.2.2.2.2.1.toNat) (fun go g hI ih=>?_) N _ ⟨[],[],0,rfl,zaf _,zae _,zae _,by simp⟩ (by dsimp only;omega)
  obtain⟨docs,dead,a,rfl,h1,h2,h3,h4⟩:=hI
  dsimp only
  by_cases ha:a<ls.length
  .have hd:ls.drop a=ls[a]::ls.drop (a+1):=zan ha
   have hx:=hl _ (zr ha)
   rw[zb (by omega:(a:Int)<ls.length),zg,idx_at ha,za,cutPre_spec,za]
   rw[hd,readL]at h4
   cases hp:deadP.isPrefixOf ls[a]with
   |true=>
    have hp':([100,101,97,100,32]:List UInt8).isPrefixOf ls[a]=true:=hp
    have hat:jXn N (ls[a].drop ([100,101,97,100,32]:List UInt8).length)=some (atoiN (ls[a].drop 5)):=atoiM_one (by rw[zaQ];omega)
    rw[hp,zg]at h4
    rw[hp',zg]
    dsimp only
    rw[zg,hat,za]
    refine Def.ite (room_of (by rw[zbE];omega) (by rw[zbE];omega)) (Def.ite (fits_nat (by omega)) (ih _ ⟨docs,dead++ [atoiN (ls[a].drop 5)],a+1,by rw[cast_succ'],ha,by omega,by rw[zam,zbE];omega,?_⟩ (by dsimp only;omega)))
    rw[<-h4]
    simp
   |false=>
    have hp':([100,101,97,100,32]:List UInt8).isPrefixOf ls[a]=false:=hp
    rw[hp,ze]at h4
    rw[hp',ze]
    dsimp only
    rw[ze,zf (fits_nat (by omega))]
    refine Def.iter (fun g=>∃e:Nat,g=(s,docs,dead,ls,(a:Int),(e:Int),c.1,c.2)/\a+1<=e/\e<=ls.length/\∀x,x∈(ls.take e).drop (a+1)->midB x=true) (fun g=>ls.length-g.2.2.2.2.2.1.toNat) (fun go2 g hI ih2=>?_) N _ ⟨a+1,by rw[cast_succ'],zae _,ha,fun x hx=>by rw[zbw (by rw[zah];omega)]at hx;cases hx⟩ (by dsimp only;omega)
    obtain⟨e,rfl,g1,g2,g3⟩:=hI
    have hexit:(∀y ys,ls.drop e=y::ys->midB y=false)->Def (Option.bind (idx ls (a:Int)) fun(e4:List UInt8)=>bif(!decide (e4=([]:List UInt8)))then(Option.bind (cut ls (a:Int) (e:Int)) fun(y:List (List UInt8))=>Option.bind (jXo N y) fun(r7:EDoc)=>if room docs.length ([r7]:List EDoc).length 56 then go (s,docs++([r7]:List EDoc),dead,ls,(e:Int),c.1,c.2)else none)else go (s,docs,dead,ls,(e:Int),c.1,c.2)) fun r=>r=outL (getI c s):=fun hend=>by
     have hw:=while_mid g3 hend
     rw[<-jYo ls (by omega) g2]at hw
     rw[hw.1,hw.2]at h4
     rw[idx_at ha,za]
     by_cases hz:ls[a]=[]
     .rw [zb hz,zn,ze]at h4⊢
      exact ih _ ⟨docs,dead,e,rfl,g2,by omega,by omega,h4⟩ (by dsimp only;omega)
     .rw [zd hz,zaI,zg]at h4⊢
      refine Def.cut (by omega) (by omega) (by omega) ?_
      rw[zai,zai]
      have hlt:a<(ls.take e).length:=by rw[zah];omega
      have hc:(ls.take e).drop a=ls[a]::(ls.take e).drop (a+1):=by rw[zan hlt,List.getElem_take]
      have hsub:∀l,l∈(ls.take e).drop a->l∈ls:=fun l h=>zaP (zbP h)
      have hsz:sumL ((ls.take e).drop a)<=1048577:=by
       have k1:=sumL_append ((ls.take e).take a) ((ls.take e).drop a)
       rw[zaR]at k1
       have k2:=sumL_take ls e
       omega
      rw[jX9 N hN _ (fun l h=>hl l (hsub l h)) hsz,za]
      refine Def.ite (room_of (by rw[zbE];omega) (by rw[zbE];omega)) (ih _ ⟨docs++ [readD ((ls.take e).drop a)],dead,e,rfl,g2,by rw[zam,zbE];omega,by omega,?_⟩ (by dsimp only;omega))
      rw[<-h4,hc]
      simp
    dsimp only
    by_cases he:e<ls.length
    .have hde:ls.drop e=ls[e]::ls.drop (e+1):=zan he
     rw[zb (by omega:(e:Int)<ls.length),zg,idx_at he,za,hasPre_spec,za]
     cases hq:docP.isPrefixOf ls[e]with
     |true=>
      have hq':([100,111,99,32]:List UInt8).isPrefixOf ls[e]=true:=hq
      rw[hq',zn,ze]
      refine hexit fun y ys hy=>?_
      rw[hde,List.cons.injEq]at hy
      rw[<-hy.1]
      unfold midB
      rw[hq]
      rfl
     |false=>
      have hq':([100,111,99,32]:List UInt8).isPrefixOf ls[e]=false:=hq
      rw[hq',zaI,zg,za,hasPre_spec,za]
      cases hq2:deadP.isPrefixOf ls[e]with
      |true=>
       have hq2':([100,101,97,100,32]:List UInt8).isPrefixOf ls[e]=true:=hq2
       rw[hq2',zn,ze]
       refine hexit fun y ys hy=>?_
       rw[hde,List.cons.injEq]at hy
       rw[<-hy.1]
       unfold midB
       rw[hq,hq2]
       rfl
      |false=>
       have hq2':([100,101,97,100,32]:List UInt8).isPrefixOf ls[e]=false:=hq2
       rw[hq2',zaI,zg]
       refine Def.ite (fits_nat (by omega)) (ih2 _ ⟨e+1,by rw[cast_succ'],by omega,he,fun x hx=>?_⟩ (by dsimp only;omega))
       rw[zo he,zch (by rw[zah];omega),zaB,zaD]at hx
       rcases hx with hx|rfl
       .exact g3 x hx
       .unfold midB
        rw[hq,hq2]
        rfl
    .rw [zd (by omega:¬(e:Int)<ls.length),ze]
     refine hexit fun y ys hy=>?_
     rw[zbw (by omega)]at hy
     cases hy
  .rw [zd (by omega:¬(a:Int)<ls.length),ze]
   rw[zbw (by omega),readL,zat,zat]at h4
   rw[<-h4]at q1 q2 q3 q4 hG
   dsimp only at q1 q2 q3 q4 hG
   rw[jme N hM hN2 c oc docs q3 (by omega)]
   have eS:(bif okConf c&&okDocs docs then(docs,entriesS c docs)else(([],[]):ESeg))=segI c docs:=rfl
   rw[eS,za]
   by_cases hs0:s=[]
   .rw [zb hs0,zg]
    rw[zb hs0,zn,zce,ze]at hG
    rw[hG]
    exact Def.ret rfl
   .rw [zd hs0,ze]
    rw[zd hs0,zaI,zaj]at hG
    have hF:=jYn hM hN2 oc q3 (by omega) (by omega:dead.length<=1048576)
    have hP:i_LivePut_m N c.1 c.2 (segI c docs).1 (segI c docs).2 dead=some (putLive c (segI c docs,dead)):=livePut_i hF
    rw[hP,za]
    by_cases hq:putLive c (segI c docs,dead)=s
    .rw [zb hq,zg]at hG
     rw[zb hq,zn,ze,hG]
     exact Def.ret rfl
    .rw [zd hq,ze]at hG
     rw[zd hq,zaI,zg,hG]
     exact Def.ret rfl
theorem numS_in (s:List UInt8): -1<=numS s/\numS s<=999999999:=by
 unfold numS
 cases hb:s.all digB&&(decide (s.length<=9)&&(decide (s≠ [])&& !(decide (1<s.length)&&decide (s.head? =some 48))))with
 |false=>rw[ze];omega
 |true=>
  rw[zj,zj,zw]at hb
  have h1:=numD_lt s 0 (zax.1 hb.1)
  have h2:(10:Nat)^s.length<=10^9:=Nat.pow_le_pow_right (by decide) hb.2.1
  have h3:(10:Nat)^9=1000000000:=by decide
  rw[zg]
  omega
theorem cut3 (line:List UInt8):(∃a,cutN 32 2 line=[a])\/(∃a b,cutN 32 2 line=[a,b]/\a.length+b.length+1=line.length)\/ ∃a b c,cutN 32 2 line=[a,b,c]/\a.length+b.length+c.length+2=line.length:=by
 rcases first_cut 32 line with h|⟨p,r,h,rfl⟩
 .exact .inl ⟨_,cutN_none 2 h⟩
 .rcases first_cut 32 r with h2|⟨q,t,h2,rfl⟩
  .refine .inr (.inl ⟨p,r,?_,by simp;omega⟩)
   rw[cutN_hit 1 h,cutN_none 1 h2]
  .refine .inr (.inr ⟨p,q,t,?_,by simp;omega⟩)
   rw[cutN_hit 1 h,cutN_hit 0 h2,cutN]
theorem cut2 (line:List UInt8):(cutN 32 1 line=[line])\/ ∃a b,cutN 32 1 line=[a,b]/\a.length+b.length+1=line.length:=by
 rcases first_cut 32 line with h|⟨p,r,h,rfl⟩
 .exact .inl (cutN_none 1 h)
 .refine .inr ⟨p,r,?_,by simp;omega⟩
  rw[cutN_hit 0 h,cutN]
theorem cutN_nn (b:UInt8) (k:Nat) (s:List UInt8):cutN b k s≠ []:=by
 rcases first_cut b s with h|⟨p,r,h,rfl⟩
 .rw [cutN_none k h];simp
 .cases k with
  |zero=>rw[cutN];simp
  |succ k=>rw[cutN_hit k h];simp
theorem sumL_cutN (b:UInt8):∀(k:Nat) (s:List UInt8),sumL (cutN b k s)=s.length+1
 |0,s=>by
  rw[cutN,sumL,sumL]
 |k+1,s=>by
  rcases first_cut b s with h|⟨p,r,h,rfl⟩
  .rw [cutN_none (k+1) h,sumL,sumL]
  .rw [cutN_hit k h,sumL,sumL_cutN b k r]
   simp
   omega
theorem cutN_len (b:UInt8):∀(k:Nat) (s:List UInt8),(cutN b k s).length<=k+1
 |0,s=>by rw[cutN];simp
 |k+1,s=>by
  rcases first_cut b s with h|⟨p,r,h,rfl⟩
  .rw [cutN_none (k+1) h];simp
  .have:=cutN_len b k r
   rw[cutN_hit k h,zi]
   omega
structure SizG (d:EDoc) (n:Nat):Prop where
 id: -9223372036854775808<=d.1/\d.1<=9223372036854775807
 fl:d.2.1.length<=n
 al:d.2.2.length<=n
 f:∀f,f∈d.2.1->f.1.length<=1048576/\f.2.length<=1048576
 a:∀a,a∈d.2.2->a.1.length<=1048576/\ -9223372036854775808<=a.2/\a.2<=9223372036854775807
theorem SizG.zero :SizG zeroD0 0:=⟨by decide,zae _,zae _,(fun f h=>by cases h),(fun f h=>by cases h)⟩
theorem SizG.okD {d:EDoc} {n:Nat} (h:SizG d n) (hn:n<=1048576):okD Sm TDoc d:=by
 have h1:=h.fl
 have h2:=h.al
 exact⟨h.id,⟨by show d.2.1.length<=1048576;omega,fun f hf=>h.f f hf⟩,⟨by show d.2.2.length<=1048576;omega,fun a ha=>⟨(h.a a ha).1,(h.a a ha).2⟩⟩⟩
theorem SizG.id' {d:EDoc} {n:Nat} (h:SizG d n) (b:List UInt8):SizG (numS b,d.2) (n+1):=by
 have h1:=h.fl
 have h2:=h.al
 have h3:=numS_in b
 exact⟨by dsimp only;omega,by dsimp only;omega,by dsimp only;omega,h.f,h.a⟩
theorem SizG.field {d:EDoc} {n:Nat} (h:SizG d n) {b c:List UInt8} (hb:b.length<=1048576) (hc:c.length<=1048576):SizG (d.1,d.2.1++ [(b,c)],d.2.2) (n+1):=by
 have h1:=h.fl
 have h2:=h.al
 refine⟨h.id,by dsimp only;rw[zam,zbE];omega,by dsimp only;omega,fun f hf=>?_,h.a⟩
 rcases zaB.1 hf with hf|hf
 .exact h.f f hf
 .rw [zaD]at hf
  subst hf
  exact⟨hb,hc⟩
theorem SizG.num {d:EDoc} {n:Nat} (h:SizG d n) {b c:List UInt8} (hb:b.length<=1048576):SizG (d.1,d.2.1,d.2.2++ [(b,numS c)]) (n+1):=by
 have h1:=h.fl
 have h2:=h.al
 have h3:=numS_in c
 refine⟨h.id,by dsimp only;omega,by dsimp only;rw[zam,zbE];omega,h.f,fun a ha=>?_⟩
 rcases zaB.1 ha with ha|ha
 .exact h.a a ha
 .rw [zaD]at ha
  subst ha
  dsimp only
  omega
def outD (r:EDoc×Bool):Int×List EField×List EAttr×Bool:=(r.1.1,r.1.2.1,r.1.2.2,r.2)
theorem dgRun_cons (n:Nat) (l:List UInt8) (ls:List (List UInt8)) (d:EDoc):dgRun n (l::ls) d=(dgStep n d l).bind fun d=>dgRun (n+1) ls d:=rfl
set_option maxHeartbeats 2000000 in
theorem docGet_s {N:Nat} (hN:1048600<=N) (hN2:N<=16777216) (s:List UInt8) (hs:s.length<=1048577):s_DocGet_m N s=some (outD (dgS s))/\okD Sm TDoc (dgS s).1:=by
 have hM:Sm<N:=by show 1048576<N;omega
 have hz:okD Sm TDoc zeroD0:=SizG.zero.okD (by omega)
 suffices h:Def (s_DocGet_m N s) fun r=>r=outD (dgS s)/\okD Sm TDoc (dgS s).1 by
  obtain⟨r,h1,h2,h3⟩:=h
  exact⟨by rw[h1,h2],h3⟩
 unfold s_DocGet_m
 rw[cutS_spec N s 10 10 8 8 rfl rfl (by omega) (by omega),za]
 have hsum:=sumL_cutN 10 8 s
 have hlen:=cutN_len 10 8 s
 have hne:=cutN_nn 10 8 s
 have hR:dgS s=(match dgRun 0 (cutN 10 8 s).dropLast zeroD0 with
  |some d=>bif okDoc d&&decide (docT d=s)then(d,true)else(zeroD0,false)
  |none=>(zeroD0,false)):=rfl
 generalize cutN 10 8 s=ls at hsum hlen hne hR⊢
 have hpos:0<ls.length:=zcl.2 hne
 have hml:ls.dropLast.length=ls.length-1:=List.length_dropLast
 refine Def.iter (fun g=>∃(n:Nat) (d:EDoc),g=(s,ls,(n:Int),(0:Int),d.1,d.2.1,d.2.2)/\n+1<=ls.length/\SizG d n/\dgRun n (ls.dropLast.drop n) d=dgRun 0 ls.dropLast zeroD0) (fun g=>ls.length-g.2.2.1.toNat) (fun go g hI ih=>?_) N _ ⟨0,zeroD0,rfl,hpos,.zero,rfl⟩ (by dsimp only;omega)
 obtain⟨n,d,rfl,h1,h2,h3⟩:=hI
 dsimp only
 refine Def.ite (fits_nat (by omega)) ?_
 by_cases hn:n+1<ls.length
 .have hn':n<ls.length:=by omega
  have hnd:n<ls.dropLast.length:=by omega
  have hd:ls.dropLast.drop n=ls[n]::ls.dropLast.drop (n+1):=by rw[zan hnd,List.getElem_dropLast]
  have hll:=sumL_mem (zr hn')
  have hnone:dgStep n d ls[n]=none->(((0:Int),([]:List EField),([]:List EAttr),false)=outD (dgS s)/\okD Sm TDoc (dgS s).1):=fun e=>by
   rw[hd,dgRun_cons,e,Option.bind_none]at h3
   rw[<-h3]at hR
   rw[hR]
   exact⟨rfl,hz⟩
  have hsome:∀d',dgStep n d ls[n]=some d'->SizG d' (n+1)->Def (go (s,ls,((n:Int)+1),(0:Int),d'.1,d'.2.1,d'.2.2)) fun r=>r=outD (dgS s)/\okD Sm TDoc (dgS s).1:=fun d' e z=>by
   rw[hd,dgRun_cons,e,za]at h3
   exact ih _ ⟨n+1,d',by rw[cast_succ'],hn,z,h3⟩ (by dsimp only;omega)
  rw[zb (by omega:(n:Int)+1<(ls.length:Int)),zg,idx_at hn',za,cutS_spec N ls[n] 32 32 2 2 rfl rfl (by omega) (by omega),za]
  unfold dgStep at hnone hsome
  have hfl:=h2.fl
  have hal:=h2.al
  rcases cut3 ls[n]with⟨a,k⟩|⟨a,b,k,hk⟩|⟨a,b,c,k,hk⟩
  .rw [k]at hnone⊢
   have hnone:=hnone rfl
   have i0:idx [a] 0=some a:=rfl
   have l2:decide ((([a]:List (List UInt8)).length:Int)=2)=false:=rfl
   have l3:decide ((([a]:List (List UInt8)).length:Int)=3)=false:=rfl
   simp only[i0,za,l2,l3,ze]
   cases decide ((n:Int)=0)<;>cases decide (a=([100,111,99]:List UInt8))<;>cases decide ((0:Int)<(n:Int))<;>cases decide (a=([102,105,101,108,100]:List UInt8))<;>cases decide (a=([110,117,109]:List UInt8))<;>exact Def.ret hnone
  .rw [k]at hnone hsome⊢
   dsimp only at hnone hsome
   have i0:idx [a,b] 0=some a:=rfl
   have i1:idx [a,b] 1=some b:=rfl
   have l2:decide ((([a,b]:List (List UInt8)).length:Int)=2)=true:=rfl
   have l3:decide ((([a,b]:List (List UInt8)).length:Int)=3)=false:=rfl
   simp only[i0,i1,za,l2,l3,zg,ze]
   by_cases hz0:n=0
   .have z0:decide ((n:Int)=0)=true:=zb (by omega)
    have z1:decide ((0:Int)<(n:Int))=false:=zd (by omega)
    by_cases e1:a=[100,111,99]
    .rw [zb hz0,zb e1,zb5,zg]at hsome
     rw[z0,zg,zb e1,zg,numS_spec N b (by omega),za]
     exact Def.ite (fits_nat (n:=n) (by omega)) (hsome _ rfl (h2.id' b))
    .rw [zb hz0,zd e1,zcf,ze]at hnone
     simp only[z0,z1,zd e1,zg,ze]
     exact Def.ret (hnone rfl)
   .have z0:decide ((n:Int)=0)=false:=zd (by omega)
    rw[zd hz0,zce,ze]at hnone
    have hnone:=hnone rfl
    simp only[z0,ze]
    cases decide ((0:Int)<(n:Int))<;>cases decide (a=([102,105,101,108,100]:List UInt8))<;>cases decide (a=([110,117,109]:List UInt8))<;>exact Def.ret hnone
  .rw [k]at hnone hsome⊢
   dsimp only at hnone hsome
   have i0:idx [a,b,c] 0=some a:=rfl
   have i1:idx [a,b,c] 1=some b:=rfl
   have i2:idx [a,b,c] 2=some c:=rfl
   have l2:decide ((([a,b,c]:List (List UInt8)).length:Int)=2)=false:=rfl
   have l3:decide ((([a,b,c]:List (List UInt8)).length:Int)=3)=true:=rfl
   simp only[i0,i1,i2,za,l2,l3,zg,ze]
   by_cases hz0:n=0
   .have z1:decide ((0:Int)<(n:Int))=false:=zd (by omega)
    rw[zd (by omega:¬0<n),zce,ze,zce,ze]at hnone
    have hnone:=hnone rfl
    simp only[z1,ze]
    cases decide ((n:Int)=0)<;>cases decide (a=([100,111,99]:List UInt8))<;>exact Def.ret hnone
   .have z0:decide ((n:Int)=0)=false:=zd (by omega)
    have z1:decide ((0:Int)<(n:Int))=true:=zb (by omega)
    have z2:decide (0<n)=true:=zb (by omega)
    by_cases e2:a=[102,105,101,108,100]
    .rw [z2,zb e2,zb5,zg]at hsome
     simp only[z0,z1,zb e2,zg,ze]
     have:a.length=5:=by rw[e2];rfl
     exact Def.ite (room_of (by rw[zbE];omega) (by rw[zbE];omega)) (Def.ite (fits_nat (n:=n) (by omega)) (hsome _ rfl (h2.field (by omega) (by omega))))
    .by_cases e3:a=[110,117,109]
     .rw [z2,zd e2,zcf,ze,zb e3,zb5,zg]at hsome
      simp only[z0,z1,zd e2,zb e3,zg,ze]
      have:a.length=3:=by rw[e3];rfl
      rw[numS_spec N c (by omega),za]
      exact Def.ite (room_of (by rw[zbE];omega) (by rw[zbE];omega)) (Def.ite (fits_nat (n:=n) (by omega)) (hsome _ rfl (h2.num (by omega))))
     .rw [z2,zd e2,zcf,ze,zd e3,zcf,ze]at hnone
      simp only[z0,z1,zd e2,zd e3,zg,ze]
      exact Def.ret (hnone rfl)
 .rw [zd (by omega:¬(n:Int)+1<(ls.length:Int)),ze]
  rw[zbw (by omega)]at h3
  have h3:some d=dgRun 0 ls.dropLast zeroD0:=h3
  rw[<-h3]at hR
  dsimp only at hR
  have od:=h2.okD (by omega)
  have hk:=l6Ok_spec N hM (by omega) d.1 d.2.1 d.2.2 od
  rw[hk,za]
  have hk2:okDoc (d.1,d.2.1,d.2.2)=okDoc d:=rfl
  rw[hk2]
  cases ho:okDoc d with
  |false=>
   rw[ho,zce,ze]at hR
   rw[zaI,zg,hR]
   exact Def.ret ⟨rfl,hz⟩
  |true=>
   rw[ho,zaj]at hR
   rw[zn,ze,put_s N (by omega) hN2 d (.of od),za]
   by_cases ht:docT d=s
   .rw [zb ht,zg]at hR
    rw[zb ht,zn,ze,hR]
    exact Def.ret ⟨rfl,od⟩
   .rw [zd ht,ze]at hR
    rw[zd ht,zaI,zg,hR]
    exact Def.ret ⟨rfl,hz⟩
structure StOk (st:StS) (k m t:Nat):Prop where
 od:∀d,d∈st.1->okD Sm TDoc d
 kl:st.1.length<=k
 ml:st.2.1.length<=m
 num:∀n,n∈st.2.1-> -1<=n/\n<=999999999
 tl:st.2.2.length<=t
theorem StOk.flush {st:StS} {k m t:Nat} (h:StOk st k m t) (ht:t<=1048577) (a:List UInt8):StOk (flushS a st) (k+1) m t:=by
 have h1:=h.kl
 have h2:=h.tl
 unfold flushS
 cases !decide (st.2.2=[])&& !isMid a with
 |false=>exact⟨h.od,by rw[ze];omega,h.ml,h.num,h.tl⟩
 |true=>
  rw[zg]
  refine⟨fun d hd=>?_,by dsimp only;rw[zam,zbE];omega,h.ml,h.num,zaf _⟩
  rcases zaB.1 hd with hd|hd
  .exact h.od d hd
  .rw [zaD]at hd
   subst hd
   exact(docGet_s (N:=1048600) (zae _) (by omega) st.2.2 (by omega)).2
theorem StOk.dead {st:StS} {k m t:Nat} (h:StOk st k m t) (b:List UInt8):StOk (st.1,st.2.1++ [numS b],st.2.2) k (m+1) t:=by
 have h1:=h.ml
 refine⟨h.od,h.kl,by dsimp only;rw[zam,zbE];omega,fun n hn=>?_,h.tl⟩
 rcases zaB.1 hn with hn|hn
 .exact h.num n hn
 .rw [zaD]at hn
  subst hn
  exact numS_in b
theorem StOk.text {st:StS} {k m t:Nat} (h:StOk st k m t) (line:List UInt8):StOk (st.1,st.2.1,st.2.2++line++ [10]) k m (t+(line.length+1)):=by
 have h1:=h.tl
 exact⟨h.od,h.kl,h.ml,h.num,by dsimp only;rw[zam,zam,zbE];omega⟩
theorem StOk.le {st:StS} {k m t k' m' t':Nat} (h:StOk st k m t) (h1:k<=k') (h2:m<=m') (h3:t<=t'):StOk st k' m' t':=
 ⟨h.od,zau h.kl h1,zau h.ml h2,h.num,zau h.tl h3⟩
theorem flush_def {N:Nat} (hN:1048600<=N) (hN2:N<=16777216) {st:StS} {k m t:Nat} (h:StOk st k m t) (hk:k<=1000000) (ht:t<=1048577) {head ls:List (List UInt8)} {a:List UInt8} {i:Int} (i0:idx head 0=some a) {ρ:Type} {P:ρ->Prop} {J:(List EDoc×List Int×List (List UInt8)×List UInt8×Int×List (List UInt8))->Option ρ} (hJ:Def (J ((flushS a st).1,(flushS a st).2.1,ls,(flushS a st).2.2,i,head)) P):
  Def (bif(!decide (st.2.2=([]:List UInt8)))then(Option.bind (idx head 0) fun(e2:List UInt8)=>(bif(!decide (e2=([102,105,101,108,100]:List UInt8)))then(Option.bind (idx head 0) fun(e3:List UInt8)=>(bif(!decide (e3=([110,117,109]:List UInt8)))then(Option.bind (s_DocGet_m N st.2.2) fun(r3:Int×(List ((List UInt8)×(List UInt8)))×(List ((List UInt8)×Int))×Bool)=>(if room st.1.length ([(r3.1,r3.2.1,r3.2.2.1)]:List (Int×(List ((List UInt8)×(List UInt8)))×(List ((List UInt8)×Int)))).length 56 then(J ((st.1++([(r3.1,r3.2.1,r3.2.2.1)]:List (Int×(List ((List UInt8)×(List UInt8)))×(List ((List UInt8)×Int))))),st.2.1,ls,([]:List UInt8),i,head))else none))else(J (st.1,st.2.1,ls,st.2.2,i,head))))else(J (st.1,st.2.1,ls,st.2.2,i,head))))else(J (st.1,st.2.1,ls,st.2.2,i,head))) P:=by
 have h1:=h.kl
 have h2:=h.tl
 unfold flushS isMid at hJ
 rw[i0,za,za]
 by_cases e0:st.2.2=[]
 .rw [zb e0,zn,ze]
  rw[zb e0,zn,zce,ze]at hJ
  exact hJ
 rw[zd e0,zaI,zg]
 rw[zd e0,zaI,zaj]at hJ
 by_cases e1:a=[102,105,101,108,100]
 .rw [zb e1,zn,ze]
  rw[zb e1,Bool.true_or,zn,ze]at hJ
  exact hJ
 rw[zd e1,zaI,zg]
 rw[zd e1,zbf]at hJ
 by_cases e2:a=[110,117,109]
 .rw [zb e2,zn,ze]
  rw[zb e2,zn,ze]at hJ
  exact hJ
 rw[zd e2,zaI,zg,(docGet_s hN hN2 st.2.2 (by omega)).1,za]
 rw[zd e2,zaI,zg]at hJ
 exact Def.ite (room_of (by rw[zbE];omega) (by rw[zbE];omega)) hJ
set_option maxHeartbeats 1000000 in
theorem docs_s {N:Nat} (hN:1048600<=N) (hN2:N<=16777216) (s:List UInt8) (hs:s.length<=1048576):s_l19Docs_m N s=some (docsS s)/\(∀d,d∈(docsS s).1->okD Sm TDoc d)/\(docsS s).1.length<=1000/\(docsS s).2.length<=1000/\∀n,n∈(docsS s).2-> -1<=n/\n<=999999999:=by
 suffices h:Def (s_l19Docs_m N s) fun r=>r=docsS s/\(∀d,d∈(docsS s).1->okD Sm TDoc d)/\(docsS s).1.length<=1000/\(docsS s).2.length<=1000/\∀n,n∈(docsS s).2-> -1<=n/\n<=999999999 by
  obtain⟨r,h1,h2,h3⟩:=h
  exact⟨by rw[h1,h2],h3⟩
 unfold s_l19Docs_m
 rw[cutS_spec N s 10 10 400 400 rfl rfl (by omega) (by omega),za]
 have hsum:=sumL_cutN 10 400 s
 have hlen:=cutN_len 10 400 s
 have hne:=cutN_nn 10 400 s
 have hR:docsS s=((runS (cutN 10 400 s) ([],[],[])).1,(runS (cutN 10 400 s) ([],[],[])).2.1):=rfl
 generalize cutN 10 400 s=ls at hsum hlen hne hR⊢
 have hpos:0<ls.length:=zcl.2 hne
 refine Def.iter (fun g=>∃(n:Nat) (st:StS),g=(st.1,st.2.1,ls,st.2.2,(n:Int))/\n<=ls.length/\StOk st n n (sumL (ls.take n))/\(n<ls.length->st=(ls.take n).foldl (lineS false) ([],[],[]))/\(n=ls.length->st=runS ls ([],[],[]))) (fun g=>ls.length-g.2.2.2.2.toNat) (fun go g hI ih=>?_) N _ ⟨0,([],[],[]),rfl,zaf _,⟨(fun d h=>by cases h),zae _,zae _,(fun d h=>by cases h),zaf _⟩,fun _=>rfl,fun h=>absurd h (by omega)⟩ (by dsimp only;omega)
 obtain⟨n,st,rfl,h1,z,h3,h4⟩:=hI
 dsimp only
 by_cases hn:n<ls.length
 .have h3:=h3 hn
  have hle:sumL (ls.take n)+(ls[n].length+1)=sumL (ls.take (n+1)):=by
   rw[zo hn,sumL_append,sumL,sumL]
  have hle2:=sumL_take ls (n+1)
  have hll:=sumL_mem (zr hn)
  have zk:=z.kl
  have zm:=z.ml
  have zt:=z.tl
  have hgo:∀st',st'=lineS (decide (n+1=ls.length)) st ls[n]->StOk st' (n+1) (n+1) (sumL (ls.take (n+1)))->Def (go (st'.1,st'.2.1,ls,st'.2.2,(n:Int)+1)) fun r=>r=docsS s/\(∀d,d∈(docsS s).1->okD Sm TDoc d)/\(docsS s).1.length<=1000/\(docsS s).2.length<=1000/\∀n,n∈(docsS s).2-> -1<=n/\n<=999999999:=fun st' e y=>by
   refine ih _ ⟨n+1,st',by rw[cast_succ'],hn,y,fun h=>?_,fun h=>?_⟩ (by dsimp only;omega)
   .rw [e,zd (by omega),h3,zo hn,zaX]
    rfl
   .have e0:ls=ls.take n++ [ls[n]]:=by rw[<-zo hn,zba (by omega)]
    have e2:runS ls ([],[],[])=runS (ls.take n++ [ls[n]]) ([],[],[]):=congrArg (fun l=>runS l ([],[],[])) e0
    rw[e2]
    unfold runS
    rw[zcg,List.getLastD_concat,e,zb h,h3]
  rw[zb (by omega:(n:Int)<ls.length),zg,idx_at hn,za,cutS_spec N ls[n] 32 32 1 1 rfl rfl (by omega) (by omega),za]
  rcases cut2 ls[n]with k|⟨a,b,k,hk⟩
  .have zF:=z.flush (by omega) ls[n]
   have zFt:=zF.tl
   have eL:lineS (decide (n+1=ls.length)) st ls[n]=bif decide (n+1=ls.length)then flushS ls[n] st else((flushS ls[n] st).1,(flushS ls[n] st).2.1,(flushS ls[n] st).2.2++ls[n]++ [10]):=by
    unfold lineS
    rw[k]
   rw[k]
   refine Def.meet (fun g=>g=((flushS ls[n] st).1,(flushS ls[n] st).2.1,ls,(flushS ls[n] st).2.2,(n:Int),[ls[n]])) (fun g hg=>?_) (fun J hJ=>flush_def hN hN2 z (by omega) (by omega) rfl (hJ _ rfl))
   subst hg
   dsimp only
   have l2:decide ((([ls[n]]:List (List UInt8)).length:Int)=2)=false:=rfl
   rw[l2,ze,zf (fits_nat (by omega))]
   by_cases hq:n+1<ls.length
   .rw [zb (by omega:(n:Int)+1<(ls.length:Int)),zg,idx_at hn,za]
    rw[zd (by omega:¬n+1=ls.length),ze]at eL
    refine Def.ite (by omega) (Def.ite (by rw[zam,zbE];omega) (Def.ite (fits_nat (by omega)) (hgo ((flushS ls[n] st).1,(flushS ls[n] st).2.1,(flushS ls[n] st).2.2++ls[n]++ [10]) ?_ ?_)))
    .rw [zd (by omega:¬n+1=ls.length)]
     exact eL.symm
    .exact (zF.text ls[n]).le (zae _) (by omega) (by omega)
   .rw [zd (by omega:¬(n:Int)+1<(ls.length:Int)),ze]
    rw[zb (by omega:n+1=ls.length),zg]at eL
    refine Def.ite (fits_nat (by omega)) (hgo (flushS ls[n] st) ?_ (zF.le (zae _) (by omega) (by omega)))
    rw[zb (by omega:n+1=ls.length)]
    exact eL.symm
  .have zF:=z.flush (by omega) a
   have zFt:=zF.tl
   have eL:lineS (decide (n+1=ls.length)) st ls[n]=bif decide (a=[100,101,97,100])then((flushS a st).1,(flushS a st).2.1++ [numS b],(flushS a st).2.2)else bif decide (n+1=ls.length)then flushS a st else((flushS a st).1,(flushS a st).2.1,(flushS a st).2.2++ls[n]++ [10]):=by
    unfold lineS
    rw[k]
   rw[k]
   refine Def.meet (fun g=>g=((flushS a st).1,(flushS a st).2.1,ls,(flushS a st).2.2,(n:Int),[a,b])) (fun g hg=>?_) (fun J hJ=>flush_def hN hN2 z (by omega) (by omega) rfl (hJ _ rfl))
   subst hg
   dsimp only
   have i0:idx [a,b] 0=some a:=rfl
   have i1:idx [a,b] 1=some b:=rfl
   have l2:decide ((([a,b]:List (List UInt8)).length:Int)=2)=true:=rfl
   rw[l2,zg,i0,za,i1,za]
   by_cases ea:a=[100,101,97,100]
   .rw [zb ea,zg]at eL
    rw[zb ea,zg,numS_spec N b (by omega),za]
    have zFm:=zF.ml
    exact Def.ite (room_of (by rw[zbE];omega) (by rw[zbE];omega)) (Def.ite (fits_nat (by omega)) (hgo ((flushS a st).1,(flushS a st).2.1++ [numS b],(flushS a st).2.2) eL.symm ((zF.dead b).le (zae _) (zae _) (by omega))))
   .rw [zd ea,ze]at eL
    rw[zd ea,ze,zf (fits_nat (by omega))]
    by_cases hq:n+1<ls.length
    .rw [zb (by omega:(n:Int)+1<(ls.length:Int)),zg,idx_at hn,za]
     rw[zd (by omega:¬n+1=ls.length),ze]at eL
     refine Def.ite (by omega) (Def.ite (by rw[zam,zbE];omega) (Def.ite (fits_nat (by omega)) (hgo ((flushS a st).1,(flushS a st).2.1,(flushS a st).2.2++ls[n]++ [10]) ?_ ?_)))
     .rw [zd (by omega:¬n+1=ls.length)]
      exact eL.symm
     .exact (zF.text ls[n]).le (zae _) (by omega) (by omega)
    .rw [zd (by omega:¬(n:Int)+1<(ls.length:Int)),ze]
     rw[zb (by omega:n+1=ls.length),zg]at eL
     refine Def.ite (fits_nat (by omega)) (hgo (flushS a st) ?_ (zF.le (zae _) (by omega) (by omega)))
     rw[zb (by omega:n+1=ls.length)]
     exact eL.symm
 .rw [zd (by omega:¬(n:Int)<ls.length),ze]
  have h4:=h4 (by omega)
  have zk:=z.kl
  have zm:=z.ml
  rw[hR,<-h4]
  exact Def.ret ⟨rfl,z.od,by dsimp only;omega,by dsimp only;omega,z.num⟩
theorem get_s {N:Nat} (hN:1048600<=N) (hN2:N<=16777216) (c:EConf) (oc:okD Sm TConf c) (hc:okConf c=true) (s:List UInt8) (hs:s.length<=1048576):s_l19Get_m N c.1 c.2 s=some (outL (getS c s)):=by
 have hM:Sm<N:=by show 1048576<N;omega
 obtain⟨h1,h2,h3,h4,h5⟩:=docs_s hN hN2 s hs
 have hG:getS c s=(bif okDocs (docsS s).1&&decide (0<(docsS s).1.length)then(bif okIdx (c,[(((docsS s).1,entriesS c (docsS s).1),(docsS s).2)])&&decide (liveT (docsS s).1 (docsS s).2=s)then some (((docsS s).1,entriesS c (docsS s).1),(docsS s).2)else none)else none):=rfl
 unfold s_l19Get_m
 rw[h1,za,l6Docs_spec N hM (by omega) _ h2 (by omega),za]
 generalize docsS s=r at h2 h3 h4 h5 hG⊢
 obtain⟨docs,dead⟩:=r
 dsimp only at h2 h3 h4 h5 hG⊢
 cases ho:okDocs docs with
 |false=>
  rw[ho,zce,ze]at hG
  rw[zaI,zg,hG]
  rfl
 |true=>
  rw[ho,zaj]at hG
  rw[zn,ze]
  by_cases hz:docs.length=0
  .rw [zd (by omega),ze]at hG
   rw[zb (by omega),zg,hG]
   rfl
  .rw [zb (by omega:0<docs.length),zg]at hG
   have hF:FitI N (c,[((docs,entriesS c docs),dead)]):=⟨hM,hN2,oc,by show 1<=1048576;omega,fun l hl=>by
    rw[zaD]at hl
    subst hl
    exact⟨h2,by dsimp only;omega,by dsimp only;omega⟩⟩
   have hk:s_l18Ok_m N c.1 c.2 [((docs,entriesS c docs),dead)]=some (okIdx (c,[((docs,entriesS c docs),dead)])):=l18Ok_spec hF
   have hS:s_l19Seg_m N docs (entriesS c docs) dead=some (liveT docs dead):=seg_s N (by omega) hN2 ((docs,entriesS c docs),dead) ⟨fun d hd=>.of (h2 d hd),by dsimp only;omega,fun n hn=>by have:=h5 n hn;omega,by dsimp only;omega⟩
   rw[zd (by omega:¬(docs.length:Int)=0),ze,l7Of_spec N c hc (okDocs_ok ho) (by omega),za,hk,za]
   cases hi:okIdx (c,[((docs,entriesS c docs),dead)])with
   |false=>
    rw[hi,zce,ze]at hG
    rw[zaI,zg,hG]
    rfl
   |true=>
    rw[hi,zaj]at hG
    rw[zn,ze,hS,za]
    by_cases ht:liveT docs dead=s
    .rw [zb ht,zg]at hG
     rw[zb ht,zn,ze,hG]
     rfl
    .rw [zd ht,ze]at hG
     rw[zd ht,zaI,zg,hG]
     rfl
theorem okD_ok {d:EDoc} (h:okDoc d=true):okD Sm TDoc d:=by
 have g:=goodD h
 have h1:=g.id1
 have h2:=g.id2
 have h3:=g.fl
 have h4:=g.al
 refine⟨⟨by show(-9223372036854775808:Int)<=d.1;omega,by show d.1<=9223372036854775807;omega⟩,⟨by show d.2.1.length<=1048576;omega,fun(f:EField) hf=>?_⟩,⟨by show d.2.2.length<=1048576;omega,fun(a:EAttr) ha=>?_⟩⟩
 .obtain ⟨k1,k2⟩:=g.f f hf
  have k3:=((okW_iff _).1 k1).2.2
  have k4:=okT_len k2
  exact⟨by show f.1.length<=1048576;omega,by show f.2.length<=1048576;omega⟩
 .obtain ⟨k1,k2,k3⟩:=g.a a ha
  have k4:=((okW_iff _).1 k1).2.2
  exact⟨by show a.1.length<=1048576;omega,by show(-9223372036854775808:Int)<=a.2;omega,by show a.2<=9223372036854775807;omega⟩
theorem docT_small {d:EDoc} (h:okDoc d=true):(docT d).length<=1000:=by
 have g:=goodD h
 have h0:=itoa_len20 (n:=d.1) (by have:=g.id1;omega) (by have:=g.id2;omega)
 have h1:=flat_le fieldE 200 d.2.1 fun f hf=>by
  obtain⟨k1,k2⟩:=g.f f hf
  have k3:=((okW_iff _).1 k1).2.2
  have k4:=okT_len k2
  unfold fieldE fieldLn
  simp only[zam,zi,zac]
  omega
 have h2:=flat_le numE 60 d.2.2 fun a ha=>by
  obtain⟨k1,k2,k3⟩:=g.a a ha
  have k4:=((okW_iff _).1 k1).2.2
  have k5:=itoa_len20 (n:=a.2) (by omega) (by omega)
  unfold numE numLn
  simp only[zam,zi,zac]
  omega
 have h3:=g.fl
 have h4:=g.al
 have h5:=zag 200 h3
 have h6:=zag 60 h4
 rw[docT_eq]
 unfold docLn
 simp only[zam,zi,zac]
 omega
theorem OneL.small {c:EConf} {l:ELive} (o:OneL c l):(liveT l.1.1 l.2).length<=1048576:=by
 have h1:=flat_le docT 1000 l.1.1 fun d hd=>docT_small (okDoc_each o.docs d hd)
 have h2:=flat_le deadE 26 l.2 fun n hn=>by
  have:=o.nums n hn
  exact dead_len (by omega) (by omega)
 have h3:=zag 1000 o.few
 have h4:=zag 26 o.dead
 rw[liveT_eq,zam]
 omega
theorem FitX.one {N:Nat} {x:EIndex} (h:FitX N x) {l:ELive} (hl:l∈x.2):SizL l.1.1 l.2/\(liveT l.1.1 l.2).length<=1000000:=by
 have h1:=h.nums l hl
 have h2:=h.each l hl
 obtain⟨h3,h4,h5⟩:=h.fit.each l hl
 have hf:=h2.dok.few
 have hd:=h2.dead
 refine⟨⟨fun d hd=>.of (h3 d hd),by omega,h1.num,by omega⟩,?_⟩
 have k1:=flat_le docT 1000 l.1.1 fun d hd=>docT_small (okDoc_each h1.ok d hd)
 have k2:=flat_le deadE 26 l.2 fun n hn=>dead_len (h1.num n hn).1 (h1.num n hn).2
 have k3:=zag 1000 hf
 have k4:=zag 26 hd
 rw[liveT_eq,zam]
 omega
theorem bytes_ok {code:List Int} (h:okD BigN (.sl (.int .u8)) code):Bs code:=fun x hx=>by
 have:=h.2 x hx
 have e1:IntKind.u8.min=0:=by decide
 have e2:IntKind.u8.max=255:=by decide
 exact⟨by have h1:=this.1;rw[e1]at h1;exact h1,by have h1:=this.2;rw[e2]at h1;exact h1⟩
def cInt (x:Int):Nat:=1
def cStr (x:List UInt8):Nat:=1
def cSyn (x:ESyn):Nat:=mcnt cStr x.1+1
def cConf (x:EConf):Nat:=mcnt cStr x.1+mcnt cSyn x.2
def cField (x:EField):Nat:=1+1
def cAttr (x:EAttr):Nat:=1+1
def cDoc (x:EDoc):Nat:=1+mcnt cField x.2.1+mcnt cAttr x.2.2
def cPost (x:EPost):Nat:=1+mcnt cInt x.2
def cEntry (x:EEntry):Nat:=1+1+mcnt cPost x.2.2
def cSeg (x:ESeg):Nat:=mcnt cDoc x.1+mcnt cEntry x.2
abbrev TLive :Tp:=.pair TSeg (.sl (.int .i64))
theorem mcnt_int :∀l:List Int,mcnt cInt l=l.length
 | []=>rfl
 |x::l=>by simp only[mcnt,mcnt_int l,zi,cInt];omega
def cLive (x:ELive):Nat:=cSeg x.1+mcnt cInt x.2
theorem cLive_few {l:ELive} (h:FitL l):cLive l<=500000000000:=by
 have hi:∀xs:List Int,mcnt cInt xs=xs.length:=mcnt_int
 have h1:mcnt cDoc l.1.1<=16*13:=by
  have:=mcnt_le (c:=cDoc) 13 l.1.1 fun d hd=>by
   have he:=h.dok.each d hd
   have a1:=mcnt_le (c:=cField) 2 d.2.1 fun x _=>zae _
   have a2:=mcnt_le (c:=cAttr) 2 d.2.2 fun x _=>zae _
   unfold cDoc
   have b1:=zag 2 he.1
   have b2:=zag 2 he.2.1
   omega
  exact zau this (zag 13 h.dok.few)
 have h2:mcnt cEntry l.1.2<=7680*58990082:=by
  have:=mcnt_le (c:=cEntry) 58990082 l.1.2 fun e he=>by
   obtain⟨s1,s2⟩:=h.small.2 e he
   have a1:=mcnt_le (c:=cPost) 7681 e.2.2 fun p hp=>by
    have:=s2 p hp
    unfold cPost
    rw[hi]
    omega
   have b1:=zag 7681 s1
   unfold cEntry
   omega
  exact zau this (zag 58990082 h.small.1)
 have h3:=h.dead
 unfold cLive cSeg
 rw[hi]
 omega
theorem OneL.live {c:EConf} {l:ELive} (o:OneL c l):okD Sm TLive l:=by
 have h1:=o.few
 have h2:=o.dead
 refine⟨⟨⟨by show l.1.1.length<=1048576;omega,fun d hd=>okD_ok (okDoc_each o.docs d hd)⟩,?_⟩,⟨by show l.2.length<=1048576;omega,fun(n:Int) hn=>?_⟩⟩
 .show okD Sm (.sl TEntry) l.1.2
  rw[o.ents]
  exact entries_okD c o.conf o.docs
 .have:=o.nums n hn
  exact⟨by show(-9223372036854775808:Int)<=n;omega,by show n<=9223372036854775807;omega⟩
end Go.Proofs.YtcinmmojlcchfaaGreatDoor
