import Derived.Test.YtcinmmojlcchfaaGreatDoorSE1
import Derived.Test.YtcinmmojlcchfaaGreatDoorSD1
import Derived.Test.YtcinmmojlcchfaaGreatDoorFS
set_option linter.unusedVariables false
set_option linter.unusedSimpArgs false
namespace Go.Proofs.YtcinmmojlcchfaaGreatDoor
open Go.RowKit
theorem jX9 (N:Nat) (hN:1048600<=N) (ls:List (List UInt8)) (hl:∀l,l∈ls->l.length<=1048576) (hs:sumL ls<=1048577):jXo N ls=some (readD ls):=by
 have hlen:=sumL_len ls
 unfold jXo
 refine Def.get ?_
 refine Def.iter (fun g=>∃(n:Nat) (D:EDoc),g=(ls,(ls.length:Int),(n:Int),(0:Int),D.1,D.2.1,D.2.2)/\n<=ls.length/\D=(ls.take n).foldl readLn (0,[],[])) (fun g=>ls.length-g.2.2.1.toNat) (fun go g hI ih=>?_) N _ ⟨0,(0,[],[]),rfl,zaf _,rfl⟩ (by dsimp only;omega)
 obtain⟨n,D,rfl,hn',hD⟩:=hI
 dsimp only
 by_cases hn:n<ls.length
 .have hx:=hl _ (zr hn)
  have hr:=RdD.fold (ls.take n) .zero fun l h=>hl l (zaP h)
  rw[<-hD]at hr
  have h1:=hr.fl
  have h2:=hr.al
  have h3:=sumL_take ls n
  have e:(ls.take (n+1)).foldl readLn (0,[],[])=readLn D ls[n]:=by rw[zo hn,zaX,hD];rfl
  have hgo:∀D':EDoc,D'=readLn D ls[n]->Def (go (ls,(ls.length:Int),((n:Int)+1),(0:Int),D'.1,D'.2.1,D'.2.2)) fun r=>r=readD ls:=fun D' h=>ih _ ⟨n+1,D',by rw[cast_succ'],hn,by rw[e,h]⟩ (by dsimp only;omega)
  have k1:=(cut1_len 32 ls[n]).2
  have k2:=(cut1_len 32 (cut1 32 ls[n]).2.1).2
  have c1:k_strings_Cut_m N ls[n] [32]=some (cut1 32 ls[n]):=cutM_one hx
  have c2:k_strings_Cut_m N (cut1 32 ls[n]).2.1 [32]=some (cut1 32 (cut1 32 ls[n]).2.1):=cutM_one (by omega)
  have a1:jXn N (cut1 32 ls[n]).2.1=some (atoiN (cut1 32 ls[n]).2.1):=atoiM_one (by omega)
  have a2:jXn N (cut1 32 (cut1 32 ls[n]).2.1).2.1=some (atoiN (cut1 32 (cut1 32 ls[n]).2.1).2.1):=atoiM_one (by omega)
  rw[zb (by omega:(n:Int)<ls.length),zg,idx_at hn,za,c1,za,c2,za,a1,a2,za,za]
  unfold readLn at hgo
  dsimp only at hgo
  by_cases e1:(cut1 32 ls[n]).1=[100,111,99]
  .rw [zb e1,zg]at hgo
   rw[zb e1,zg]
   exact Def.ite (fits_nat (n:=n) (by omega)) (hgo _ rfl)
  rw[zd e1,ze]at hgo
  rw[zd e1,ze]
  by_cases e2:(cut1 32 ls[n]).1=[102,105,101,108,100]
  .rw [zb e2,zg]at hgo
   rw[zb e2,zg]
   exact Def.ite (room_of (by rw[zbE];omega) (by rw[zbE];omega)) (Def.ite (fits_nat (n:=n) (by omega)) (hgo _ rfl))
  rw[zd e2,ze]at hgo
  rw[zd e2,ze]
  by_cases e3:(cut1 32 ls[n]).1=[110,117,109]
  .rw [zb e3,zg]at hgo
   rw[zb e3,zg]
   exact Def.ite (room_of (by rw[zbE];omega) (by rw[zbE];omega)) (Def.ite (fits_nat (n:=n) (by omega)) (hgo _ rfl))
  rw[zd e3,ze]at hgo
  rw[zd e3,ze]
  exact Def.ite (fits_nat (n:=n) (by omega)) (hgo _ rfl)
 .rw [zd (by omega:¬(n:Int)<ls.length),ze]
  rw[zba (by omega)]at hD
  refine Def.ret ?_
  unfold readD
  rw[<-hD]
def outL :Option ELive->List EDoc×List EEntry×List Int×Bool
 |some l=>(l.1.1,l.1.2,l.2,true)
 |none=>([],[],[],false)
theorem jX5 {c:EConf} {s:List UInt8} (hc:okConf c=false):getI c s=none:=by
 cases h:getI c s with
 |none=>rfl
 |some l=>
  have:=(okIdx_ok (getI_some h).1).1
  rw[hc]at this
  cases this
theorem jYj (c:EConf) (docs:List EDoc):(segI c docs).1=docs\/(segI c docs).1=[]:=by
 unfold segI
 cases okConf c&&okDocs docs
 .exact .inr rfl
 .exact .inl rfl
theorem jYo {α:Type} (l:List α) {a e:Nat} (h:a<=e) (he:e<=l.length):l.drop a=(l.take e).drop a++l.drop e:=by
 have e1:l.take e++l.drop e=l:=zaR e l
 have e2:(l.take e++l.drop e).drop a=(l.take e).drop a++l.drop e:=by rw[List.drop_append_of_le_length (by rw[zah];omega)]
 rw[e1]at e2
 exact e2
theorem jYn {N:Nat} (hM:Sm<N) (hN:N<=16777216) {c:EConf} (oc:okD Sm TConf c) {docs:List EDoc} {dead:List Int} (hd:∀d,d∈docs->okD Sm TDoc d) (h1:docs.length<=1048576) (h2:dead.length<=1048576):FitI N (c,[(segI c docs,dead)]):=
 ⟨hM,hN,oc,by show 1<=1048576;omega,fun l hl=>by
  rw[zaD]at hl
  subst hl
  dsimp only
  rcases jYj c docs with e|e
  .rw [e];exact⟨hd,h1,h2⟩
  .rw [e];exact⟨(fun d h=>by cases h),zaf _,h2⟩⟩
set_option maxHeartbeats 1000000 in
theorem liveGet_i {N:Nat} (hN:1048600<=N) (hN2:N<=16777216) (c:EConf) (oc:okD Sm TConf c) (s:List UInt8) (hs:s.length<=1048576):jY4 N c.1 c.2 s=some (outL (getI c s)):=by
 have hM:Sm<N:=by show 1048576<N;omega
 unfold jY4
 rw[confOk_spec N hM (by omega) c oc,za]
 cases hc:okConf c with
 |false=>
  rw[zaI,zg,jX5 hc]
  rfl
 |true=>
  have hsp:k_strings_Split_m N s [10]=some (cutAt 10 s):=by
   show splitM s [10]=_
   unfold splitM
   dsimp only
   rw[zf (by omega)]
  rw[zn,ze,hsp,za]
  refine Def.get ?_
  have hsum:=sumL_cut 10 s
  have hG:getI c s=(let r:=readL (cutAt 10 s);let l:ELive:=(segI c r.1,r.2);bif !decide (s=[])&&decide (putLive c l=s)then some l else none):=rfl
  generalize cutAt 10 s=ls at hsum hG⊢
  have hl:∀l,l∈ls->l.length<=1048576:=fun l h=>by have:=sumL_mem h;omega
  have hlen:=sumL_len ls
  obtain⟨q1,q2,q3,q4⟩:=readL_ok _ ls (zae _) hl (by omega)
  refine Def.iter (fun g=>∃(docs:List EDoc) (dead:List Int) (a:Nat),g=(s,docs,dead,ls,(a:Int),c.1,c.2)/\a<=ls.length/\docs.length<=a/\dead.length<=a/\(docs++(readL (ls.drop a)).1,dead++(readL (ls.drop a)).2)=readL ls) (fun g=>ls.length-g.2.2.2.2.1.toNat) (fun go g hI ih=>?_) N _ ⟨[],[],0,rfl,zaf _,zae _,zae _,by simp⟩ (by dsimp only;omega)
  obtain⟨docs,dead,a,rfl,h1,h2,h3,h4⟩:=hI
  dsimp only
  by_cases ha:a<ls.length
  .have hd:ls.drop a=ls[a]::ls.drop (a+1):=zan ha
   have hx:=hl _ (zr ha)
   rw[zb (by omega:(a:Int)<ls.length),zg,idx_at ha,za,cutPre_spec,za]
   rw[hd,readL]at h4
   cases hp:deadP.isPrefixOf ls[a]with
   |true=>
    have hp':([100,101,97,100,32]:List UInt8).isPrefixOf ls[a]=true:=hp
    have hat:jXn N (ls[a].drop ([100,101,97,100,32]:List UInt8).length)=some (atoiN (ls[a].drop 5)):=atoiM_one (by rw[zaQ];omega)
    rw[hp,zg]at h4
    rw[hp',zg]
    dsimp only
    rw[zg,hat,za]
    refine Def.ite (room_of (by rw[zbE];omega) (by rw[zbE];omega)) (Def.ite (fits_nat (by omega)) (ih _ ⟨docs,dead++ [atoiN (ls[a].drop 5)],a+1,by rw[cast_succ'],ha,by omega,by rw[zam,zbE];omega,?_⟩ (by dsimp only;omega)))
    rw[<-h4]
    simp
   |false=>
    have hp':([100,101,97,100,32]:List UInt8).isPrefixOf ls[a]=false:=hp
    rw[hp,ze]at h4
    rw[hp',ze]
    dsimp only
    rw[ze,zf (fits_nat (by omega))]
    refine Def.iter (fun g=>∃e:Nat,g=(s,docs,dead,ls,(a:Int),(e:Int),c.1,c.2)/\a+1<=e/\e<=ls.length/\∀x,x∈(ls.take e).drop (a+1)->midB x=true) (fun g=>ls.length-g.2.2.2.2.2.1.toNat) (fun go2 g hI ih2=>?_) N _ ⟨a+1,by rw[cast_succ'],zae _,ha,fun x hx=>by rw[zbw (by rw[zah];omega)]at hx;cases hx⟩ (by dsimp only;omega)
    obtain⟨e,rfl,g1,g2,g3⟩:=hI
    have hexit:(∀y ys,ls.drop e=y::ys->midB y=false)->Def (Option.bind (idx ls (a:Int)) fun(e4:List UInt8)=>bif(!decide (e4=([]:List UInt8)))then(Option.bind (cut ls (a:Int) (e:Int)) fun(y:List (List UInt8))=>Option.bind (jXo N y) fun(r7:EDoc)=>if room docs.length ([r7]:List EDoc).length 56 then go (s,docs++([r7]:List EDoc),dead,ls,(e:Int),c.1,c.2)else none)else go (s,docs,dead,ls,(e:Int),c.1,c.2)) fun r=>r=outL (getI c s):=fun hend=>by
     have hw:=while_mid g3 hend
     rw[<-jYo ls (by omega) g2]at hw
     rw[hw.1,hw.2]at h4
     rw[idx_at ha,za]
     by_cases hz:ls[a]=[]
     .rw [zb hz,zn,ze]at h4⊢
      exact ih _ ⟨docs,dead,e,rfl,g2,by omega,by omega,h4⟩ (by dsimp only;omega)
     .rw [zd hz,zaI,zg]at h4⊢
      refine Def.cut (by omega) (by omega) (by omega) ?_
      rw[zai,zai]
      have hlt:a<(ls.take e).length:=by rw[zah];omega
      have hc:(ls.take e).drop a=ls[a]::(ls.take e).drop (a+1):=by rw[zan hlt,List.getElem_take]
      have hsub:∀l,l∈(ls.take e).drop a->l∈ls:=fun l h=>zaP (zbP h)
      have hsz:sumL ((ls.take e).drop a)<=1048577:=by
       have k1:=sumL_append ((ls.take e).take a) ((ls.take e).drop a)
       rw[zaR]at k1
       have k2:=sumL_take ls e
       omega
      rw[jX9 N hN _ (fun l h=>hl l (hsub l h)) hsz,za]
      refine Def.ite (room_of (by rw[zbE];omega) (by rw[zbE];omega)) (ih _ ⟨docs++ [readD ((ls.take e).drop a)],dead,e,rfl,g2,by rw[zam,zbE];omega,by omega,?_⟩ (by dsimp only;omega))
      rw[<-h4,hc]
      simp
    dsimp only
    by_cases he:e<ls.length
    .have hde:ls.drop e=ls[e]::ls.drop (e+1):=zan he
     rw[zb (by omega:(e:Int)<ls.length),zg,idx_at he,za,hasPre_spec,za]
     cases hq:docP.isPrefixOf ls[e]with
     |true=>
      have hq':([100,111,99,32]:List UInt8).isPrefixOf ls[e]=true:=hq
      rw[hq',zn,ze]
      refine hexit fun y ys hy=>?_
      rw[hde,List.cons.injEq]at hy
      rw[<-hy.1]
      unfold midB
      rw[hq]
      rfl
     |false=>
      have hq':([100,111,99,32]:List UInt8).isPrefixOf ls[e]=false:=hq
      rw[hq',zaI,zg,za,hasPre_spec,za]
      cases hq2:deadP.isPrefixOf ls[e]with
      |true=>
       have hq2':([100,101,97,100,32]:List UInt8).isPrefixOf ls[e]=true:=hq2
       rw[hq2',zn,ze]
       refine hexit fun y ys hy=>?_
       rw[hde,List.cons.injEq]at hy
       rw[<-hy.1]
       unfold midB
       rw[hq,hq2]
       rfl
      |false=>
       have hq2':([100,101,97,100,32]:List UInt8).isPrefixOf ls[e]=false:=hq2
       rw[hq2',zaI,zg]
       refine Def.ite (fits_nat (by omega)) (ih2 _ ⟨e+1,by rw[cast_succ'],by omega,he,fun x hx=>?_⟩ (by dsimp only;omega))
       rw[zo he,List.drop_append_of_le_length (by rw[zah];omega),zaB,zaD]at hx
       rcases hx with hx|rfl
       .exact g3 x hx
       .unfold midB
        rw[hq,hq2]
        rfl
    .rw [zd (by omega:¬(e:Int)<ls.length),ze]
     refine hexit fun y ys hy=>?_
     rw[zbw (by omega)]at hy
     cases hy
  .rw [zd (by omega:¬(a:Int)<ls.length),ze]
   rw[zbw (by omega),readL,zat,zat]at h4
   rw[<-h4]at q1 q2 q3 q4 hG
   dsimp only at q1 q2 q3 q4 hG
   rw[jme N hM hN2 c oc docs q3 (by omega)]
   have eS:(bif okConf c&&okDocs docs then(docs,entriesS c docs)else(([],[]):ESeg))=segI c docs:=rfl
   rw[eS,za]
   by_cases hs0:s=[]
   .rw [zb hs0,zg]
    rw[zb hs0,zn,Bool.false_and,ze]at hG
    rw[hG]
    exact Def.ret rfl
   .rw [zd hs0,ze]
    rw[zd hs0,zaI,zaj]at hG
    have hF:=jYn hM hN2 oc q3 (by omega) (by omega:dead.length<=1048576)
    have hP:i_LivePut_m N c.1 c.2 (segI c docs).1 (segI c docs).2 dead=some (putLive c (segI c docs,dead)):=livePut_i hF
    rw[hP,za]
    by_cases hq:putLive c (segI c docs,dead)=s
    .rw [zb hq,zg]at hG
     rw[zb hq,zn,ze,hG]
     exact Def.ret rfl
    .rw [zd hq,ze]at hG
     rw[zd hq,zaI,zg,hG]
     exact Def.ret rfl
structure SizG (d:EDoc) (n:Nat):Prop where
 id: -9223372036854775808<=d.1/\d.1<=9223372036854775807
 fl:d.2.1.length<=n
 al:d.2.2.length<=n
 f:∀f,f∈d.2.1->f.1.length<=1048576/\f.2.length<=1048576
 a:∀a,a∈d.2.2->a.1.length<=1048576/\ -9223372036854775808<=a.2/\a.2<=9223372036854775807
structure StOk (st:StS) (k m t:Nat):Prop where
 od:∀d,d∈st.1->okD Sm TDoc d
 kl:st.1.length<=k
 ml:st.2.1.length<=m
 num:∀n,n∈st.2.1-> -1<=n/\n<=999999999
 tl:st.2.2.length<=t
theorem okD_ok {d:EDoc} (h:okDoc d=true):okD Sm TDoc d:=by
 have g:=goodD h
 have h1:=g.id1
 have h2:=g.id2
 have h3:=g.fl
 have h4:=g.al
 refine⟨⟨by show(-9223372036854775808:Int)<=d.1;omega,by show d.1<=9223372036854775807;omega⟩,⟨by show d.2.1.length<=1048576;omega,fun(f:EField) hf=>?_⟩,⟨by show d.2.2.length<=1048576;omega,fun(a:EAttr) ha=>?_⟩⟩
 .obtain ⟨k1,k2⟩:=g.f f hf
  have k3:=((okW_iff _).1 k1).2.2
  have k4:=okT_len k2
  exact⟨by show f.1.length<=1048576;omega,by show f.2.length<=1048576;omega⟩
 .obtain ⟨k1,k2,k3⟩:=g.a a ha
  have k4:=((okW_iff _).1 k1).2.2
  exact⟨by show a.1.length<=1048576;omega,by show(-9223372036854775808:Int)<=a.2;omega,by show a.2<=9223372036854775807;omega⟩
theorem docT_small {d:EDoc} (h:okDoc d=true):(docT d).length<=1000:=by
 have g:=goodD h
 have h0:=itoa_len20 (n:=d.1) (by have:=g.id1;omega) (by have:=g.id2;omega)
 have h1:=flat_le fieldE 200 d.2.1 fun f hf=>by
  obtain⟨k1,k2⟩:=g.f f hf
  have k3:=((okW_iff _).1 k1).2.2
  have k4:=okT_len k2
  unfold fieldE fieldLn
  simp only[zam,zi,zac]
  omega
 have h2:=flat_le numE 60 d.2.2 fun a ha=>by
  obtain⟨k1,k2,k3⟩:=g.a a ha
  have k4:=((okW_iff _).1 k1).2.2
  have k5:=itoa_len20 (n:=a.2) (by omega) (by omega)
  unfold numE numLn
  simp only[zam,zi,zac]
  omega
 have h3:=g.fl
 have h4:=g.al
 have h5:=zag 200 h3
 have h6:=zag 60 h4
 rw[docT_eq]
 unfold docLn
 simp only[zam,zi,zac]
 omega
theorem OneL.small {c:EConf} {l:ELive} (o:OneL c l):(liveT l.1.1 l.2).length<=1048576:=by
 have h1:=flat_le docT 1000 l.1.1 fun d hd=>docT_small (okDoc_each o.docs d hd)
 have h2:=flat_le deadE 26 l.2 fun n hn=>by
  have:=o.nums n hn
  exact dead_len (by omega) (by omega)
 have h3:=zag 1000 o.few
 have h4:=zag 26 o.dead
 rw[liveT_eq,zam]
 omega
theorem FitX.one {N:Nat} {x:EIndex} (h:FitX N x) {l:ELive} (hl:l∈x.2):SizL l.1.1 l.2/\(liveT l.1.1 l.2).length<=1000000:=by
 have h1:=h.nums l hl
 have h2:=h.each l hl
 obtain⟨h3,h4,h5⟩:=h.fit.each l hl
 have hf:=h2.dok.few
 have hd:=h2.dead
 refine⟨⟨fun d hd=>.of (h3 d hd),by omega,h1.num,by omega⟩,?_⟩
 have k1:=flat_le docT 1000 l.1.1 fun d hd=>docT_small (okDoc_each h1.ok d hd)
 have k2:=flat_le deadE 26 l.2 fun n hn=>dead_len (h1.num n hn).1 (h1.num n hn).2
 have k3:=zag 1000 hf
 have k4:=zag 26 hd
 rw[liveT_eq,zam]
 omega
theorem bytes_ok {code:List Int} (h:okD BigN (.sl (.int .u8)) code):Bs code:=fun x hx=>by
 have:=h.2 x hx
 have e1:IntKind.u8.min=0:=by decide
 have e2:IntKind.u8.max=255:=by decide
 exact⟨by have h1:=this.1;rw[e1]at h1;exact h1,by have h1:=this.2;rw[e2]at h1;exact h1⟩
def cInt (x:Int):Nat:=1
def cStr (x:List UInt8):Nat:=1
def cSyn (x:ESyn):Nat:=mcnt cStr x.1+1
def cConf (x:EConf):Nat:=mcnt cStr x.1+mcnt cSyn x.2
def cField (x:EField):Nat:=1+1
def cAttr (x:EAttr):Nat:=1+1
def cDoc (x:EDoc):Nat:=1+mcnt cField x.2.1+mcnt cAttr x.2.2
def cPost (x:EPost):Nat:=1+mcnt cInt x.2
def cEntry (x:EEntry):Nat:=1+1+mcnt cPost x.2.2
def cSeg (x:ESeg):Nat:=mcnt cDoc x.1+mcnt cEntry x.2
abbrev TLive :Tp:=.pair TSeg (.sl (.int .i64))
theorem mcnt_int :∀l:List Int,mcnt cInt l=l.length
 | []=>rfl
 |x::l=>by simp only[mcnt,mcnt_int l,zi,cInt];omega
def cLive (x:ELive):Nat:=cSeg x.1+mcnt cInt x.2
theorem cLive_few {l:ELive} (h:FitL l):cLive l<=500000000000:=by
 have hi:∀xs:List Int,mcnt cInt xs=xs.length:=mcnt_int
 have h1:mcnt cDoc l.1.1<=16*13:=by
  have:=mcnt_le (c:=cDoc) 13 l.1.1 fun d hd=>by
   have he:=h.dok.each d hd
   have a1:=mcnt_le (c:=cField) 2 d.2.1 fun x _=>zae _
   have a2:=mcnt_le (c:=cAttr) 2 d.2.2 fun x _=>zae _
   unfold cDoc
   have b1:=zag 2 he.1
   have b2:=zag 2 he.2.1
   omega
  exact zau this (zag 13 h.dok.few)
 have h2:mcnt cEntry l.1.2<=7680*58990082:=by
  have:=mcnt_le (c:=cEntry) 58990082 l.1.2 fun e he=>by
   obtain⟨s1,s2⟩:=h.small.2 e he
   have a1:=mcnt_le (c:=cPost) 7681 e.2.2 fun p hp=>by
    have:=s2 p hp
    unfold cPost
    rw[hi]
    omega
   have b1:=zag 7681 s1
   unfold cEntry
   omega
  exact zau this (zag 58990082 h.small.1)
 have h3:=h.dead
 unfold cLive cSeg
 rw[hi]
 omega
theorem OneL.live {c:EConf} {l:ELive} (o:OneL c l):okD Sm TLive l:=by
 have h1:=o.few
 have h2:=o.dead
 refine⟨⟨⟨by show l.1.1.length<=1048576;omega,fun d hd=>okD_ok (okDoc_each o.docs d hd)⟩,?_⟩,⟨by show l.2.length<=1048576;omega,fun(n:Int) hn=>?_⟩⟩
 .show okD Sm (.sl TEntry) l.1.2
  rw[o.ents]
  exact entries_okD c o.conf o.docs
 .have:=o.nums n hn
  exact⟨by show(-9223372036854775808:Int)<=n;omega,by show n<=9223372036854775807;omega⟩
end Go.Proofs.YtcinmmojlcchfaaGreatDoor
