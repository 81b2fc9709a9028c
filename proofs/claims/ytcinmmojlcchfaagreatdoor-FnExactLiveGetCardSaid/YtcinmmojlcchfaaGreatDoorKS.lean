import Derived.Test.YtcinmmojlcchfaaGreatDoorKR
set_option linter.unusedSimpArgs false
set_option linter.unusedVariables false
namespace Go.Proofs.YtcinmmojlcchfaaGreatDoor
open Go.RowKit
theorem pack_unpack :∀(l:List Tp) (ps:List Pay) (y:HD l),pack l ps=some y->unpack l y=ps
 | [],ps,y,h=>by
  simp only[pack]at h
  split at h
  .rfl
  .cases h
 | [t],ps,y,h=>by
  simp only[pack]at h
  split at h
  .rename_i p
   split at h
   .rename_i e;subst e;cases h;rfl
   .cases h
  .cases h
 |t::u::l,ps,y,h=>by
  simp only[pack]at h
  split at h
  .rename_i p qs
   split at h
   .rename_i e
    subst e
    split at h
    .rename_i z hz
     cases h
     simp only[unpack,pack_unpack (u::l) qs z hz]
    .cases h
   .cases h
  .cases h
structure MemB (Fr:Nat->Prop) (box:Nat->Option BS) (tok:Nat->Option TS) (β:Nat->Nat) (τ:Nat->Value) (F:Nat->Nat->Prop) (S:Stab) (w:World):Prop where
 boxes:∀k b,box k=some b->Fr (β k)/\(b.fz=false->∀o,¬S (β k) o)/\(b.fz=true->∀o,o<b.cs.length->S (β k) o)/\BoxAt ⟨w,S,fun k=>box k≠none,β,tok,τ⟩ k (β k) b.cs
 binj:∀k k' b b',box k=some b->box k'=some b'->β k=β k'->k=k'
 toks:∀t tk,tok t=some (.live tk)->TokOk Fr w S tk (τ t) (F t)
 tdis:∀t t' tk tk' b,tok t=some (.live tk)->tok t'=some (.live tk')->F t b->F t' b->t=t'
 tbox:∀t tk k b,tok t=some (.live tk)->box k=some b->¬F t (β k)
theorem TokOk.fr {Fr Fr':Nat->Prop} {w:World} {S:Stab} {tk:Tok} {v:Value} {F:Nat->Prop} (h:TokOk Fr w S tk v F) (hF:∀b,F b->Fr' b):TokOk Fr' w S tk v F:=⟨fun b hb=>⟨hF b hb,(h.1 b hb).2⟩,h.2⟩
def fzT (tok:Nat->Option TS) (ns:List Nat):Nat->Option TS:=fun n=>match tok n with
 |some (.live tk)=>some (.live (if n∈ns then tk.fz else tk))
 |z=>z
def fzB (box:Nat->Option BS) (ks:List Nat):Nat->Option BS:=fun k=>match box k with
 |some b=>some {b with fz:=b.fz||decide (k∈ks)}
 |none=>none
section
variable {R : Root} {w : World} {S : Stab} {box : Nat -> Option BS} {tok : Nat -> Option TS} {β : Nat -> Nat} {τ : Nat -> Value} {F : Nat -> Nat -> Prop}
theorem fzT_live {tok:Nat->Option TS} {ns:List Nat} {t:Nat} {tk:Tok} (h:fzT tok ns t=some (.live tk)):∃tk0,tok t=some (.live tk0)/\tk=if t∈ns then tk0.fz else tk0:=by
 unfold fzT at h
 split at h
 .rename_i tk0 h0;cases h;exact⟨tk0,h0,rfl⟩
 .rename_i hne;exact absurd h (hne tk)
theorem Mem.freezeToks (hM:Mem R box tok β τ F S w):∀ns:List Nat,∃S',Mem R box (fzT tok ns) β τ F S' w/\∀b o,S b o->S' b o
 | []=>⟨S,by
  have:fzT tok []=tok:=by
   funext n;unfold fzT
   split
   .rename_i tk h;rw[h];simp
   .rfl
  rw[this];exact hM,fun _ _ h=>h⟩
 |n::ns=>by
  obtain⟨S1,hM1,h1⟩:=hM.freezeToks ns
  cases hn:fzT tok ns n with
  |none=>
   refine⟨S1,?_,h1⟩
   have:fzT tok (n::ns)=fzT tok ns:=by
    funext m;unfold fzT
    by_cases e:m=n
    .subst e
     unfold fzT at hn
     split at hn
     .cases hn
     .rfl
    .split<;>simp[e]
   rw[this];exact hM1
  |some z=>cases z with
   |spent=>
    refine⟨S1,?_,h1⟩
    have:fzT tok (n::ns)=fzT tok ns:=by
     funext m;unfold fzT
     by_cases e:m=n
     .subst e
      unfold fzT at hn
      split at hn
      .cases hn
      .rfl
     .split<;>simp[e]
    rw[this];exact hM1
   |live tk=>
    obtain⟨tk0,g1,g2⟩:=fzT_live hn
    cases hwh:tk.whole with
    |false=>
     refine⟨S1,?_,h1⟩
     have:fzT tok (n::ns)=fzT tok ns:=by
      funext m
      by_cases e:m=n
      .subst e
       rw[hn]
       unfold fzT
       rw[g1]
       simp only[zp,true_or,if_true]
       congr 2
       by_cases hin:m∈ns
       .rw [zf hin]at g2;exact g2.symm
       .rw [zu hin]at g2
        rw[<-g2]
        unfold Tok.fz
        rw[hwh];rfl
      .unfold fzT
       split<;>simp[e]
     rw[this];exact hM1
    |true=>
     obtain⟨S2,hM2,h2,_⟩:=hM1.freezeTok n tk hn hwh
     refine⟨S2,?_,fun b o h=>h2 b o (h1 b o h)⟩
     have:fzT tok (n::ns)=updT (fzT tok ns) n (some (.live tk.fz0)):=by
      funext m
      by_cases e:m=n
      .subst e
       simp only[updT,if_true]
       unfold fzT
       rw[g1]
       simp only[zp,true_or,if_true]
       congr 2
       by_cases hin:m∈ns
       .rw [zf hin]at g2
        rw[g2]
        cases hw0:tk0.whole with
        |true=>rw[Tok.fz_eq hw0];rfl
        |false=>
         have e1:tk0.fz=tk0:=by unfold Tok.fz;rw[hw0];rfl
         rw[g2,e1,hw0]at hwh;cases hwh
       .rw [zu hin]at g2
        rw[g2,Tok.fz_eq (by rw[<-g2];exact hwh)]
      .simp only [updT,e,if_false]
       unfold fzT
       split<;>simp[e]
     rw[this];exact hM2
theorem Mem.freezeBox (hM:Mem R box tok β τ F S w) (k:Nat) (b:BS) (hk:box k=some b):∃S',Mem R (updB box k {b with fz:=true}) tok β τ F S' w/\∀b o,S b o->S' b o:=by
 obtain⟨k1,k2,k3,kB⟩:=hM.boxes k b hk
 have hlive:(fun j=>updB box k {b with fz:=true} j≠none)=fun j=>box j≠none:=by
  funext j
  simp only[updB]
  split
  .rename_i e;subst e;rw[hk];simp
  .rfl
 have hstep:Step (fun j=>j=β k) S (fun c o=>S c o\/(c=β k/\o<b.cs.length)) w w:=⟨Upd.refl _ _,fun _ _ _=>rfl,fun _ _ h=>.inl h,fun c o h=>h.imp id (fun h=>.inr h.1),fun c o h=>by
  rcases h with h|⟨rfl,_⟩
  .exact hM.lt c o h
  .exact hM.blt hk⟩
 refine⟨fun c o=>S c o\/(c=β k/\o<b.cs.length),⟨hM.upd,fun c o h=>.inl (hM.old c o h),fun c o h=>?_,hM.keep,hstep.lt,fun j b' hj=>?_,fun j j' b1 b2 hj hj' e=>?_,fun t tk ht=>(hM.toks t tk ht).step hstep (fun c hc e=>hM.tbox t tk k b ht hk (e▸hc)),hM.tdis,fun t tk j b' ht hj=>?_,fun j c hc hj=>?_,hM.tfix,hM.hol⟩,fun _ _ h=>.inl h⟩
 .rcases h with h|⟨rfl,_⟩
  .exact hM.new c o h
  .exact .inr k1
 .rw [hlive]
  by_cases e:j=k
  .subst e
   simp only[updB,if_true,zaE]at hj
   subst hj
   exact⟨k1,(fun h=>by cases h),fun _ o ho=>.inr ⟨rfl,ho⟩,kB.imp rfl fun x v hx=>⟨V1.mono (c:=⟨w,S,fun k=>box k≠none,β,tok,τ⟩) (c':=⟨w,fun c o=>S c o\/(c=β j/\o<b.cs.length),fun j=>box j≠none,β,tok,τ⟩) ⟨fun _ _ h=>.inl h,fun _ _ _=>rfl⟩ (BoxLe.refl rfl rfl) (TokLe.refl rfl rfl) hx.1,hx.2⟩⟩
  .simp only [updB,e,if_false]at hj
   obtain⟨j1,j2,j3,jB⟩:=hM.boxes j b' hj
   refine⟨j1,fun hz o ho=>?_,fun hz o ho=>.inl (j3 hz o ho),jB.imp rfl fun x v hx=>⟨V1.mono (c:=⟨w,S,fun k=>box k≠none,β,tok,τ⟩) (c':=⟨w,fun c o=>S c o\/(c=β k/\o<b.cs.length),fun j=>box j≠none,β,tok,τ⟩) ⟨fun _ _ h=>.inl h,fun _ _ _=>rfl⟩ (BoxLe.refl rfl rfl) (TokLe.refl rfl rfl) hx.1,hx.2⟩⟩
   rcases ho with ho|⟨ho,_⟩
   .exact j2 hz o ho
   .exact e (hM.binj j k b' b hj hk ho)
 .have conv:∀ {j b1},updB box k {b with fz:=true} j=some b1->∃b2,box j=some b2:=fun {j b1} h=>by
   by_cases e:j=k
   .exact ⟨b,e▸hk⟩
   .simp only [updB,e,if_false]at h;exact⟨b1,h⟩
  obtain⟨c1,h1⟩:=conv hj
  obtain⟨c2,h2⟩:=conv hj'
  exact hM.binj j j' c1 c2 h1 h2 e
 .by_cases e:j=k
  .subst e;exact hM.tbox t tk j b ht hk
  .simp only [updB,e,if_false]at hj;exact hM.tbox t tk j b' ht hj
 .refine hM.bfix j c hc (fun h=>hj ?_)
  by_cases e:j=k
  .subst e;rw[hk]at h;cases h
  .simp only [updB,e,if_false];exact h
theorem Mem.freezeBoxes (hM:Mem R box tok β τ F S w):∀ks:List Nat,∃S',Mem R (fzB box ks) tok β τ F S' w/\∀b o,S b o->S' b o
 | []=>⟨S,by
  have:fzB box []=box:=by
   funext n;unfold fzB
   split
   .rename_i b h;rw[h];simp
   .rename_i h;rw[h]
  rw[this];exact hM,fun _ _ h=>h⟩
 |k::ks=>by
  obtain⟨S1,hM1,h1⟩:=hM.freezeBoxes ks
  cases hk:fzB box ks k with
  |none=>
   refine⟨S1,?_,h1⟩
   have:fzB box (k::ks)=fzB box ks:=by
    funext m;unfold fzB
    by_cases e:m=k
    .subst e
     unfold fzB at hk
     split at hk
     .cases hk
     .rfl
    .split<;>simp[e]
   rw[this];exact hM1
  |some b=>
   obtain⟨S2,hM2,h2⟩:=hM1.freezeBox k b hk
   refine⟨S2,?_,fun b o h=>h2 b o (h1 b o h)⟩
   have:fzB box (k::ks)=updB (fzB box ks) k {b with fz:=true}:=by
    funext m
    by_cases e:m=k
    .subst e
     simp only[updB,if_true]
     unfold fzB at hk⊢
     split at hk
     .cases hk
      simp
     .cases hk
    .simp only [updB,e,if_false]
     unfold fzB
     split<;>simp[e]
   rw[this];exact hM2
end
section
variable (B : List (Nat × BS)) (T : List (Nat × Option TS))
theorem convB_ext :∀(l:List (Nat×Bool×List VS)) (a a':Acc),convB B T l a=some a'->Ext a a'/\(AccInv a->AccInv a')
 | [],a,a',h=>by simp only[convB]at h;cases h;exact⟨Ext.refl _,id⟩
 |(k,fz,vs)::l,a,a',h=>by
  simp only[convB]at h
  split at h
  .split at h
   .obtain ⟨a1,h1,h2⟩:=zaw.1 h
    obtain⟨a2,h3,h4⟩:=zaw.1 h2
    obtain⟨e1,g2,g3,g4,g5,g6,g7,g8,g9,_⟩:=bindBox_spec h1
    obtain⟨e2,i2⟩:=convL_ext B T vs _ _ _ h3
    obtain⟨e3,i3⟩:=convB_ext l a2 a' h4
    refine⟨e1.trans (Ext.trans (b:={a1 with fb:=if fz then a1.fb++ [(lookR a.rb k).getD k]else a1.fb,ub:=if fz then a1.ub else a1.ub++ [(lookR a.rb k).getD k]}) ⟨True.intro,⟨[],by simp⟩,fun _ _ h=>h,fun k hk=>?_,fun _ h=>h,fun _ h=>h,fun k hk=>?_⟩ (e2.trans e3)),fun hi=>i3 (i2 ⟨by rw[g4];exact hi.rt,g9 hi.rb⟩)⟩
    .simp only;split
     .exact zad _ hk
     .exact hk
    .simp only;split
     .exact hk
     .exact zad _ hk
   .cases h
  .cases h
variable {B T} {fin : Acc} {Fr : Nat -> Prop} {c c' : Ctx} {F : Nat -> Nat -> Prop}
theorem conv_map {r:Tp} {xs:List r.D} {vs:List VS} {a a':Acc} (h:convL B T vs [.pv (.sl r) xs] a=some a'):∃seg y1,a'.ps=a.ps++seg/\a'.rt=a.rt/\(∀rest,instL vs (seg++rest)=(y1,rest,[]))/\(y1=[.pv (.sl r) xs]\/y1=[.dead]):=by
 match vs,h with
 | [],h=>simp[convL]at h
 |v::v'::l,h=>
  simp only[convL]at h
  obtain⟨_,_,h⟩:=zaw.1 h
  cases h
 | [v],h=>
  simp only[convL]at h
  obtain⟨a1,h1,h2⟩:=zaw.1 h
  cases h2
  cases v with
  |dead=>
   simp only[conv]at h1
   cases h1
   exact⟨[],[.dead],by simp,rfl,fun rest=>rfl,.inr rfl⟩
  |pv t=>
   simp only[conv,AV.as]at h1
   by_cases e:Tp.sl r=t
   .subst e
    simp only[dif_pos]at h1
    cases h1
    exact⟨[⟨.sl r,xs⟩],[.pv (.sl r) xs],rfl,rfl,fun rest=>rfl,.inl rfl⟩
   .simp only [dif_neg e]at h1
    cases h1
  |_=>simp[conv]at h1
theorem conv_dead {vs:List VS} {a a':Acc} (h:convL B T vs [.dead] a=some a'):a'.ps=a.ps/\a'.rt=a.rt/\(∀rest,instL vs rest=([.dead],rest,[])):=by
 match vs,h with
 | [],h=>simp[convL]at h
 |v::v'::l,h=>
  simp only[convL]at h
  obtain⟨_,_,h⟩:=zaw.1 h
  cases h
 | [v],h=>
  simp only[convL]at h
  obtain⟨a1,h1,h2⟩:=zaw.1 h
  cases h2
  cases v with
  |dead=>
   simp only[conv]at h1
   cases h1
   exact⟨rfl,rfl,fun rest=>rfl⟩
  |_=>simp[conv,AV.as]at h1
theorem map_conv {vs:List VS} {cs:List AV} {a a':Acc} {w:World} {b:Nat} (hm:MapAt w b cs) (h:convL B T vs cs a=some a'):∃seg y1,a'.ps=a.ps++seg/\a'.rt=a.rt/\(∀rest,instL vs (seg++rest)=(y1,rest,[]))/\MapAt w b y1/\y1.length=cs.length:=by
 obtain⟨kt,vt,es,ents,clk,h1,h2,h3⟩:=hm
 rcases h1 with rfl|rfl
 .obtain ⟨seg,y1,g1,g2,g3,g4⟩:=conv_map h
  refine⟨seg,y1,g1,g2,g3,⟨kt,vt,es,ents,clk,g4,h2,h3⟩,?_⟩
  rcases g4 with rfl|rfl<;>rfl
 .obtain ⟨g1,g2,g3⟩:=conv_dead h
  exact⟨[],[.dead],by simp[g1],g2,fun rest=>g3 rest,⟨kt,vt,es,ents,clk,.inr rfl,h2,h3⟩,rfl⟩
theorem convB_ok (hK:Known B T fin Fr c c' F) (hcw:c'.w=c.w) (hbv:∀k b,lookB B k=some b->BoxAt c k (c.β k) b.cs):∀(l:List (Nat×Bool×List VS)) (a a':Acc),convB B T l a=some a'->Ext a' fin->
  ∃seg rseg bs us,a'.ps=a.ps++seg/\a'.rt=a.rt++rseg/\(∀rest,instB l (seg++rest)=(bs,us))/\All2 (TR c) rseg us/\bs.map (·.1)=l.map (·.1)/\((∀n z,(n,z)∈us->c'.tok n=z)->∀k b',(k,b')∈bs->∃k' b,lookR fin.rb k=some k'/\lookB B k'=some b/\BoxAt c' k (c.β k') b'.cs/\(b'.fz=true->k'∈fin.fb)/\(b'.fz=false->b.fz=false/\k'∈fin.ub)/\b'.cs.length=b.cs.length)
 | [],a,a',h,hf=>by
  simp only[convB]at h;cases h
  exact⟨[],[],[],[],by simp,by simp,fun rest=>rfl,True.intro,rfl,fun _ k b' h=>by cases h⟩
 |(k,fz,vs)::l,a,a',h,hf=>by
  simp only[convB]at h
  split at h
  case h_2=>cases h
  rename_i b hb
  split at h
  case isFalse=>cases h
  rename_i hfz
  obtain⟨a1,h1,h2⟩:=zaw.1 h
  obtain⟨a2,h3,h4⟩:=zaw.1 h2
  obtain⟨e1,g2,g3,g4,g5,g6,g7,g8,g9,_⟩:=bindBox_spec h1
  obtain⟨e2,_⟩:=convL_ext B T vs _ _ _ h3
  obtain⟨e3,_⟩:=convB_ext B T l a2 a' h4
  have hcore:∃s1 r1 y1 t1,a2.ps=a1.ps++s1/\a2.rt=a1.rt++r1/\(∀rest,instL vs (s1++rest)=(y1,rest,t1))/\All2 (TR c) r1 t1/\((∀n z,(n,z)∈t1->c'.tok n=z)->BoxAt c' k (c.β ((lookR a.rb k).getD k)) y1/\y1.length=b.cs.length):=by
   have hmm:=hK.nm _ _ (hf.rb _ _ (e3.rb _ _ (e2.rb _ _ g2)))
   rcases hbv _ b hb with⟨hn,us,Ty,hheap,hus⟩|⟨hn,hmap⟩|⟨hn,us,⟨bm,n,m,seen,i1,i2,i3⟩,hus⟩
   .obtain ⟨s1,r1,y1,t1,p1,p2,p3,p4,p5⟩:=convL_ok hK (fun c=>V1c c) (fun x x' v h=>V3_of_V1 h.1) (fun x x' v hi h=>⟨hi.2.1 h.1,h.2⟩) vs b.cs _ a2 us h3 (e3.trans hf) hus
    refine⟨s1,r1,y1,t1,p1,p2,p3,p4,fun ht=>?_⟩
    have ht:=p5 ht
    exact⟨.inl ⟨(kindN_map hmm).trans hn,us,Ty,by rw[hcw];exact hheap,ht⟩,by rw[ht.len,hus.len]⟩
   .obtain ⟨seg,y1,p1,p2,p3,p4,p5⟩:=map_conv hmap h3
    exact⟨seg,[],y1,[],p1,by simp[p2],p3,True.intro,fun _=>⟨.inr (.inl ⟨hmm.trans hn,by rw[hcw];exact p4⟩),p5⟩⟩
   .obtain ⟨s1,r1,y1,t1,p1,p2,p3,p4,p5⟩:=convL_ok hK (fun c=>V1c c) (fun x x' v h=>V3_of_V1 h.1) (fun x x' v hi h=>⟨hi.2.1 h.1,h.2⟩) vs b.cs _ a2 us h3 (e3.trans hf) hus
    refine⟨s1,r1,y1,t1,p1,p2,p3,p4,fun ht=>?_⟩
    have ht:=p5 ht
    exact⟨.inr (.inr ⟨hmm.trans hn,us,⟨bm,n,m,seen,i1,by rw[hcw];exact i2,i3⟩,ht⟩),by rw[ht.len,hus.len]⟩
  obtain⟨s1,r1,y1,t1,p1,p2,p3,p4,p5⟩:=hcore
  obtain⟨s2,r2,bs,t2,q1,q2,q3,q4,q6,q5⟩:=convB_ok hK hcw hbv l a2 a' h4 hf
  refine⟨s1++s2,r1++r2,(k,⟨fz,y1⟩)::bs,t1++t2,by rw[q1,p1,zao,<-g3],by rw[q2,p2,zao,<-g4],fun rest=>?_,p4.append q4,by simp[q6],fun hts j b' hj=>?_⟩
  .simp only [instB,zao,p3,q3]
  .rcases zp.1 hj with hj|hj
   .cases hj
    have ht:=p5 fun n z hz=>hts n z (zad _ hz)
    refine⟨_,b,hf.rb _ _ (e3.rb _ _ (e2.rb _ _ g2)),hb,ht.1,fun hz=>hf.fb _ (e3.fb _ (e2.fb _ ?_)),fun hz=>⟨?_,hf.ub _ (e3.ub _ (e2.ub _ ?_))⟩,ht.2⟩
    .simp only at hz;simp[hz]
    .simp only at hz
     cases hbf:b.fz with
     |false=>rfl
     |true=>have:=hfz hbf;rw[hz]at this;cases this
    .simp only at hz;simp[hz]
   .exact q5 (fun n z hz=>hts n z (zaJ _ hz)) j b' hj
end
theorem tr_names {c:Ctx}:∀ {l:List (Nat×Option Nat)} {ts:List (Nat×Option TS)},All2 (TR c) l ts->ts.map (·.1)=l.map (·.1)
 | [],[],_=>rfl
 |x::l,y::ts,h=>by simp[h.1.1,tr_names h.2]
 | [],_::_,h=>h.elim
 |_::_,[],h=>h.elim
theorem lookT_nodup :∀ {ts:List (Nat×Option TS)},(ts.map (·.1)).Nodup->∀n z,(n,z)∈ts->lookT ts n=z
 | [],_,n,z,h=>by cases h
 |(m,y)::ts,hn,n,z,h=>by
  simp only[zv,zbg]at hn
  simp only[lookT]
  rcases zp.1 h with h|h
  .cases h;simp
  .have:n≠m:=fun e=>hn.1 (by rw[<-e];exact zab.2 ⟨(n,z),h,rfl⟩)
   rw[zu this]
   exact lookT_nodup hn.2 n z h
theorem lookT_mem :∀ {ts:List (Nat×Option TS)} {n:Nat} {z:TS},lookT ts n=some z->(n,some z)∈ts
 | [],n,z,h=>by cases h
 |(m,y)::ts,n,z,h=>by
  simp only[lookT]at h
  split at h
  .rename_i e;subst e;subst h;exact zy
  .exact zl _ (lookT_mem h)
theorem lookB_mem :∀ {bs:List (Nat×BS)} {k:Nat} {b:BS},lookB bs k=some b->(k,b)∈bs
 | [],k,b,h=>by cases h
 |(m,y)::bs,k,b,h=>by
  simp only[lookB]at h
  split at h
  .rename_i e;subst e;cases h;exact zy
  .exact zl _ (lookB_mem h)
theorem lookB_isSome :∀ {bs:List (Nat×BS)} {k:Nat},k∈bs.map (·.1)->lookB bs k≠none
 |(m,y)::bs,k,h=>by
  simp only[lookB]
  split
  .simp
  .rename_i e
   simp only[zv,zp]at h
   exact lookB_isSome (h.resolve_left e)
def shβ (a:Acc) (β:Nat->Nat) (k:Nat):Nat:=β ((lookR a.rb k).getD k)
def shτ (a:Acc) (τ:Nat->Value) (n:Nat):Value:=match lookR a.rt n with
 |some (some m)=>τ m
 |_=>.slice none 0 0
def shF (a:Acc) (F:Nat->Nat->Prop) (n:Nat):Nat->Prop:=match lookR a.rt n with
 |some (some m)=>F m
 |_=>fun _=>False
theorem lookR_nodup {α:Type}:∀ {l:List (Nat×α)},(l.map (·.1)).Nodup->∀n z,(n,z)∈l->lookR l n=some z
 | [],_,n,z,h=>by cases h
 |(m,y)::l,hn,n,z,h=>by
  simp only[zv,zbg]at hn
  simp only[lookR]
  rcases zp.1 h with h|h
  .cases h;simp
  .have:n≠m:=fun e=>hn.1 (by rw[<-e];exact zab.2 ⟨(n,z),h,rfl⟩)
   rw[zu this]
   exact lookR_nodup hn.2 n z h
theorem fz_wr {tk:Tok} (h:tk.wr=false):tk.fz.wr=false:=by unfold Tok.fz;cases tk.whole<;>first|exact h|rfl
theorem fzT_le {w:World} {S S':Stab} {live:Nat->Prop} {β:Nat->Nat} {τ:Nat->Value} (tok:Nat->Option TS) (ns:List Nat):TokLe ⟨w,S,live,β,tok,τ⟩ ⟨w,S',live,β,fzT tok ns,τ⟩:=fun t ht=>by
 have ht:tok t≠none:=ht
 refine⟨?_,fun tk' h=>?_⟩
 .show fzT tok ns t≠none
  unfold fzT;split
  .simp
  .exact ht
 .obtain ⟨tk0,h1,rfl⟩:=fzT_live (show fzT tok ns t=some (.live tk')from h)
  exact⟨tk0,h1,rfl,by split<;>simp[Tok.fz_t],fun hw=>by
   by_cases hin:t∈ns
   .rw [zf hin];exact⟨fz_wr hw,Tok.fz_row tk0⟩
   .rw [zu hin];exact⟨hw,rfl⟩⟩
theorem conv_mem {R:Root} {w:World} {S:Stab} {box:Nat->Option BS} {tok:Nat->Option TS} {β:Nat->Nat} {τ:Nat->Value} {F:Nat->Nat->Prop} (hM:Mem R box tok β τ F S w) {B:List (Nat×BS)} {T:List (Nat×Option TS)} (hB:∀k b,lookB B k=some b->box k=some b) (hT:∀n z,lookT T n=some z->tok n=some z)
  {sh:Sh} {xs:List AV} {y:HD sh.codes} {acc:Acc} (hc:sh.conv B T xs=some (y,acc)) {vals:List Value} (hv:All2 (V3 ⟨w,S,fun k=>box k≠none,β,tok,τ⟩) xs vals):
  AccInv acc/\∃S',(∀b o,S b o->S' b o)/\Mem R (fzB box acc.fb) (fzT tok acc.ft) β τ F S' w/\(∀k b,lookB (sh.mk' y).B k=some b->∃k' b',lookR acc.rb k=some k'/\fzB box acc.fb k'=some b'/\b'.fz=b.fz)/\
   (∀n tk,lookT (sh.mk' y).T n=some (.live tk)->∃n',(n,n')∈acc.rt/\match n' with|some m=>∃tk0,fzT tok acc.ft m=some (.live tk0)/\tk0.wr=tk.wr|none=>True)/\
   (∀n x,(n,x)∈acc.rt->∃tk,lookT (sh.mk' y).T n=some (.live tk))/\(∀k k',lookR acc.rb k=some k'->lookB (sh.mk' y).B k≠none)/\
   (∀Fr',(∀k b,lookB (sh.mk' y).B k=some b->Fr' (shβ acc β k))->(∀t tk b,lookT (sh.mk' y).T t=some (.live tk)->shF acc F t b->Fr' b)->MemB Fr' (lookB (sh.mk' y).B) (lookT (sh.mk' y).T) (shβ acc β) (shτ acc τ) (shF acc F) S' w)/\
   All2 (V3 ((sh.mk' y).ctx w S' (shβ acc β) (shτ acc τ))) (sh.mk' y).L vals:=by
 unfold Sh.conv at hc
 obtain⟨a1,h1,hc⟩:=zaw.1 hc
 obtain⟨a2,h2,hc⟩:=zaw.1 hc
 split at hc
 case isFalse=>cases hc
 rename_i hok
 obtain⟨y',hy,he⟩:=zaA.1 hc
 cases he
 simp only[accOk,zj,zax]at hok
 obtain⟨⟨⟨⟨hmt,hub⟩,hrbl⟩,hrbm⟩,hfbm⟩:=hok
 obtain⟨x1,i1⟩:=convL_ext B T sh.vals xs _ a1 h1
 obtain⟨x2,i2⟩:=convB_ext B T sh.boxes a1 acc h2
 have hinv:AccInv acc:=i2 (i1 ⟨⟨by simp,fun i j x y m hi=>by simp at hi⟩,fun j j' i h=>by cases h⟩)
 obtain⟨S1,hM1,hS1⟩:=hM.freezeToks acc.ft
 obtain⟨S',hM',hS2⟩:=hM1.freezeBoxes acc.fb
 have hSS:∀b o,S b o->S' b o:=fun b o h=>hS2 b o (hS1 b o h)
 have hlive:(fun k=>fzB box acc.fb k≠none)=fun k=>box k≠none:=by
  funext k;unfold fzB
  split
  .rename_i b h;simp[h]
  .rename_i h;simp[h]
 refine⟨hinv,S',hSS,hM',?_⟩
 obtain⟨c,hcdef⟩:∃c:Ctx,c=⟨w,S',fun k=>box k≠none,β,fzT tok acc.ft,τ⟩:=⟨_,rfl⟩
 obtain⟨s',hs'⟩:∃s',s'=sh.mk' y:=⟨_,rfl⟩
 rw[<-hs']
 obtain⟨c',hc'def⟩:∃c':Ctx,c'=s'.ctx w S' (shβ acc β) (shτ acc τ):=⟨_,rfl⟩
 have hv':All2 (V3 c) xs vals:=hv.imp fun x v hx=>by
  rw[hcdef]
  exact V3.mono (c:=⟨w,S,fun k=>box k≠none,β,tok,τ⟩) (c':=⟨w,S',fun k=>box k≠none,β,fzT tok acc.ft,τ⟩) ⟨hSS,fun _ _ _=>rfl⟩ (BoxLe.refl rfl rfl) (fzT_le tok acc.ft) hx
 have hmk:∀k k',lookR acc.rb k=some k'->kindN k=kindN k':=fun k k' h=>by simpa using hrbm (k,k') (lookR_mem h)
 have hbv:∀k b,lookB B k=some b->BoxAt c k (c.β k) b.cs:=fun k b hk=>by
  have hb:fzB box acc.fb k=some {b with fz:=b.fz||decide (k∈acc.fb)}:=by unfold fzB;rw[hB k b hk]
  have g5:=(hM'.boxes k _ hb).2.2.2
  rw[hlive]at g5
  rw[hcdef];exact g5
 have hnames:∀ps,(instB sh.boxes ps).1.map (·.1)=sh.boxes.map (·.1):=by
  intro ps
  generalize sh.boxes=l
  induction l generalizing ps with
  |nil=>rfl
  |cons x l ih=>
   obtain⟨k,fz,vs⟩:=x
   simp only[instB,zv,ih]
 have hsB:s'.B.map (·.1)=sh.boxes.map (·.1):=by
  rw[hs'];unfold Sh.mk';exact hnames _
 have hK:Known B T acc R.fr c c' F:=by
  refine⟨by rw[hc'def,hcdef];rfl,by rw[hc'def,hcdef];rfl,fun n tk hn=>?_,fun n tk hn=>?_,fun k b o t z hb hk hz _=>?_,fun n hn hf=>?_,fun k k' hk=>?_,fun n n' hn=>?_,hmk,fun k hk=>by simpa using hfbm k hk⟩
  .rw [hcdef];show fzT tok acc.ft n=_;unfold fzT;rw[hT n _ hn]
  .rw [hcdef]at hn⊢;exact hM'.toks n tk hn
  .have hbb:fzB box acc.fb k=some {b with fz:=b.fz||decide (k∈acc.fb)}:=by unfold fzB;rw[hB k b hb]
   obtain⟨_,_,g3,gB⟩:=hM'.boxes k _ hbb
   obtain⟨vs,Ty,g4,g5⟩:=gB.cells (by have:=hfbm k hk;simpa using this)
   have g3:=g3 (by simp[hk])
   rw[hlive]at g5
   have h3:=mkRow_rep (c:=c) t _ z _ hz (by rw[hcdef];exact(g5.drop o).take t.w)
   intro j p hp
   have hj:j<t.w:=by have:=(zh.1 hp).1;rwa[enc_len]at this
   have hl:=h3.len
   rw[enc_len]at hl
   obtain⟨u,hu⟩:∃u,((vs.drop o).take t.w)[j]? =some u:=⟨_,zc (by rw[hl];exact hj)⟩
   have hr:=h3.get' j u p hu hp
   rw[zaH,zf hj,zaL]at hu
   have hlt:o+j<b.cs.length:=by rw[g5.len];exact(zh.1 hu).1
   rw[hcdef]at hr⊢
   exact⟨g3 _ hlt,u,by show w.cell? _=_;rw[cell_box g4];exact hu,hr⟩
  .have:=hmt n hn
   simp at this;exact this hf
  .rw [hc'def,hcdef]
   refine⟨?_,by show shβ acc β k=_;unfold shβ;rw[hk];rfl⟩
   refine lookB_isSome ?_
   rw[hsB]
   have:=hrbl (k,k') (lookR_mem hk)
   obtain⟨b,hb1,hb2⟩:=List.any_eq_true.1 this
   exact zab.2 ⟨b,hb1,by simpa using hb2⟩
  .rw [hc'def,hcdef]
   show shτ acc τ n=_
   unfold shτ
   rw[lookR_nodup hinv.rt.1 n n' hn]
   cases n'<;>rfl
 obtain⟨s1,r1,ys,t1,p1,p2,p3,p4,p5⟩:=convL_ok hK V3 (fun x x' v h=>h) (fun x x' v hi h=>hi.2.2.2 h) sh.vals xs _ a1 vals h1 x2 hv'
 obtain⟨s2,r2,bs,t2,q1,q2,q3,q4,q6,q5⟩:=convB_ok hK (by rw[hc'def,hcdef];rfl) hbv sh.boxes a1 acc h2 (Ext.refl _)
 simp only[zaW]at p1 p2
 have hps:unpack sh.codes y=s1++s2:=by rw[pack_unpack _ _ _ hy,q1,p1]
 have hmk:s'=⟨ys,bs,t1++t2⟩:=by
  rw[hs']
  unfold Sh.mk'
  rw[hps,p3]
  have:=q3 []
  rw[zat]at this
  simp only[this]
 have hrt:acc.rt=r1++r2:=by rw[q2,p2]
 have hTR:All2 (TR c) acc.rt s'.T:=by rw[hrt,hmk];exact p4.append q4
 have hnd:(s'.T.map (·.1)).Nodup:=by rw[tr_names hTR];exact hinv.rt.1
 have htk:∀n z,(n,z)∈s'.T->c'.tok n=z:=fun n z hz=>by rw[hc'def];exact lookT_nodup hnd n z hz
 have hQ5:=q5 fun n z hz=>htk n z (by rw[hmk];exact zaJ _ hz)
 have hbx:∀k b',lookB s'.B k=some b'->∃k' b,lookR acc.rb k=some k'/\lookB B k'=some b/\BoxAt c' k (c.β k') b'.cs/\(b'.fz=true->k'∈acc.fb)/\(b'.fz=false->b.fz=false/\k'∈acc.ub)/\b'.cs.length=b.cs.length:=fun k b' hk=>by
  rw[hmk]at hk;exact hQ5 k b' (lookB_mem hk)
 have hfzk:∀(k:Nat) (b':BS) (k':Nat) (b:BS),(b'.fz=true->k'∈acc.fb)->(b'.fz=false->b.fz=false/\k'∈acc.ub)->lookB B k'=some b->fzB box acc.fb k'=some {b with fz:=b'.fz}:=fun k b' k' b e1 e2 hb=>by
  unfold fzB;rw[hB k' b hb]
  cases hz:b'.fz with
  |true=>simp[e1 hz]
  |false=>
   obtain⟨g1,g2⟩:=e2 hz
   have:=hub k' g2
   simp at this
   simp[g1,this]
 have htr:∀(n:Nat) (tk:Tok),lookT s'.T n=some (.live tk)->∃(i:Nat) (x:Nat×Option Nat),acc.rt[i]? =some x/\x.1=n/\match x.2 with
   |some m=>∃tk0:Tok,fzT tok acc.ft m=some (.live tk0)/\(⟨tk.t,tk.xs⟩:(t:Tp)×List t.D)=⟨tk0.t,tk0.xs⟩/\tk.e=tk0.e/\tk.wr=tk0.wr/\(tk.deep=true->tk0.deep=true)/\tk.tr=tk0.tr/\(tk.tr≠none->tk.deep=true)
   |none=>tk.xs=[]/\(tk.tr=none\/(tk.tr=some []/\tk.wr=true/\tk.deep=true)):=fun n tk hn=>by
  obtain⟨i,hi,hi2⟩:=zav.1 (lookT_mem hn)
  have hi':i<acc.rt.length:=by rw[hTR.len];exact hi
  obtain⟨e1,tk',e2,e3⟩:=hTR.get' i acc.rt[i] s'.T[i] (zc hi') (zc hi)
  rw[hi2]at e1 e2
  cases e2
  refine⟨i,acc.rt[i],zc hi',e1.symm,?_⟩
  rw[hcdef]at e3
  cases hx2:acc.rt[i].2 with
  |none=>rw[hx2]at e3;exact e3
  |some m=>rw[hx2]at e3;exact e3
 refine⟨fun k b hk=>?_,fun n tk hn=>?_,fun n x hx=>?_,fun k k' hk=>by have:=(hK.live k k' hk).1;rw[hc'def]at this;exact this,fun Fr' hF1 hF2=>?_,by rw[<-hc'def];rw[hmk];exact p5 fun n z hz=>htk n z (by rw[hmk];exact zad _ hz)⟩
 .obtain ⟨k',b0,e1,e2,e3,e5,e6,e7⟩:=hbx k b hk
  exact⟨k',_,e1,hfzk k b k' b0 e5 e6 e2,rfl⟩
 .obtain ⟨i,x,hx,rfl,hm⟩:=htr n tk hn
  refine⟨x.2,zak hx,?_⟩
  revert hm
  cases x.2 with
  |none=>exact fun _=>True.intro
  |some m=>exact fun⟨tk0,g1,_,_,g2,_⟩=>⟨tk0,g1,g2.symm⟩
 .obtain ⟨i,hi⟩:=zbr.1 hx
  obtain⟨⟨n2,z⟩,hz,e1,tk,e2,_⟩:=hTR.get i (n,x) hi
  simp only at e1 e2
  subst e1;subst e2
  exact⟨tk,lookT_nodup hnd _ _ (zak hz)⟩
 have hFn:∀(n:Nat) (tk:Tok),lookT s'.T n=some (.live tk)->(∃(m:Nat) (tk0:Tok),lookR acc.rt n=some (some m)/\shτ acc τ n=τ m/\shF acc F n=F m/\fzT tok acc.ft m=some (.live tk0)/\(⟨tk.t,tk.xs⟩:(t:Tp)×List t.D)=⟨tk0.t,tk0.xs⟩/\tk.e=tk0.e/\tk.wr=tk0.wr/\(tk.deep=true->tk0.deep=true)/\tk.tr=tk0.tr/\(tk.tr≠none->tk.deep=true))\/(shτ acc τ n= .slice none 0 0/\(shF acc F n=fun _=>False)/\tk.xs=[]/\(tk.tr=none\/(tk.tr=some []/\tk.wr=true/\tk.deep=true))):=fun n tk hn=>by
  obtain⟨i,x,hx,rfl,hm⟩:=htr n tk hn
  have hl:=lookR_nodup hinv.rt.1 x.1 x.2 (zak hx)
  cases hx2:x.2 with
  |none=>
   rw[hx2]at hm hl
   exact .inr ⟨by unfold shτ;rw[hl],by unfold shF;rw[hl],hm⟩
  |some m=>
   rw[hx2]at hm hl
   obtain⟨tk0,g⟩:=hm
   exact .inl ⟨m,tk0,hl,by unfold shτ;rw[hl],by unfold shF;rw[hl],g⟩
 refine⟨fun k b hk=>?_,fun k k' b b' hk hk' e=>?_,fun n tk hn=>?_,fun t t' tk tk' b ht ht' hb hb'=>?_,fun t tk k b ht hk hF=>?_⟩
 .obtain ⟨k',b0,e1,e2,e3,e5,e6,e7⟩:=hbx k b hk
  obtain⟨g1,g2,g3,_⟩:=hM'.boxes k' _ (hfzk k b k' b0 e5 e6 e2)
  have hβ:shβ acc β k=β k':=by unfold shβ;rw[e1];rfl
  refine⟨hF1 k b hk,fun hz=>by rw[hβ];exact g2 hz,fun hz o ho=>by rw[hβ];exact g3 hz o (by rw[e7]at ho;exact ho),?_⟩
  rw[hβ]
  rw[hc'def,hcdef]at e3
  exact e3
 .obtain ⟨k1,b1,e1,e2,_,e5,e6,_⟩:=hbx k b hk
  obtain⟨k2,b2,f1,f2,_,f5,f6,_⟩:=hbx k' b' hk'
  have h3:shβ acc β k=β k1:=by unfold shβ;rw[e1];rfl
  have h4:shβ acc β k'=β k2:=by unfold shβ;rw[f1];rfl
  rw[h3,h4]at e
  have:=hM'.binj k1 k2 _ _ (hfzk k b k1 b1 e5 e6 e2) (hfzk k' b' k2 b2 f5 f6 f2) e
  subst this
  exact hinv.rb k k' k1 e1 f1
 .rcases hFn n tk hn with⟨m,tk0,hl,g1,g2,g3,g4,g5,g6,g7,g8,g9⟩|⟨g1,g2,g3,g4⟩
  .have hk0:=hM'.toks m tk0 g3
   have hk1:=tokOk_cast hk0 g4.symm
   rw[<-g5,<-g6,<-g8]at hk1
   rw[g1]
   refine⟨fun b hb=>⟨hF2 n tk b hn hb,?_⟩,?_,?_⟩
   .rw [g2]at hb;exact(hk0.1 b hb).2
   .rw [g2];exact hk1.2.1
   .rw [g2]
    have h3:=hk1.2.2
    unfold Once at h3⊢
    cases htr:tk.tr with
    |none=>rw[htr]at h3;exact fun hd=>h3 (g7 hd)
    |some hs=>
     rw[htr]at h3
     obtain⟨k1,k2,k3,k4⟩:=h3
     exact⟨k1,g9 (by rw[htr];simp),k3,k4⟩
  .refine ⟨fun b hb=>by rw[g2]at hb;exact hb.elim,.inl ⟨g1,g3⟩,?_⟩
   unfold Once
   rcases g4 with g4|⟨g4,g5,g6⟩
   .rw [g4];exact fun _=>by rw[g1,g3];exact .nil _ _
   .rw [g4];exact⟨g5,g6,fun b hb=>by rw[g2]at hb;exact hb.elim,.inl g1⟩
 .rcases hFn t tk ht with⟨m,tk0,hl,g1,g2,g3,_⟩|⟨g1,g2,g3⟩
  .rcases hFn t' tk' ht' with⟨m',tk0',hl',g1',g2',g3',_⟩|⟨g1',g2',g3'⟩
   .rw [g2]at hb;rw[g2']at hb'
    have:=hM'.tdis m m' tk0 tk0' b g3 g3' hb hb'
    subst this
    obtain⟨i,hi⟩:=zbr.1 (lookR_mem hl)
    obtain⟨i',hi'⟩:=zbr.1 (lookR_mem hl')
    have:=hinv.rt.2 i i' _ _ m hi hi' rfl rfl
    subst this
    rw[hi]at hi'
    cases hi';rfl
   .rw [g2']at hb';exact hb'.elim
  .rw [g2]at hb;exact hb.elim
 .obtain ⟨k',b0,e1,e2,e3,e5,e6,e7⟩:=hbx k b hk
  have hβ:shβ acc β k=β k':=by unfold shβ;rw[e1];rfl
  rw[hβ]at hF
  rcases hFn t tk ht with⟨m,tk0,hl,g1,g2,g3,_⟩|⟨g1,g2,g3⟩
  .rw [g2]at hF;exact hM'.tbox m tk0 k' _ g3 (hfzk k b k' b0 e5 e6 e2) hF
  .rw [g2]at hF;exact hF
section
variable {E : Env} {o : Oper} {s : LSt} {e : Eff} {fp : FP}
theorem readB_R :∀(l:List Nat) (B:List (Nat×BS)) (f:List (Nat×BS)->RD) (rb rt:List Nat),(readB l B f).R s rb rt e fp->(∀k b,lookB B k=some b->lookB s.B k=some b)->∃B' rb',(∀k b,lookB B' k=some b->lookB s.B k=some b)/\(f B').R s rb' rt e fp
 | [],B,f,rb,rt,h,hB=>⟨B,rb,hB,h⟩
 |k::l,B,f,rb,rt,h,hB=>by
  simp only[readB,RD.R]at h
  split at h
  .rename_i b hb
   refine readB_R l _ f _ rt h (fun j b' hj=>?_)
   rw[lookB_setB]at hj
   simp only[updB]at hj
   split at hj
   .rename_i ej;subst ej;cases hj;exact hb
   .exact hB j b' hj
  .exact h.elim
theorem readT_R :∀(l:List Nat) (T:List (Nat×Option TS)) (f:List (Nat×Option TS)->RD) (rb rt:List Nat),(readT l T f).R s rb rt e fp->(∀k b,lookT T k=some b->lookT s.T k=some b)->∃T' rt',(∀k b,lookT T' k=some b->lookT s.T k=some b)/\(f T').R s rb rt' e fp
 | [],T,f,rb,rt,h,hT=>⟨T,rt,hT,h⟩
 |k::l,T,f,rb,rt,h,hT=>by
  simp only[readT,RD.R]at h
  refine readT_R l _ f rb _ h (fun j b' hj=>?_)
  rw[lookT_setT]at hj
  simp only[updT]at hj
  split at hj
  .rename_i ej;subst ej;exact hj
  .exact hT j b' hj
theorem pickM_R {B:List (Nat×BS)} {T:List (Nat×Option TS)} {xs:List AV} {f:(m:Model)->HD m.arg.codes->Acc->RD} {rb rt:List Nat}:∀(l:List Model),(pickM B T xs f l).R s rb rt e fp->∃m a acc,m∈l/\m.arg.conv B T xs=some (a,acc)/\(f m a acc).R s rb rt e fp
 | [],h=>h.elim
 |m::l,h=>by
  simp only[pickM]at h
  split at h
  .rename_i a acc hc
   exact⟨m,a,acc,zy,hc,h⟩
  .obtain ⟨m',a,acc,h1,h2,h3⟩:=pickM_R l h
   exact⟨m',a,acc,zl _ h1,h2,h3⟩
theorem freshB_R :∀(l:List Nat) (r:RD) (rb rt:List Nat),(freshB E l r).R s rb rt e fp->(∀k,k∈l->lookB s.B k=none/\E.res k=false)/\∃rb',r.R s rb' rt e fp
 | [],r,rb,rt,h=>⟨(fun k hk=>by cases hk),rb,h⟩
 |k::l,r,rb,rt,h=>by
  simp only[freshB,RD.R]at h
  split at h
  .rename_i hk
   split at h
   .exact h.elim
   .rename_i hr
    obtain⟨h1,h2⟩:=freshB_R l r _ rt h
    refine⟨fun j hj=>?_,h2⟩
    rcases zp.1 hj with rfl|hj
    .exact ⟨hk,by simpa using hr⟩
    .exact h1 j hj
  .exact h.elim
theorem freshT_R :∀(l:List Nat) (r:RD) (rb rt:List Nat),(freshT E l r).R s rb rt e fp->(∀k,k∈l->lookT s.T k=none/\E.res k=false)/\∃rt',r.R s rb rt' e fp
 | [],r,rb,rt,h=>⟨(fun k hk=>by cases hk),rt,h⟩
 |k::l,r,rb,rt,h=>by
  simp only[freshT,RD.R]at h
  split at h
  .rename_i hk
   split at h
   .exact h.elim
   .rename_i hr
    obtain⟨h1,h2⟩:=freshT_R l r rb _ h
    refine⟨fun j hj=>?_,h2⟩
    rcases zp.1 hj with rfl|hj
    .exact ⟨hk,by simpa using hr⟩
    .exact h1 j hj
  .exact h.elim
end
section
variable {c c' : Ctx} {ρb ρt : Nat -> Nat} (hw : c'.w = c.w) (hS : c'.S = c.S) (hb : ∀ k, c.live k -> c'.live (ρb k) /\ c'.β (ρb k) = c.β k) (ht : ∀ n, c.tok n ≠ none -> c'.tok (ρt n) = c.tok n /\ c'.τ (ρt n) = c.τ n) (hm : ∀ k, c.live k -> kindN (ρb k) = kindN k)
include hw hS hb ht hm
theorem ren0 {x:AV} {v:Value} (hx:V0 c x v):V0 c' (x.ren ρb ρt) v:=by
 cases x with
 |dead=>exact True.intro
 |pv t y=>obtain⟨p,h1,h2⟩:=hx;exact⟨p,h1,by rw[hw,hS];exact h2⟩
 |nils=>exact hx
 |nilp=>exact hx
 |box k o=>obtain⟨h1,h2⟩:=hx;exact⟨(hb k h1).1,by rw[(hb k h1).2];unfold refV at h2⊢;rw[hm k h1];exact h2⟩
 |ptr t y o=>obtain⟨b,q,h1,h2⟩:=hx;exact⟨b,q,h1,by rw[hw,hS];exact h2⟩
 |own n t xs=>
  obtain⟨h1,h2,h3⟩:=hx
  obtain⟨g1,g2⟩:=ht n h2
  exact⟨by rw[hw,hS];exact h1,by rw[g1];exact h2,fun tk htk=>by rw[g1]at htk;rw[g2];exact h3 tk htk⟩
 |mtk n=>
  obtain⟨h1,h2,h3⟩:=hx
  obtain⟨g1,g2⟩:=ht n h2
  exact⟨h1,by rw[g1];exact h2,fun tk htk=>by rw[g1]at htk;rw[g2];exact h3 tk htk⟩
 |mptr n i o=>
  obtain⟨h1,h2,h3⟩:=hx
  obtain⟨g1,g2⟩:=ht n h2
  exact⟨h1,by rw[g1];exact h2,fun tk htk=>by rw[g1]at htk;rw[g2];exact h3 tk htk⟩
 |sub n l k=>
  obtain⟨h1,h2,h3⟩:=hx
  obtain⟨g1,g2⟩:=ht n h2
  exact⟨h1,by rw[g1];exact h2,fun tk htk=>by rw[g1]at htk;rw[g2];exact h3 tk htk⟩
 |gmap g=>exact⟨by rw[hS];exact hx.1,by rw[hw];exact hx.2.1,hx.2.2⟩
 |agg _=>exact hx.elim
 |tup _=>exact hx.elim
 |clo _ _=>exact hx.elim
theorem renL0 :∀ {xs:List AV} {vs:List Value},All2 (V0 c) xs vs->All2 (V0 c') (AV.renL ρb ρt xs) vs
 | [],[],_=>True.intro
 |_::xs,_::vs,h=>⟨ren0 hw hS hb ht hm h.1,renL0 h.2⟩
 | [],_::_,h=>h.elim
 |_::_,[],h=>h.elim
theorem ren1 {x:AV} {v:Value} (hx:V1 c x v):V1 c' (x.ren ρb ρt) v:=by
 cases x with
 |clo f cs=>obtain⟨us,e,ha⟩:=hx;exact⟨us,e,renL0 hw hS hb ht hm ha⟩
 |agg _=>exact hx.elim
 |tup _=>exact hx.elim
 |dead=>exact True.intro
 |pv t y=>exact V1_of_V0 (ren0 hw hS hb ht hm (x:=.pv t y) hx)
 |nils=>exact hx
 |nilp=>exact hx
 |box k o=>exact V1_of_V0 (ren0 hw hS hb ht hm (x:=.box k o) hx)
 |ptr t y o=>exact V1_of_V0 (ren0 hw hS hb ht hm (x:=.ptr t y o) hx)
 |own n t xs=>exact V1_of_V0 (ren0 hw hS hb ht hm (x:=.own n t xs) hx)
 |mtk n=>exact V1_of_V0 (ren0 hw hS hb ht hm (x:=.mtk n) hx)
 |mptr n i o=>exact V1_of_V0 (ren0 hw hS hb ht hm (x:=.mptr n i o) hx)
 |gmap g=>exact V1_of_V0 (ren0 hw hS hb ht hm (x:=.gmap g) hx)
 |sub n l k=>exact V1_of_V0 (ren0 hw hS hb ht hm (x:=.sub n l k) hx)
theorem renL1 :∀ {xs:List AV} {vs:List Value},All2 (V1c c) xs vs->All2 (V1c c') (AV.renL ρb ρt xs) vs
 | [],[],_=>True.intro
 |_::xs,_::vs,h=>⟨⟨ren1 hw hS hb ht hm h.1.1,h.1.2⟩,renL1 h.2⟩
 | [],_::_,h=>h.elim
 |_::_,[],h=>h.elim
theorem ren2 {x:AV} {v:Value} (hx:V2 c x v):V2 c' (x.ren ρb ρt) v:=by
 cases x with
 |agg cs=>obtain⟨us,e,ha⟩:=hx;exact⟨us,e,renL1 hw hS hb ht hm ha⟩
 |tup _=>exact hx.elim
 |clo f cs=>exact V2_of_V1 (ren1 hw hS hb ht hm (x:=.clo f cs) hx)
 |dead=>exact True.intro
 |pv t y=>exact V2_of_V1 (ren1 hw hS hb ht hm (x:=.pv t y) hx)
 |nils=>exact hx
 |nilp=>exact hx
 |box k o=>exact V2_of_V1 (ren1 hw hS hb ht hm (x:=.box k o) hx)
 |ptr t y o=>exact V2_of_V1 (ren1 hw hS hb ht hm (x:=.ptr t y o) hx)
 |own n t xs=>exact V2_of_V1 (ren1 hw hS hb ht hm (x:=.own n t xs) hx)
 |mtk n=>exact V2_of_V1 (ren1 hw hS hb ht hm (x:=.mtk n) hx)
 |mptr n i o=>exact V2_of_V1 (ren1 hw hS hb ht hm (x:=.mptr n i o) hx)
 |gmap g=>exact V2_of_V1 (ren1 hw hS hb ht hm (x:=.gmap g) hx)
 |sub n l k=>exact V2_of_V1 (ren1 hw hS hb ht hm (x:=.sub n l k) hx)
theorem renL2 :∀ {xs:List AV} {vs:List Value},All2 (V2 c) xs vs->All2 (V2 c') (AV.renL ρb ρt xs) vs
 | [],[],_=>True.intro
 |_::xs,_::vs,h=>⟨ren2 hw hS hb ht hm h.1,renL2 h.2⟩
 | [],_::_,h=>h.elim
 |_::_,[],h=>h.elim
theorem ren3 {x:AV} {v:Value} (hx:V3 c x v):V3 c' (x.ren ρb ρt) v:=by
 cases x with
 |tup cs=>obtain⟨us,e,ha⟩:=hx;exact⟨us,e,renL2 hw hS hb ht hm ha⟩
 |agg cs=>exact V3_of_V2 (ren2 hw hS hb ht hm (x:=.agg cs) hx)
 |clo f cs=>exact V3_of_V2 (ren2 hw hS hb ht hm (x:=.clo f cs) hx)
 |dead=>exact True.intro
 |pv t y=>exact V3_of_V2 (ren2 hw hS hb ht hm (x:=.pv t y) hx)
 |nils=>exact hx
 |nilp=>exact hx
 |box k o=>exact V3_of_V2 (ren2 hw hS hb ht hm (x:=.box k o) hx)
 |ptr t y o=>exact V3_of_V2 (ren2 hw hS hb ht hm (x:=.ptr t y o) hx)
 |own n t xs=>exact V3_of_V2 (ren2 hw hS hb ht hm (x:=.own n t xs) hx)
 |mtk n=>exact V3_of_V2 (ren2 hw hS hb ht hm (x:=.mtk n) hx)
 |mptr n i o=>exact V3_of_V2 (ren2 hw hS hb ht hm (x:=.mptr n i o) hx)
 |gmap g=>exact V3_of_V2 (ren2 hw hS hb ht hm (x:=.gmap g) hx)
 |sub n l k=>exact V3_of_V2 (ren2 hw hS hb ht hm (x:=.sub n l k) hx)
end
theorem foldB :∀(l:List (Nat×BS)) (f:Nat->Option BS),(l.map (·.1)).Nodup->∀k,l.foldl (fun f x=>updB f x.1 x.2) f k=match lookB l k with|some b=>some b|none=>f k
 | [],f,_,k=>rfl
 |(j,b)::l,f,hn,k=>by
  simp only[zv,zbg]at hn
  rw[zaq,foldB l _ hn.2]
  simp only[lookB]
  by_cases e:k=j
  .subst e
   have:lookB l k=none:=by
    cases h:lookB l k with
    |none=>rfl
    |some c=>exact absurd (zab.2 ⟨(k,c),lookB_mem h,rfl⟩) hn.1
   simp[this,updB]
  .simp [e,updB]
theorem lookT_none_of :∀ {l:List (Nat×Option TS)} {k:Nat},k∉l.map (·.1)->lookT l k=none
 | [],k,_=>rfl
 |(j,x)::l,k,h=>by
  simp only[zv,zp,not_or]at h
  simp only[lookT]
  rw[zu h.1]
  exact lookT_none_of h.2
theorem foldT :∀(l:List (Nat×Option TS)) (f:Nat->Option TS),(l.map (·.1)).Nodup->∀k,l.foldl (fun f x=>updT f x.1 x.2) f k=if k∈l.map (·.1)then lookT l k else f k
 | [],f,_,k=>by simp
 |(j,b)::l,f,hn,k=>by
  simp only[zv,zbg]at hn
  rw[zaq,foldT l _ hn.2]
  simp only[lookT,zv,zp]
  by_cases e:k=j
  .subst e
   simp[hn.1,updT]
  .by_cases hin:k∈l.map (·.1)
   .rw [zf hin,zf (.inr hin),zu e]
   .rw [zu hin,zu (fun h=>h.elim e hin)]
    simp[updT,e]
theorem foldFzB (B:List (Nat×BS)) (box:Nat->Option BS) (hB:∀k b,lookB B k=some b->box k=some b):∀(ks:List Nat) (f:Nat->Option BS),(∀k,k∈ks->lookB B k≠none)->∀k,(ks.filterMap fun k=>(lookB B k).map fun b=>(k,(⟨true,b.cs⟩:BS))).foldl (fun f x=>updB f x.1 x.2) f k=if k∈ks then(box k).map fun b=>⟨true,b.cs⟩else f k
 | [],f,_,k=>by simp
 |j::ks,f,h,k=>by
  obtain⟨b,hb⟩:=zaa.1 (h j zy)
  simp only[List.filterMap_cons,hb,zbn,zaq]
  rw[foldFzB B box hB ks _ (fun k hk=>h k (zl _ hk))]
  by_cases e:k=j
  .subst e
   simp only[updB,if_true,zp,true_or,hB k b hb,zbn]
   split<;>rfl
  .simp [e,updB]
theorem foldFzT (T:List (Nat×Option TS)) (tok:Nat->Option TS) (hT:∀k b,lookT T k=some b->tok k=some b):∀(ns:List Nat) (f:Nat->Option TS),(∀n,n∈ns->liveB (lookT T n)=true)->∀k,(ns.filterMap (fzOne T)).foldl (fun f x=>updT f x.1 x.2) f k=if k∈ns then fzT tok ns k else f k
 | [],f,_,k=>by simp
 |j::ns,f,h,k=>by
  have hj:=h j zy
  have hfz:∀n (ns:List Nat),n∈ns->liveB (lookT T n)=true->fzT tok ns n=match lookT T n with|some (.live tk)=>some (.live tk.fz)|z=>z:=fun n ns hn hlv=>by
   cases hn2:lookT T n with
   |none=>rw[hn2]at hlv;cases hlv
   |some z=>cases z with
    |spent=>rw[hn2]at hlv;cases hlv
    |live tk'=>unfold fzT;rw[hT n _ hn2];simp[hn]
  cases hl:lookT T j with
  |none=>rw[hl]at hj;cases hj
  |some z=>cases z with
   |spent=>rw[hl]at hj;cases hj
   |live tk=>
    simp only[List.filterMap_cons,fzOne,hl,zaq]
    rw[show(ns.filterMap fun n=>fzOne T n)=ns.filterMap (fzOne T)from rfl]at*
    rw[foldFzT T tok hT ns _ (fun k hk=>h k (zl _ hk))]
    by_cases e:k=j
    .subst e
     have h3:=hfz k (k::ns) zy hj
     rw[hl]at h3
     simp only[zp,true_or,if_true,h3]
     split
     .rename_i hin;rw[hfz k ns hin hj,hl]
     .simp [updT]
    .by_cases hin:k∈ns
     .simp only [hin,if_true,zp,or_true]
      have hkl:=h k (zl _ hin)
      rw[hfz k ns hin hkl,hfz k (j::ns) (zl _ hin) hkl]
     .simp [hin,e,updT]
end Go.Proofs.YtcinmmojlcchfaaGreatDoor
namespace Go.Proofs.YtcinmmojlcchfaaGreatDoor
open Go.RowKit
structure Back (acc:Acc) (s0 s1:LSt) (ρb ρt:Nat->Nat) (boxF:Nat->Option BS) (tokF:Nat->Option TS):Prop where
 rb:∀k k',lookR acc.rb k=some k'->ρb k=k'/\lookB s1.B k≠none/\boxF k'≠none
 rbi:∀j j' i,lookR acc.rb j=some i->lookR acc.rb j'=some i->j=j'
 s0b:∀k b,lookB s0.B k=some b->∃k',lookR acc.rb k=some k'
 nb:∀k,lookB s1.B k≠none->lookR acc.rb k=none->boxF (ρb k)=none
 nbi:∀k k',lookR acc.rb k=none->lookR acc.rb k'=none->ρb k=ρb k'->k=k'
 rt:∀n m,lookR acc.rt n=some (some m)->ρt n=m
 rti:∀n n' m,lookR acc.rt n=some (some m)->lookR acc.rt n'=some (some m)->n=n'
 s0t:∀n tk,lookT s0.T n=some (.live tk)->∃x,lookR acc.rt n=some x/\∀m,x=some m->∃tk0,tokF m=some (.live tk0)
 nt:∀n,lookT s1.T n≠none->(∀m,lookR acc.rt n≠some (some m))->tokF (ρt n)=none
 nti:∀n n',(∀m,lookR acc.rt n≠some (some m))->(∀m,lookR acc.rt n'≠some (some m))->ρt n=ρt n'->n=n'
 back:∀n m z,lookR acc.rt n=some (some m)->lookT s1.T n=some z->∃tk tk',tokF m=some (.live tk)/\z= .live tk'/\tk.wr=true/\tk'.t=tk.t
theorem Back.inj_b {acc:Acc} {s0 s1:LSt} {ρb ρt:Nat->Nat} {boxF:Nat->Option BS} {tokF:Nat->Option TS} (h:Back acc s0 s1 ρb ρt boxF tokF) {k k':Nat} (h1:lookB s1.B k≠none) (h2:lookB s1.B k'≠none) (e:ρb k=ρb k'):k=k':=by
 cases g1:lookR acc.rb k with
 |some i=>
  obtain⟨e1,_,e3⟩:=h.rb k i g1
  cases g2:lookR acc.rb k' with
  |some i'=>
   obtain⟨e1',_,_⟩:=h.rb k' i' g2
   rw[e1,e1']at e;subst e
   exact h.rbi k k' i g1 g2
  |none=>have:=h.nb k' h2 g2;rw[<-e,e1]at this;exact absurd this e3
 |none=>
  cases g2:lookR acc.rb k' with
  |some i'=>
   obtain⟨e1',_,e3⟩:=h.rb k' i' g2
   have:=h.nb k h1 g1;rw[e,e1']at this;exact absurd this e3
  |none=>exact h.nbi k k' g1 g2 e
theorem Back.inj_t {acc:Acc} {s0 s1:LSt} {ρb ρt:Nat->Nat} {boxF:Nat->Option BS} {tokF:Nat->Option TS} (h:Back acc s0 s1 ρb ρt boxF tokF) {k k':Nat} (h1:lookT s1.T k≠none) (h2:lookT s1.T k'≠none) (e:ρt k=ρt k'):k=k':=by
 have live:∀k m,lookT s1.T k≠none->lookR acc.rt k=some (some m)->tokF m≠none:=fun k m h1 g=>by
  obtain⟨z,hz⟩:=zaa.1 h1
  obtain⟨tk,_,ht,_⟩:=h.back k m z g hz
  rw[ht];simp
 by_cases g1:∃m,lookR acc.rt k=some (some m)
 .obtain ⟨m,g1⟩:=g1
  have e1:=h.rt k m g1
  by_cases g2:∃m,lookR acc.rt k'=some (some m)
  .obtain ⟨m',g2⟩:=g2
   have e2:=h.rt k' m' g2
   rw[e1,e2]at e;subst e
   exact h.rti k k' m g1 g2
  .have:=h.nt k' h2 (fun m hm=>g2 ⟨m,hm⟩)
   rw[<-e,e1]at this
   exact absurd this (live k m h1 g1)
 .by_cases g2:∃m,lookR acc.rt k'=some (some m)
  .obtain ⟨m',g2⟩:=g2
   have e2:=h.rt k' m' g2
   have:=h.nt k h1 (fun m hm=>g1 ⟨m,hm⟩)
   rw[e,e2]at this
   exact absurd this (live k' m' h2 g2)
  .exact h.nti k k' (fun m hm=>g1 ⟨m,hm⟩) (fun m hm=>g2 ⟨m,hm⟩) e
open Classical in
noncomputable def pickN {α:Type} (dom:Nat->Prop) (ρ:Nat->Nat) (f g:Nat->α) (k:Nat):α:=if h:∃j,dom j/\ρ j=k then f (Classical.choose h)else g k
theorem pickN_in {α:Type} {dom:Nat->Prop} {ρ:Nat->Nat} {f g:Nat->α} (hi:∀j j',dom j->dom j'->ρ j=ρ j'->j=j') {j:Nat} (hj:dom j):pickN dom ρ f g (ρ j)=f j:=by
 unfold pickN
 have h:∃j',dom j'/\ρ j'=ρ j:=⟨j,hj,rfl⟩
 rw[dif_pos h]
 obtain⟨h1,h2⟩:=Classical.choose_spec h
 rw[hi _ _ h1 hj h2]
theorem pickN_out {α:Type} {dom:Nat->Prop} {ρ:Nat->Nat} {f g:Nat->α} {k:Nat} (h:∀j,dom j->ρ j≠k):pickN dom ρ f g k=g k:=by
 unfold pickN
 rw[dif_neg]
 rintro⟨j,h1,h2⟩
 exact h j h1 h2
theorem call_mem {R:Root} {w w1:World} {S S1:Stab} {boxF:Nat->Option BS} {tokF:Nat->Option TS} {β β1:Nat->Nat} {τ τ1:Nat->Value} {F F1:Nat->Nat->Prop} (hM:Mem R boxF tokF β τ F S w) {acc:Acc} {s0 s1:LSt} {ρb ρt:Nat->Nat} (hBk:Back acc s0 s1 ρb ρt boxF tokF)
  (hC:Mem (lentRoot s0 (shβ acc β) (shτ acc τ) (shF acc F) S w) (lookB s1.B) (lookT s1.T) β1 τ1 F1 S1 w1)
  (box2:Nat->Option BS) (tok2:Nat->Option TS)
  (hb2:∀k,lookB s1.B k≠none->box2 (ρb k)=(lookB s1.B k).map fun b=>⟨b.fz,AV.renL ρb ρt b.cs⟩) (hb2':∀k,(∀j,lookB s1.B j≠none->ρb j≠k)->box2 k=boxF k)
  (ht2:∀n,lookT s1.T n≠none->tok2 (ρt n)=lookT s1.T n) (ht3:∀t,(∀n,lookT s1.T n≠none->ρt n≠t)->(∃n,lookR acc.rt n=some (some t))->tok2 t=some .spent) (ht4:∀t,(∀n,lookT s1.T n≠none->ρt n≠t)->(¬∃n,lookR acc.rt n=some (some t))->tok2 t=tokF t)
  (hresb:∀k,lookB s1.B k≠none->lookR acc.rb k=none->R.bn (ρb k)=none) (hrest:∀n,lookT s1.T n≠none->(∀m,lookR acc.rt n≠some (some m))->R.tn (ρt n)=none)
  (hs0:∀n m,lookR acc.rt n=some (some m)->lookT s1.T n≠none->∃tk,lookT s0.T n=some (.live tk)) (hs0b:∀k k',lookR acc.rb k=some k'->lookB s0.B k≠none) (hwh:∀n tk,lookT s1.T n=some (.live tk)->tk.only) (hmn:∀k,lookB s1.B k≠none->kindN (ρb k)=kindN k):
  ∃β2 τ2 F2,Mem R box2 tok2 β2 τ2 F2 S1 w1/\Ctx.Le ⟨w,S,fun k=>boxF k≠none,β,tokF,τ⟩ ⟨w1,S1,fun k=>box2 k≠none,β2,tok2,τ2⟩/\BoxLe ⟨w,S,fun k=>boxF k≠none,β,tokF,τ⟩ ⟨w1,S1,fun k=>box2 k≠none,β2,tok2,τ2⟩/\TokLe ⟨w,S,fun k=>boxF k≠none,β,tokF,τ⟩ ⟨w1,S1,fun k=>box2 k≠none,β2,tok2,τ2⟩/\
   (∀k,lookB s1.B k≠none->box2 (ρb k)≠none/\β2 (ρb k)=β1 k)/\(∀n,lookT s1.T n≠none->tok2 (ρt n)=lookT s1.T n/\τ2 (ρt n)=τ1 n):=by
 obtain⟨β2,hβ2⟩:∃β2,β2=pickN (fun j=>lookB s1.B j≠none) ρb β1 β:=⟨_,rfl⟩
 obtain⟨τ2,hτ2⟩:∃τ2,τ2=pickN (fun j=>lookT s1.T j≠none) ρt τ1 τ:=⟨_,rfl⟩
 obtain⟨F2,hF2⟩:∃F2,F2=pickN (fun j=>lookT s1.T j≠none) ρt F1 F:=⟨_,rfl⟩
 have bin:∀ {k},lookB s1.B k≠none->β2 (ρb k)=β1 k:=fun {k} hk=>by rw[hβ2];exact pickN_in (dom:=fun j=>lookB s1.B j≠none) (fun j j' h1 h2 e=>hBk.inj_b h1 h2 e) hk
 have bout:∀ {k},(∀j,lookB s1.B j≠none->ρb j≠k)->β2 k=β k:=fun {k} hk=>by rw[hβ2];exact pickN_out hk
 have tin:∀ {k},lookT s1.T k≠none->τ2 (ρt k)=τ1 k:=fun {k} hk=>by rw[hτ2];exact pickN_in (dom:=fun j=>lookT s1.T j≠none) (fun j j' h1 h2 e=>hBk.inj_t h1 h2 e) hk
 have tout:∀ {k},(∀j,lookT s1.T j≠none->ρt j≠k)->τ2 k=τ k:=fun {k} hk=>by rw[hτ2];exact pickN_out hk
 have fin:∀ {k},lookT s1.T k≠none->F2 (ρt k)=F1 k:=fun {k} hk=>by rw[hF2];exact pickN_in (dom:=fun j=>lookT s1.T j≠none) (fun j j' h1 h2 e=>hBk.inj_t h1 h2 e) hk
 have fout:∀ {k},(∀j,lookT s1.T j≠none->ρt j≠k)->F2 k=F k:=fun {k} hk=>by rw[hF2];exact pickN_out hk
 have dich:∀(dom:Nat->Prop) (ρ:Nat->Nat) (k:Nat),(∃j,dom j/\ρ j=k)\/ ∀j,dom j->ρ j≠k:=fun dom ρ k=>by
  by_cases h:∃j,dom j/\ρ j=k
  .exact .inl h
  .exact .inr fun j h1 h2=>h ⟨j,h1,h2⟩
 have bsame:∀ {k k'},lookR acc.rb k=some k'->β1 k=β k':=fun {k k'} h=>by
  obtain⟨b,hb⟩:=zaa.1 (hs0b k k' h)
  have:=hC.bfix k (shβ acc β k) (by simp[lentRoot,hb]) (hBk.rb k k' h).2.1
  rw[this];unfold shβ;rw[h];rfl
 have tsame:∀ {n m tk'},lookR acc.rt n=some (some m)->lookT s1.T n=some (.live tk')->τ1 n=τ m:=fun {n m tk'} h hz=>by
  obtain⟨tk,htk⟩:=hs0 n m h (by rw[hz];simp)
  have:=hC.tfix n (shτ acc τ n) tk' (by simp[lentRoot,htk]) hz
  rw[this];unfold shτ;rw[h]
 have lentFr:∀b,lent s0 (shβ acc β) (shF acc F) b->R.fr b/\b<w.heap.size:=fun b hb=>by
  rcases hb with⟨k,x,hk,rfl⟩|⟨t,tk,ht,hF⟩
  .obtain ⟨k',hk'⟩:=hBk.s0b k x hk
   obtain⟨b,hb⟩:=zaa.1 (hBk.rb k k' hk').2.2
   have:shβ acc β k=β k':=by unfold shβ;rw[hk'];rfl
   rw[this]
   exact⟨(hM.boxes k' b hb).1,hM.blt hb⟩
  .unfold shF at hF
   obtain⟨x,hx,hl⟩:=hBk.s0t t tk ht
   rw[hx]at hF
   cases x with
   |none=>exact hF.elim
   |some m=>
    obtain⟨tk0,h0⟩:=hl m rfl
    exact(hM.toks m tk0 h0).1 b hF
 have frc:∀b,(lentRoot s0 (shβ acc β) (shτ acc τ) (shF acc F) S w).fr b->R.fr b:=fun b hb=>by
  rcases hb with hb|hb
  .exact .inl (zau hM.size hb)
  .exact (lentFr b hb).1
 have freeB:∀ {k b},boxF k=some b->(∀j,lookB s1.B j≠none->ρb j≠k)->¬lent s0 (shβ acc β) (shF acc F) (β k):=fun {k b} hk hno hl=>by
  rcases hl with⟨j,x,hj,e⟩|⟨t,tk,ht,hF⟩
  .obtain ⟨k',hk'⟩:=hBk.s0b j x hj
   obtain⟨e1,e2,e3⟩:=hBk.rb j k' hk'
   obtain⟨b',hb'⟩:=zaa.1 e3
   have:shβ acc β j=β k':=by unfold shβ;rw[hk'];rfl
   rw[this]at e
   have:=hM.binj k' k b' b hb' hk e
   exact hno j e2 (e1.trans this)
  .unfold shF at hF
   obtain⟨x,hx,hl⟩:=hBk.s0t t tk ht
   rw[hx]at hF
   cases x with
   |none=>exact hF.elim
   |some m=>
    obtain⟨tk0,h0⟩:=hl m rfl
    exact hM.tbox m tk0 k b h0 hk hF
 have freeT:∀ {t tk b},tokF t=some (.live tk)->(¬∃n,lookR acc.rt n=some (some t))->F t b->¬lent s0 (shβ acc β) (shF acc F) b:=fun {t tk b} ht hno hF hl=>by
  rcases hl with⟨j,x,hj,rfl⟩|⟨n,tk',hn,hF'⟩
  .obtain ⟨k',hk'⟩:=hBk.s0b j x hj
   obtain⟨b',hb'⟩:=zaa.1 (hBk.rb j k' hk').2.2
   have:shβ acc β j=β k':=by unfold shβ;rw[hk'];rfl
   rw[this]at hF
   exact hM.tbox t tk k' b' ht hb' hF
  .unfold shF at hF'
   obtain⟨x,hx,hl⟩:=hBk.s0t n tk' hn
   rw[hx]at hF'
   cases x with
   |none=>exact hF'.elim
   |some m=>
    obtain⟨tk0,h0⟩:=hl m rfl
    have:=hM.tdis m t tk0 tk b h0 ht hF' hF
    subst this
    exact hno ⟨n,hx⟩
 have old1:∀b o,S b o->S1 b o:=hC.old
 have new1:∀b o,S1 b o->b<w.heap.size->¬lent s0 (shβ acc β) (shF acc F) b->S b o:=fun b o h hlt hn=>by
  rcases hC.new b o h with h|h|h
  .exact h
  .exact absurd hlt (by have:w.heap.size<=b:=h;omega)
  .exact absurd h hn
 have block1:∀b,b<w.heap.size->¬lent s0 (shβ acc β) (shF acc F) b->w1.heap[b]? =w.heap[b]? :=fun b h1 h2=>hC.upd.block b h1 h2
 have cell1:∀b o,S b o->w1.cell? ⟨b,o,none⟩=w.cell? ⟨b,o,none⟩:=hC.keep
 have size1:w.heap.size<=w1.heap.size:=hC.upd.size
 have told:∀ {t tk},tok2 t=some (.live tk)->(∀n,lookT s1.T n≠none->ρt n≠t)->tokF t=some (.live tk)/\¬∃n,lookR acc.rt n=some (some t):=fun {t tk} ht hno=>by
  by_cases h:∃n,lookR acc.rt n=some (some t)
  .rw [ht3 t hno h]at ht;cases ht
  .rw [ht4 t hno h]at ht;exact⟨ht,h⟩
 have live2:∀ {k},lookB s1.B k≠none->box2 (ρb k)≠none:=fun {k} hk=>by
  obtain⟨b,hb⟩:=zaa.1 hk
  rw[hb2 k hk,hb];simp
 have hLe:Ctx.Le ⟨w,S,fun k=>boxF k≠none,β,tokF,τ⟩ ⟨w1,S1,fun k=>box2 k≠none,β2,tok2,τ2⟩:=⟨old1,cell1⟩
 have hBL:BoxLe ⟨w,S,fun k=>boxF k≠none,β,tokF,τ⟩ ⟨w1,S1,fun k=>box2 k≠none,β2,tok2,τ2⟩:=fun k hk=>by
  have hk:boxF k≠none:=hk
  rcases dich (fun j=>lookB s1.B j≠none) ρb k with⟨j,hj,rfl⟩|hno
  .refine ⟨live2 hj,?_⟩
   show β2 (ρb j)=β (ρb j)
   cases hr:lookR acc.rb j with
   |some k'=>rw[bin hj,bsame hr,(hBk.rb j k' hr).1]
   |none=>exact absurd (hBk.nb j hj hr) hk
  .exact ⟨by show box2 k≠none;rw[hb2' k hno];exact hk,bout hno⟩
 have hTL:TokLe ⟨w,S,fun k=>boxF k≠none,β,tokF,τ⟩ ⟨w1,S1,fun k=>box2 k≠none,β2,tok2,τ2⟩:=fun t ht=>by
  have ht:tokF t≠none:=ht
  rcases dich (fun j=>lookT s1.T j≠none) ρt t with⟨n,hn,rfl⟩|hno
  .refine ⟨by show tok2 (ρt n)≠none;rw[ht2 n hn];exact hn,fun tk' htk=>?_⟩
   have htk:tok2 (ρt n)=some (.live tk'):=htk
   rw[ht2 n hn]at htk
   by_cases hm:∃m,lookR acc.rt n=some (some m)
   .obtain ⟨m,hm⟩:=hm
    have em:=hBk.rt n m hm
    obtain⟨tk,tk1,g1,g2,g3,g4⟩:=hBk.back n m _ hm htk
    cases g2
    refine⟨tk,by show tokF (ρt n)=_;rw[em];exact g1,?_,g4,fun h=>by rw[g3]at h;cases h⟩
    show τ2 (ρt n)=τ (ρt n)
    rw[tin hn,tsame hm htk,em]
   .exact absurd (hBk.nt n hn (fun m h=>hm ⟨m,h⟩)) ht
  .by_cases h:∃n,lookR acc.rt n=some (some t)
   .refine ⟨by show tok2 t≠none;rw[ht3 t hno h];simp,fun tk' htk=>?_⟩
    have htk:tok2 t=some (.live tk'):=htk
    rw[ht3 t hno h]at htk;cases htk
   .refine ⟨by show tok2 t≠none;rw[ht4 t hno h];exact ht,fun tk' htk=>?_⟩
    have htk:tok2 t=some (.live tk'):=htk
    rw[ht4 t hno h]at htk
    exact⟨tk',htk,tout hno,rfl,fun h=>⟨h,rfl⟩⟩
 refine⟨β2,τ2,F2,⟨hM.upd.on hC.upd (fun i hi hlt=>?_),fun b o h=>old1 b o (hM.old b o h),fun b o h=>?_,fun b o h=>(cell1 b o (hM.old b o h)).trans (hM.keep b o h),hC.lt,fun k b hk=>?_,fun k k' b b' hk hk' e=>?_,fun t tk ht=>?_,fun t t' tk tk' b ht ht' hb hb'=>?_,fun t tk k b ht hk hF=>?_,fun k b hb hk=>?_,fun t v tk hv ht=>?_,fun n tk hs i o d hn htr hin hne=>?_⟩,hLe,hBL,hTL,fun k hk=>⟨live2 hk,bin hk⟩,fun n hn=>⟨ht2 n hn,tin hn⟩⟩
 .rcases (lentFr i hi).1 with h|h
  .omega
  .exact h
 .rcases hC.new b o h with h|h
  .exact hM.new b o h
  .exact .inr (frc b h)
 ·
  rcases dich (fun j=>lookB s1.B j≠none) ρb k with⟨j,hj,rfl⟩|hno
  .obtain ⟨b1,hb1⟩:=zaa.1 hj
   rw[hb2 j hj,hb1]at hk
   cases hk
   obtain⟨c1,c2,c3,cB⟩:=hC.boxes j b1 hb1
   rw[bin hj]
   refine⟨frc _ c1,c2,fun hz o ho=>c3 hz o ?_,?_⟩
   .have hlen:∀l:List AV,(AV.renL ρb ρt l).length=l.length:=fun l=>by
     induction l with
     |nil=>rfl
     |cons x l ih=>simp[AV.renL,ih]
    rw[hlen]at ho;exact ho
   .rcases cB with⟨hn,vs,T,c4,c5⟩|⟨hn,kt,vt,es,ents,clk,c4,c5⟩|⟨hn,vs,c4,c5⟩
    .refine .inl ⟨(kindN_map (hmn j hj)).trans hn,vs,T,c4,?_⟩
     exact renL1 (c:=⟨w1,S1,fun k=>lookB s1.B k≠none,β1,lookT s1.T,τ1⟩) (c':=⟨w1,S1,fun k=>box2 k≠none,β2,tok2,τ2⟩) rfl rfl (fun k hk=>⟨live2 hk,bin hk⟩) (fun n hn=>⟨ht2 n hn,tin hn⟩) (fun k hk=>hmn k hk) c5
    .refine .inr (.inl ⟨(hmn j hj).trans hn,kt,vt,es,ents,clk,?_,c5⟩)
     rcases c4 with e|e
     .exact .inl (by show AV.renL ρb ρt b1.cs=_;rw[e];rfl)
     .exact .inr (by show AV.renL ρb ρt b1.cs=_;rw[e];rfl)
    .refine .inr (.inr ⟨(hmn j hj).trans hn,vs,c4,?_⟩)
     exact renL1 (c:=⟨w1,S1,fun k=>lookB s1.B k≠none,β1,lookT s1.T,τ1⟩) (c':=⟨w1,S1,fun k=>box2 k≠none,β2,tok2,τ2⟩) rfl rfl (fun k hk=>⟨live2 hk,bin hk⟩) (fun n hn=>⟨ht2 n hn,tin hn⟩) (fun k hk=>hmn k hk) c5
  .rw [hb2' k hno]at hk
   obtain⟨c1,c2,c3,cB⟩:=hM.boxes k b hk
   have hfree:=freeB hk hno
   have hlt:=hM.blt hk
   rw[bout hno]
   exact⟨c1,fun hz o ho=>c2 hz o (new1 _ o ho hlt hfree),fun hz o ho=>old1 _ o (c3 hz o ho),cB.imp (block1 _ hlt hfree) fun x v hx=>⟨V1.mono hLe hBL hTL hx.1,hx.2⟩⟩
 ·
  have key:∀j k b,lookB s1.B j≠none->boxF k=some b->(∀j,lookB s1.B j≠none->ρb j≠k)->β1 j≠β k:=fun j k b hj hk hno e=>by
   obtain⟨b1,hb1⟩:=zaa.1 hj
   rcases(hC.boxes j b1 hb1).1 with h|h
   .have h:w.heap.size<=β1 j:=h
    have:=hM.blt hk;omega
   .exact freeB hk hno (e▸h)
  rcases dich (fun j=>lookB s1.B j≠none) ρb k with⟨j,hj,rfl⟩|hno<;>rcases dich (fun j=>lookB s1.B j≠none) ρb k' with⟨j',hj',rfl⟩|hno'
  .rw [bin hj,bin hj']at e
   obtain⟨b1,hb1⟩:=zaa.1 hj
   obtain⟨b2,hb2⟩:=zaa.1 hj'
   rw[hC.binj j j' b1 b2 hb1 hb2 e]
  .rw [bin hj,bout hno']at e
   rw[hb2' k' hno']at hk'
   exact absurd e (key j k' b' hj hk' hno')
  .rw [bout hno,bin hj']at e
   rw[hb2' k hno]at hk
   exact absurd e.symm (key j' k b hj' hk hno)
  .rw [bout hno,bout hno']at e
   rw[hb2' k hno]at hk;rw[hb2' k' hno']at hk'
   exact hM.binj k k' b b' hk hk' e
 ·
  rcases dich (fun j=>lookT s1.T j≠none) ρt t with⟨n,hn,rfl⟩|hno
  .rw [ht2 n hn]at ht
   rw[tin hn,fin hn]
   exact(hC.toks n tk ht).fr fun b hb=>frc b ((hC.toks n tk ht).1 b hb).1
  .obtain ⟨h1,h2⟩:=told ht hno
   rw[tout hno,fout hno]
   have hk:=hM.toks t tk h1
   have hstep:Step (fun b=>lent s0 (shβ acc β) (shF acc F) b) S S1 w w1:=⟨hC.upd,cell1,old1,fun b o h=>by
    rcases hC.new b o h with h|h|h
    .exact .inl h
    .exact .inr (.inl h)
    .exact .inr (.inr h),hC.lt⟩
   exact hk.step hstep (fun b hb=>freeT h1 h2 hb)
 .have key:∀n tk t tk' b,lookT s1.T n=some (.live tk)->tokF t=some (.live tk')->(¬∃n,lookR acc.rt n=some (some t))->F1 n b->¬F t b:=fun n tk t tk' b hn ht hno h1 h2=>by
   rcases((hC.toks n tk hn).1 b h1).1 with h|h
   .have h:w.heap.size<=b:=h
    have:=((hM.toks t tk' ht).1 b h2).2;omega
   .exact freeT ht hno h2 h
  rcases dich (fun j=>lookT s1.T j≠none) ρt t with⟨n,hn,rfl⟩|hno<;>rcases dich (fun j=>lookT s1.T j≠none) ρt t' with⟨n',hn',rfl⟩|hno'
  .rw [ht2 n hn]at ht;rw[ht2 n' hn']at ht'
   rw[fin hn]at hb;rw[fin hn']at hb'
   rw[hC.tdis n n' tk tk' b ht ht' hb hb']
  .rw [ht2 n hn]at ht
   obtain⟨h1,h2⟩:=told ht' hno'
   rw[fin hn]at hb;rw[fout hno']at hb'
   exact absurd hb' (key n tk t' tk' b ht h1 h2 hb)
  .rw [ht2 n' hn']at ht'
   obtain⟨h1,h2⟩:=told ht hno
   rw[fin hn']at hb';rw[fout hno]at hb
   exact absurd hb (key n' tk' t tk b ht' h1 h2 hb')
  .obtain ⟨h1,_⟩:=told ht hno
   obtain⟨h2,_⟩:=told ht' hno'
   rw[fout hno]at hb;rw[fout hno']at hb'
   exact hM.tdis t t' tk tk' b h1 h2 hb hb'
 .rcases dich (fun j=>lookT s1.T j≠none) ρt t with⟨n,hn,rfl⟩|hno<;>rcases dich (fun j=>lookB s1.B j≠none) ρb k with⟨j,hj,rfl⟩|hno'
  .rw [ht2 n hn]at ht
   rw[fin hn,bin hj]at hF
   obtain⟨b1,hb1⟩:=zaa.1 hj
   exact hC.tbox n tk j b1 ht hb1 hF
  .rw [ht2 n hn]at ht
   rw[hb2' k hno']at hk
   rw[fin hn,bout hno']at hF
   rcases((hC.toks n tk ht).1 _ hF).1 with h|h
   .have h:w.heap.size<=β k:=h
    have:=hM.blt hk;omega
   .exact freeB hk hno' h
  .obtain ⟨h1,h2⟩:=told ht hno
   rw[fout hno,bin hj]at hF
   obtain⟨b1,hb1⟩:=zaa.1 hj
   rcases(hC.boxes j b1 hb1).1 with h|h
   .have h:w.heap.size<=β1 j:=h
    have:=((hM.toks t tk h1).1 _ hF).2;omega
   .exact freeT h1 h2 hF h
  .obtain ⟨h1,h2⟩:=told ht hno
   rw[hb2' k hno']at hk
   rw[fout hno,bout hno']at hF
   exact hM.tbox t tk k b h1 hk hF
 .rcases dich (fun j=>lookB s1.B j≠none) ρb k with⟨j,hj,rfl⟩|hno
  .cases hr:lookR acc.rb j with
   |none=>rw[hresb j hj hr]at hb;cases hb
   |some k'=>
    obtain⟨e1,_,e3⟩:=hBk.rb j k' hr
    rw[bin hj,bsame hr]
    rw[e1]at hb
    exact hM.bfix k' b hb e3
  .rw [hb2' k hno]at hk
   rw[bout hno];exact hM.bfix k b hb hk
 .rcases dich (fun j=>lookT s1.T j≠none) ρt t with⟨n,hn,rfl⟩|hno
  .rw [ht2 n hn]at ht
   by_cases hm:∃m,lookR acc.rt n=some (some m)
   .obtain ⟨m,hm⟩:=hm
    obtain⟨tk0,_,g1,_⟩:=hBk.back n m _ hm ht
    rw[tin hn,tsame hm ht]
    rw[hBk.rt n m hm]at hv
    exact hM.tfix m v tk0 hv g1
   .rw [hrest n hn (fun m h=>hm ⟨m,h⟩)]at hv;cases hv
  .obtain ⟨h1,_⟩:=told ht hno
   rw[tout hno];exact hM.tfix t v tk hv h1
 .rcases dich (fun j=>lookT s1.T j≠none) ρt n with⟨n',hn',rfl⟩|hno
  .rw [ht2 n' hn']at hn
   exact absurd (hwh n' tk hn hs i o d htr hin) hne
  .obtain ⟨h1,h2⟩:=told hn hno
   obtain⟨k1,k2⟩:=hM.hol n tk hs i o d h1 htr hin hne
   obtain⟨g1,g2⟩:=hTL d k1
   refine⟨g1,fun td hd=>?_⟩
   obtain⟨td0,q1,q2,_⟩:=g2 td hd
   obtain⟨b,l,cap,e1,e2⟩:=k2 td0 q1
   have hF:=(hM.toks n tk h1).block e1
   refine⟨b,l,cap,by rw[tout hno];exact e1,?_⟩
   rw[show τ2 d=τ d from q2]
   exact(World.cell?_of_block (w:=w) (block1 b ((hM.toks n tk h1).1 b hF).2 (freeT h1 h2 hF))).trans e2
end Go.Proofs.YtcinmmojlcchfaaGreatDoor
namespace Go.Proofs.YtcinmmojlcchfaaGreatDoor
open Go.RowKit
section
variable {E : Env} {o : Oper} {s : LSt} {e : Eff} {fp : FP}
theorem all2_map {c:Ctx} {a:Act} (hev:∀y,V3 c (s.ev y) (a.eval y)):∀(l:List Operand),All2 (V3 c) (l.map s.ev) (l.map a.eval)
 | []=>True.intro
 |x::l=>⟨hev x,all2_map hev l⟩
theorem all2_v0 {c:Ctx}:∀ {xs:List AV} {vs:List Value},All2 (V0 c) xs vs->All2 (V3 c) xs vs:=fun h=>h.imp fun _ _ h=>V3_of_V1 (V1_of_V0 h)
theorem tokName_inj {d i j:Nat} (h:tokName d i=tokName d j):i=j:=by simp only[tokName]at h;omega
theorem mem_filterMap_snd {l:List (Nat×Option Nat)} {m:Nat}:m∈l.filterMap (·.2)↔∃n,(n,some m)∈l:=by
 constructor
 .intro h
  obtain⟨⟨n,x⟩,h1,h2⟩:=zbs.1 h
  simp only at h2
  subst h2
  exact⟨n,h1⟩
 .rintro ⟨n,h⟩;exact zbs.2 ⟨(n,some m),h,rfl⟩
theorem lookB_map {ρ:Nat->Nat} {g:BS->BS}:∀ {l:List (Nat×BS)} (hi:∀x y,x∈l->y∈l->ρ x.1=ρ y.1->x.1=y.1) {k:Nat} (hk:k∈l.map (·.1)),lookB (l.map fun x=>(ρ x.1,g x.2)) (ρ k)=(lookB l k).map g
 | [],_,k,hk=>by cases hk
 |(j,b)::l,hi,k,hk=>by
  simp only[zv,lookB]
  obtain⟨z,hz,ez⟩:=zab.1 hk
  by_cases e:k=j
  .subst e;simp
  .have hne:ρ k≠ρ j:=fun h=>e (by rw[<-ez]at h⊢;exact hi z (j,b) hz zy h)
   rw[zu hne,zu e]
   have hk':k∈l.map (·.1):=by
    simp only[zv,zp]at hk
    exact hk.resolve_left e
   exact lookB_map (fun x y hx hy=>hi x y (zl _ hx) (zl _ hy)) hk'
theorem lookT_map {ρ:Nat->Nat}:∀ {l:List (Nat×Option TS)} (hi:∀x y,x∈l->y∈l->ρ x.1=ρ y.1->x.1=y.1) {k:Nat} (hk:k∈l.map (·.1)),lookT (l.map fun x=>(ρ x.1,x.2)) (ρ k)=lookT l k
 | [],_,k,hk=>by cases hk
 |(j,b)::l,hi,k,hk=>by
  simp only[zv,lookT]
  obtain⟨z,hz,ez⟩:=zab.1 hk
  by_cases e:k=j
  .subst e;simp
  .have hne:ρ k≠ρ j:=fun h=>e (by rw[<-ez]at h⊢;exact hi z (j,b) hz zy h)
   rw[zu hne,zu e]
   have hk':k∈l.map (·.1):=by
    simp only[zv,zp]at hk
    exact hk.resolve_left e
   exact lookT_map (fun x y hx hy=>hi x y (zl _ hx) (zl _ hy)) hk'
theorem nodup_map {ρ:Nat->Nat}:∀ {l:List Nat},(∀x y,x∈l->y∈l->ρ x=ρ y->x=y)->l.Nodup->(l.map ρ).Nodup
 | [],_,_=>by simp
 |a::l,hi,h=>by
  simp only[zv,zbg]at h⊢
  refine⟨fun hin=>?_,nodup_map (fun x y hx hy=>hi x y (zl _ hx) (zl _ hy)) h.2⟩
  obtain⟨b,hb,e⟩:=zab.1 hin
  exact h.1 (hi b a (zl _ hb) zy e▸hb)
theorem lookB_not {l:List (Nat×BS)} {k:Nat} (h:k∉l.map (·.1)):lookB l k=none:=by
 cases hl:lookB l k with
 |none=>rfl
 |some b=>exact absurd (zab.2 ⟨(k,b),lookB_mem hl,rfl⟩) h
theorem rep_lit {w:World} {S:Stab} {v:Value} {p:PV} (h:Rep w S v p) (hp:p.isLit=true):v=litOf p:=by
 cases h<;>first|rfl|cases hp
theorem lit_of_all2 {c:Ctx}:∀ {xs:List AV} {vs:List Value} {ps:List PV},All2 (V1c c) xs vs->All2 AsPV xs ps->ps.all PV.isLit=true->vs=ps.map litOf
 | [],[],[],_,_,_=>rfl
 |x::xs,v::vs,p::ps,h,k,hp=>by
  simp only[List.all_cons,zj]at hp
  rw[zv,lit_of_all2 h.2 k.2 hp.2,rep_lit (as_rep' k.1 h.1.1) hp.1]
 | [],_::_,_,h,_,_=>h.elim
 |_::_,[],_,h,_,_=>h.elim
 | [],[],_::_,_,k,_=>k.elim
 |_::_,_::_,[],_,k,_=>k.elim
theorem flat_lit :∀(t:Tp) (x:t.D),t.flatB=true->(enc t x).all PV.isLit=true
 | .bool,_,_=>rfl
 | .int _,_,_=>rfl
 | .str,_,_=>rfl
 | .unit,_,_=>rfl
 | .pair a b,x,h=>by
  simp only[Tp.flatB,zj]at h
  simp only[enc,List.all_append,flat_lit a x.1 h.1,flat_lit b x.2 h.2,zb5]
 | .sl _,_,h=>by cases h
 | .opt _,_,h=>by cases h
 | .q,_,h=>by cases h
theorem sim_agg (hE:EnvOk E) (op:BinOp) (T:TypeId) (x y:Operand) (t:TypeId) (ho:o.op= .binOp op T x y t) (xs ys:List AV) (hag:aggs (s.ev x) (s.ev y)=some (xs,ys)) (h:(aggRD ((E.ty T).bind (·.eqs)) op xs ys).R s [] [] e fp):Sim E o s e:=by
 obtain⟨hx,hy⟩:s.ev x= .agg xs/\s.ev y= .agg ys:=by
  unfold aggs at hag
  split at hag
  .rename_i e1
   split at hag
   .rename_i e2;cases hag;exact⟨e1,e2⟩
   .cases hag
  .cases hag
 unfold aggRD at h
 split at h
 .exact h.elim
 rename_i r hr
 obtain⟨ty,hty,hr⟩:=zaw.1 hr
 obtain⟨hfl,hgd,hrun⟩:=(hE.ty T ty hty).eqs r hr
 split at h
 .exact h.elim
 rename_i a ha
 split at h
 .exact h.elim
 rename_i b hb
 have val:∀(c:Ctx) (ac:Act),(∀y,V3 c (s.ev y) (ac.eval y))->ac.eval x= .agg ((enc r a).map litOf).toArray/\ac.eval y= .agg ((enc r b).map litOf).toArray:=fun c ac hev=>by
  have h1:=hev x
  have h2:=hev y
  rw[hx]at h1
  rw[hy]at h2
  obtain⟨vs,e1,a1⟩:=h1
  obtain⟨us,e2,a2⟩:=h2
  rw[e1,e2,lit_of_all2 a1 (mkRow_as r xs a ha) (flat_lit r a hfl),lit_of_all2 a2 (mkRow_as r ys b hb) (flat_lit r b hfl)]
  exact⟨rfl,rfl⟩
 split at h
 .cases val_R h
  refine sim_val fun c ac w hw hev=>⟨.bool (r.eqB a b),?_,mk_bool c _⟩
  obtain⟨v1,v2⟩:=val c ac hev
  simp only[execOp,ho,Sem.run_bind,v1,v2,run_eqGuard_agg w _ _ _ _ _ _ hgd,Result.andThen_ok,run_eql_struct,hrun,Sem.run_pure]
 .cases val_R h
  refine sim_val fun c ac w hw hev=>⟨.bool (!r.eqB a b),?_,mk_bool c _⟩
  obtain⟨v1,v2⟩:=val c ac hev
  simp only[execOp,ho,Sem.run_bind,v1,v2,run_eqGuard_agg w _ _ _ _ _ _ hgd,Result.andThen_ok,run_neq_struct,hrun,Sem.run_pure]
 .exact h.elim
def wholeT (ts:List (Nat×Option TS)):Prop:=∀n tk,(n,some (TS.live tk))∈ts->tk.only
theorem wholeT.append {a b:List (Nat×Option TS)} (h:wholeT a) (k:wholeT b):wholeT (a++b):=fun n tk hin=>by
 rcases zaB.1 hin with h1|h1
 .exact h n tk h1
 .exact k n tk h1
theorem wholeT.nil :wholeT []:=fun n tk h=>by cases h
mutual
theorem inst_whole :∀(v:VS) (ps:List Pay),wholeT (inst v ps).2.2
 | .dead,ps=>wholeT.nil
 | .pv t,ps=>by cases ps<;>exact wholeT.nil
 | .nils,ps=>wholeT.nil
 | .nilp,ps=>wholeT.nil
 | .box k o,ps=>wholeT.nil
 | .ptr t,ps=>by cases ps<;>exact wholeT.nil
 | .own n t e d,ps=>by
  simp only[inst]
  split
  .exact fun m tk h hs i o d ht hin=>by
    simp at h
    obtain⟨_,rfl⟩:=h
    cases ht<;>cases hin
  .exact wholeT.nil
 | .mtk n t e d,ps=>by
  simp only[inst]
  split
  .exact fun m tk h hs i o d ht hin=>by
    simp at h
    obtain⟨_,rfl⟩:=h
    cases ht<;>cases hin
  .exact wholeT.nil
 | .tre n t e,ps=>by
  simp only[inst]
  split
  .exact fun m tk h hs i o d ht hin=>by
    simp at h
    obtain⟨_,rfl⟩:=h
    cases ht<;>cases hin
  .exact wholeT.nil
 | .trk n t e,ps=>by
  simp only[inst]
  split
  .exact fun m tk h hs i o d ht hin=>by
    simp at h
    obtain⟨_,rfl⟩:=h
    cases ht
    simp at hin
    exact hin.2.2
  .exact wholeT.nil
 | .agg l,ps=>instL_whole l ps
 | .tup l,ps=>instL_whole l ps
 | .clo f l,ps=>by
  cases ps with
  |nil=>exact wholeT.nil
  |cons p ps=>exact instL_whole l _
theorem instL_whole :∀(l:List VS) (ps:List Pay),wholeT (instL l ps).2.2
 | [],ps=>wholeT.nil
 |v::l,ps=>by
  simp only[instL]
  exact(inst_whole v ps).append (instL_whole l _)
end
theorem instB_whole :∀(l:List (Nat×Bool×List VS)) (ps:List Pay),wholeT (instB l ps).2
 | [],ps=>wholeT.nil
 |(k,fz,vs)::l,ps=>by
  simp only[instB]
  exact(instL_whole vs ps).append (instB_whole l _)
theorem mk_whole (sh:Sh) (y:HD sh.codes):∀n tk,lookT (sh.mk' y).T n=some (.live tk)->tk.only:=fun n tk h=>
 ((instL_whole sh.vals (unpack sh.codes y)).append (instB_whole sh.boxes (instL sh.vals (unpack sh.codes y)).2.1)) n tk (lookT_mem h)
theorem sim_callN (hE:EnvOk E) (c:Call) (ho:o.op= .call c) (g:Operand) (hc:c.callee= .value g) (f:FuncId) (cs:List AV) (hg:s.ev g= .clo f cs) (h:(callRD E f o.dst (c.args.toList.map s.ev++cs)).R s [] [] e fp):Sim E o s e:=by
 unfold callRD at h
 obtain⟨B,rb1,hB,h⟩:=readB_R _ _ _ _ _ h (fun k b h=>by cases h)
 obtain⟨T,rt1,hT,h⟩:=readT_R _ _ _ _ _ h (fun k b h=>by cases h)
 obtain⟨m,a0,acc,hm,hcv,h⟩:=pickM_R _ h
 obtain⟨r,hr,h⟩:=h
 unfold callRet at h
 simp only at h
 split at h
 case isFalse=>exact h.elim
 rename_i hok
 obtain⟨hfB,rb2,h⟩:=freshB_R _ _ _ _ h
 obtain⟨hfT,rt2,h⟩:=freshT_R _ _ _ _ h
 split at h
 case h_1=>exact h.elim
 rename_i v0 vl hL
 obtain⟨he,_⟩:=h
 simp only[callOk,zj,zax,zw]at hok
 obtain⟨⟨⟨⟨⟨⟨⟨ok1,ok2⟩,ok3⟩,ok4⟩,ok5⟩,ok6⟩,ok7⟩,ok8⟩:=hok
 obtain⟨s1,hs1⟩:∃s1,s1=m.ret.mk' r:=⟨_,rfl⟩
 rw[<-hs1]at hfB hfT hL he ok3 ok4 ok5 ok6 ok7 ok8
 have hMod:=hE.fn f m hm
 obtain⟨⟨fn,hfn,hname,hbody⟩,hrunm⟩:=hMod
 have hfc:=hrunm a0 r hr
 rw[<-hs1]at hfc
 obtain⟨s0,hs0⟩:∃s0,s0=m.arg.mk' a0:=⟨_,rfl⟩
 rw[<-hs0]at hfc
 rintro R a w hR0 ⟨β,τ,F,S,hM,hn,hdf,hsl⟩ K Q hK
 have hev:=V3_ev hsl
 obtain⟨us,hgv,hus⟩:=v3_clo (hg▸hev g)
 have hvals:All2 (V3 (s.ctx w S β τ)) (c.args.toList.map s.ev++cs) (c.args.toList.map a.eval++us):=(all2_map hev _).append (all2_v0 hus)
 obtain⟨hinv,S',hSS,hM',hcb,hct,hct2,hcb2,hMB,hv0⟩:=conv_mem hM hB hT hcv hvals
 rw[<-hs0]at hcb hct hct2 hcb2 hMB hv0
 have hboxF:∀k,lookB s.B k≠none↔fzB (lookB s.B) acc.fb k≠none:=fun k=>by
  unfold fzB
  cases lookB s.B k<;>simp
 have htokF:∀n,lookT s.T n≠none↔fzT (lookT s.T) acc.ft n≠none:=fun n=>by
  unfold fzT
  split
  .rename_i tk htk;rw[htk];simp
  .rfl
 have hMc:Mem (lentRoot s0 (shβ acc β) (shτ acc τ) (shF acc F) S' w) (lookB s0.B) (lookT s0.T) (shβ acc β) (shτ acc τ) (shF acc F) S' w:=by
  obtain⟨g1,g2,g3,g4,g5⟩:=hMB (lentRoot s0 (shβ acc β) (shτ acc τ) (shF acc F) S' w).fr (fun k b hk=>.inr (.inl ⟨k,b,hk,rfl⟩)) (fun t tk b ht hb=>.inr (.inr ⟨t,tk,ht,hb⟩))
  refine⟨Upd.refl _ _,fun _ _ h=>h,fun _ _ h=>.inl h,fun _ _ _=>rfl,hM'.lt,g1,g2,g3,g4,g5,fun k b hb hk=>?_,fun t v tk hv ht=>?_,fun n tk hs i o d hn htr hin hne=>absurd ((by rw[hs0]at hn;exact mk_whole _ _ n tk hn:tk.only) hs i o d htr hin) hne⟩
  .simp only [lentRoot]at hb
   split at hb
   .cases hb;rfl
   .cases hb
  .simp only [lentRoot,ht]at hv
   cases hv;rfl
 have hgl:GlobOk w (lent s0 (shβ acc β) (shF acc F)) S':=hR0.2.2.later hM hSS fun b hb=>by
  rcases hb with⟨k,x,hk,rfl⟩|⟨t,tk,ht,hF⟩
  .obtain ⟨k',b',g1,g2,_⟩:=hcb k x hk
   have:shβ acc β k=β k':=by unfold shβ;rw[g1];rfl
   rw[this]
   exact(hM'.boxes k' b' g2).1
  .obtain ⟨n',h1,h2⟩:=hct t tk ht
   have h3:=lookR_nodup hinv.rt.1 t n' h1
   unfold shF at hF
   rw[h3]at hF
   cases n' with
   |none=>exact hF.elim
   |some m=>
    obtain⟨tk0,h4,_⟩:=h2
    exact(hM'.toks m tk0 h4).1 b hF|>.1
 have hcall:=hfc w S' (shβ acc β) (shτ acc τ) (shF acc F) _ hgl hMc hv0
 have hrun:(execOp a.eval o).run E.P w= .ok (.enter f (c.args.toList.map a.eval++us).toArray) w:=by
  have hb':¬fn.body=none:=fun e=>by rw[e]at hbody;cases hbody
  have ea:(c.args.toList.map a.eval++us).toArray= #[]++c.args.map a.eval++us.toArray:=by apply Array.ext';simp
  rw[ea]
  simp[execOp,ho,resolve,hc,hgv,Deferred.ofValue,invoke,callFunc,hfn,hname,hb']
 unfold Oper.wp
 rw[hrun,Oper.upon_enter]
 refine hcall.mono fun e' w1 he=>?_
 obtain⟨v,β1,τ1,F1,S1,rfl,hC,x,hx,hvx⟩:=he
 rw[hL]at hx
 simp only[List.head?_cons,zaE]at hx
 subst hx
 simp only
 obtain⟨ρb,hρb⟩:∃ρb,ρb=renB (o.dst.getD 0) acc.rb:=⟨_,rfl⟩
 obtain⟨ρt,hρt⟩:∃ρt,ρt=renT (o.dst.getD 0) acc.rt:=⟨_,rfl⟩
 rw[<-hρb]at hfB
 rw[<-hρt]at hfT
 rw[<-hρb,<-hρt]at he
 have rbIn:∀k k',lookR acc.rb k=some k'->ρb k=k':=fun k k' h=>by rw[hρb];unfold renB;rw[h];rfl
 have rbOut:∀k,lookR acc.rb k=none->ρb k=tokName (o.dst.getD 0) k:=fun k h=>by rw[hρb];unfold renB;rw[h];rfl
 have rtIn:∀n m,lookR acc.rt n=some (some m)->ρt n=m:=fun n m h=>by rw[hρt];unfold renT;rw[h]
 have rtOut:∀n,(∀m,lookR acc.rt n≠some (some m))->ρt n=tokName (o.dst.getD 0) n:=fun n h=>by
  rw[hρt];unfold renT
  cases hl:lookR acc.rt n with
  |none=>rfl
  |some x=>cases x with
   |none=>rfl
   |some m=>exact absurd hl (h m)
 have keysB:∀k,lookB s1.B k≠none↔k∈s1.B.map (·.1):=fun k=>⟨fun h=>by
  obtain⟨b,hb⟩:=zaa.1 h
  exact zab.2 ⟨(k,b),lookB_mem hb,rfl⟩,lookB_isSome⟩
 have keysT:∀n,lookT s1.T n≠none->n∈s1.T.map (·.1):=fun n h=>by
  by_cases hin:n∈s1.T.map (·.1)
  .exact hin
  .exact absurd (lookT_none_of hin) h
 have hret:=hMB
 have hs0t:∀n tk,lookT s0.T n=some (.live tk)->∃x,lookR acc.rt n=some x/\∀m,x=some m->∃tk0,fzT (lookT s.T) acc.ft m=some (.live tk0):=fun n tk hn=>by
  obtain⟨n',h1,h2⟩:=hct n tk hn
  refine⟨n',lookR_nodup hinv.rt.1 n n' h1,fun m hm=>?_⟩
  subst hm
  obtain⟨tk0,h3,_⟩:=h2
  exact⟨tk0,h3⟩
 have hbackT:∀n m z,lookR acc.rt n=some (some m)->lookT s1.T n=some z->∃tk tk',fzT (lookT s.T) acc.ft m=some (.live tk)/\z= .live tk'/\tk.wr=true/\tk'.t=tk.t:=fun n m z h1 h2=>by
  have h3:=ok6 (n,some z) (lookT_mem h2)
  simp only[backOk,h1]at h3
  split at h3
  .rename_i tk tk' e1 e2
   simp only[zj,zw,Bool.not_eq_true',List.contains_eq_mem,decide_eq_false_iff_not]at h3
   cases e2
   obtain⟨⟨g1,g2⟩,g3⟩:=h3
   exact⟨tk,tk',by unfold fzT;rw[hT m _ e1];simp[g3],rfl,g1,g2⟩
  .cases h3
 have hBk:Back acc s0 s1 ρb ρt (fzB (lookB s.B) acc.fb) (fzT (lookT s.T) acc.ft):=by
  refine⟨fun k k' hk=>?_,hinv.rb,fun k b hk=>?_,fun k hk hno=>?_,fun k k' h1 h2 e=>?_,rtIn,fun n n' m h1 h2=>?_,hs0t,fun n hn hno=>?_,fun n n' h1 h2 e=>?_,hbackT⟩
  .refine ⟨rbIn k k' hk,?_,?_⟩
   .have:=ok3 (k,k') (lookR_mem hk)
    simp only[Option.isSome_iff_ne_none]at this;exact this
   .have:=hcb2 k k' hk
    obtain⟨b,hb⟩:=zaa.1 this
    obtain⟨k2,b',g1,g2,_⟩:=hcb k b hb
    rw[hk]at g1;cases g1
    rw[g2];simp
  .obtain ⟨k',b',g1,_⟩:=hcb k b hk
   exact⟨k',g1⟩
  .obtain ⟨b,hb⟩:=zaa.1 hk
   have:=(hfB (ρb k) (zab.2 ⟨(k,b),zaZ.2 ⟨lookB_mem hb,by simp[hno]⟩,rfl⟩)).1
   by_cases hne:fzB (lookB s.B) acc.fb (ρb k)=none
   .exact hne
   .exact absurd this ((hboxF _).2 hne)
  .rw [rbOut k h1,rbOut k' h2]at e;exact tokName_inj e
  .obtain ⟨i,hi⟩:=zbr.1 (lookR_mem h1)
   obtain⟨i',hi'⟩:=zbr.1 (lookR_mem h2)
   have:=hinv.rt.2 i i' _ _ m hi hi' rfl rfl
   subst this
   rw[hi]at hi';cases hi';rfl
  .obtain ⟨z,hz⟩:=zaa.1 hn
   have hib:isBound acc n=false:=by
    unfold isBound
    split
    .rename_i m hm;exact absurd hm (hno m)
    .rfl
   have:=(hfT (ρt n) (zab.2 ⟨(n,some z),zaZ.2 ⟨lookT_mem hz,by simp[hib]⟩,rfl⟩)).1
   by_cases hne:fzT (lookT s.T) acc.ft (ρt n)=none
   .exact hne
   .exact absurd this ((htokF _).2 hne)
  .rw [rtOut n h1,rtOut n' h2]at e;exact tokName_inj e
 have hnb:∀x y,x∈s1.B->y∈s1.B->ρb x.1=ρb y.1->x.1=y.1:=fun x y hx hy h=>hBk.inj_b ((keysB x.1).2 (zab.2 ⟨x,hx,rfl⟩)) ((keysB y.1).2 (zab.2 ⟨y,hy,rfl⟩)) h
 have liveT:∀x,x∈s1.T->lookT s1.T x.1≠none:=fun x hx=>by
  rw[lookT_nodup ok5 x.1 x.2 hx]
  intro hz
  have:=ok7 x hx
  rw[hz]at this;cases this
 have hnt:∀x y,x∈s1.T->y∈s1.T->ρt x.1=ρt y.1->x.1=y.1:=fun x y hx hy h=>hBk.inj_t (liveT x hx) (liveT y hy) h
 obtain⟨newB,hnewB⟩:∃l:List (Nat×BS),l=s1.B.map fun x=>(ρb x.1,(⟨x.2.fz,AV.renL ρb ρt x.2.cs⟩:BS)):=⟨_,rfl⟩
 obtain⟨newT,hnewT⟩:∃l:List (Nat×Option TS),l=s1.T.map fun x=>(ρt x.1,x.2):=⟨_,rfl⟩
 rw[<-hnewB,<-hnewT]at he
 have ndB:(newB.map (·.1)).Nodup:=by
  rw[hnewB,show(s1.B.map fun x=>(ρb x.1,(⟨x.2.fz,AV.renL ρb ρt x.2.cs⟩:BS))).map (·.1)=(s1.B.map (·.1)).map ρb from by simp]
  refine nodup_map (fun x y hx hy h=>?_) ok4
  obtain⟨x',hx',rfl⟩:=zab.1 hx
  obtain⟨y',hy',rfl⟩:=zab.1 hy
  exact hnb x' y' hx' hy' h
 have ndT:(newT.map (·.1)).Nodup:=by
  rw[hnewT,show(s1.T.map fun x=>(ρt x.1,x.2)).map (·.1)=(s1.T.map (·.1)).map ρt from by simp]
  refine nodup_map (fun x y hx hy h=>?_) ok5
  obtain⟨x',hx',rfl⟩:=zab.1 hx
  obtain⟨y',hy',rfl⟩:=zab.1 hy
  exact hnt x' y' hx' hy' h
 have hboxE:∀k,e.updB (lookB s.B) k=match lookB newB k with|some b=>some b|none=>fzB (lookB s.B) acc.fb k:=fun k=>by
  rw[he]
  simp only[Eff.updB,zaX]
  rw[foldB newB _ ndB]
  cases lookB newB k with
  |some b=>rfl
  |none=>
   simp only
   rw[foldFzB B (lookB s.B) hB acc.fb _ (fun k hk=>by have:=ok1 k hk;simpa[Option.isSome_iff_ne_none]using this)]
   unfold fzB
   by_cases hin:k∈acc.fb
   .rw [zf hin];cases lookB s.B k<;>simp[hin]
   .rw [zu hin];cases lookB s.B k<;>simp[hin]
 have htokE:∀t,e.updT (lookT s.T) t=if t∈newT.map (·.1)then lookT newT t else if t∈acc.rt.filterMap (·.2)then some .spent else fzT (lookT s.T) acc.ft t:=fun t=>by
  rw[he]
  simp only[Eff.updT,zaX]
  rw[foldT newT _ ndT,spend_fold]
  by_cases h1:t∈newT.map (·.1)
  .rw [zf h1,zf h1]
  .rw [zu h1,zu h1]
   unfold spend
   by_cases h2:t∈acc.rt.filterMap (·.2)
   .rw [zf h2,zf h2]
   .rw [zu h2,zu h2,foldFzT T (lookT s.T) hT acc.ft _ (fun n hn=>ok2 n hn)]
    by_cases h3:t∈acc.ft
    .rw [zf h3]
    .rw [zu h3]
     unfold fzT
     split
     .rename_i tk htk;rw[htk];simp[h3]
     .rfl
 have keyB:∀k,k∈newB.map (·.1)->∃j,lookB s1.B j≠none/\ρb j=k:=fun k hk=>by
  rw[hnewB]at hk
  obtain⟨y,hy,rfl⟩:=zab.1 hk
  obtain⟨x,hx,rfl⟩:=zab.1 hy
  exact⟨x.1,(keysB x.1).2 (zab.2 ⟨x,hx,rfl⟩),rfl⟩
 have keyT:∀k,k∈newT.map (·.1)->∃j,lookT s1.T j≠none/\ρt j=k:=fun k hk=>by
  rw[hnewT]at hk
  obtain⟨y,hy,rfl⟩:=zab.1 hk
  obtain⟨x,hx,rfl⟩:=zab.1 hy
  exact⟨x.1,liveT x hx,rfl⟩
 obtain⟨β2,τ2,F2,hM2,hLe,hBL,hTL,hnB,hnT⟩:=call_mem hM' hBk hC (e.updB (lookB s.B)) (e.updT (lookT s.T)) (fun k hk=>by
   rw[hboxE,hnewB,lookB_map (g:=fun b=>⟨b.fz,AV.renL ρb ρt b.cs⟩) hnb ((keysB k).1 hk)]
   obtain⟨b,hb⟩:=zaa.1 hk
   rw[hb];rfl) (fun k hno=>by
   rw[hboxE,lookB_not (fun hk=>by obtain⟨j,h1,h2⟩:=keyB k hk;exact hno j h1 h2)]) (fun n hn=>by
   have h1:=keysT n hn
   rw[htokE,zf (by rw[hnewT,show(s1.T.map fun x=>(ρt x.1,x.2)).map (·.1)=(s1.T.map (·.1)).map ρt from by simp];exact zab.2 ⟨n,h1,rfl⟩),hnewT,lookT_map hnt h1]) (fun t hno hb=>by
   obtain⟨n,hb⟩:=hb
   rw[htokE,zu (fun hk=>by obtain⟨j,h1,h2⟩:=keyT t hk;exact hno j h1 h2),zf (mem_filterMap_snd.2 ⟨n,lookR_mem hb⟩)]) (fun t hno hb=>by
   rw[htokE,zu (fun hk=>by obtain⟨j,h1,h2⟩:=keyT t hk;exact hno j h1 h2),zu (fun hk=>by obtain⟨n,h1⟩:=mem_filterMap_snd.1 hk;exact hb ⟨n,lookR_nodup hinv.rt.1 n _ h1⟩)]) (fun k hk hno=>by
   obtain⟨b,hb⟩:=zaa.1 hk
   exact hR0.bn (hfB (ρb k) (zab.2 ⟨(k,b),zaZ.2 ⟨lookB_mem hb,by simp[hno]⟩,rfl⟩)).2) (fun n hn hno=>by
   obtain⟨z,hz⟩:=zaa.1 hn
   have hib:isBound acc n=false:=by
    unfold isBound
    split
    .rename_i m hm;exact absurd hm (hno m)
    .rfl
   exact hR0.tn (hfT (ρt n) (zab.2 ⟨(n,some z),zaZ.2 ⟨lookT_mem hz,by simp[hib]⟩,rfl⟩)).2) (fun n m h1 _=>hct2 n _ (lookR_mem h1)) hcb2 (by rw[hs1];exact mk_whole _ _) (fun k hk=>by
   obtain⟨b,hb⟩:=zaa.1 hk
   have:=ok8 (k,b) (lookB_mem hb)
   rw[hρb]
   simpa using this)
 have hs1':∀i,V3 ⟨w1,S1,fun k=>e.updB (lookB s.B) k≠none,β2,e.updT (lookT s.T),τ2⟩ (getA s.L i) (a.tmps.getD i undef):=fun i=>by
  have h1:=V3.mono (c:=s.ctx w S β τ) (c':=⟨w,S',fun k=>fzB (lookB s.B) acc.fb k≠none,β,fzT (lookT s.T) acc.ft,τ⟩) ⟨hSS,fun _ _ _=>rfl⟩ (fun k hk=>⟨(hboxF k).1 hk,rfl⟩) (fun t ht=>by
   obtain⟨h1,h2⟩:=fzT_le (w:=w) (S:=S) (S':=S') (live:=fun _=>True) (β:=β) (τ:=τ) (lookT s.T) acc.ft t ht
   exact⟨h1,h2⟩) (hsl i)
  exact V3.mono hLe hBL hTL h1
 refine hK _ _ (rel_put (s:=s) (e:=e) hM2 hn hdf hs1' o.dst ?_)
 cases hd:o.dst with
 |none=>exact .inl rfl
 |some d=>
  right
  have hv:e.val=v0.ren ρb ρt:=by rw[he];simp[hd]
  rw[hv]
  exact ren3 (c:=s1.ctx w1 S1 β1 τ1) (c':=⟨w1,S1,fun k=>e.updB (lookB s.B) k≠none,β2,e.updT (lookT s.T),τ2⟩) rfl rfl (fun k hk=>hnB k hk) (fun n hn=>hnT n hn) (fun k hk=>by
   obtain⟨b,hb⟩:=zaa.1 hk
   have:=ok8 (k,b) (lookB_mem hb)
   rw[hρb]
   simpa using this) hvx
end
end Go.Proofs.YtcinmmojlcchfaaGreatDoor
