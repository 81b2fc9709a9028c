import Derived.Test.YtcinmmojlcchfaaGreatDoorKZ
import Derived.Test.YtcinmmojlcchfaaGreatDoorSC1
import Derived.Test.YtcinmmojlcchfaaGreatDoorSD1
set_option linter.unusedVariables false
set_option linter.unusedSimpArgs false
namespace Go.Proofs.YtcinmmojlcchfaaGreatDoor
open Go.RowKit
structure GoodD (d:EDoc):Prop where
 id1:1<=d.1
 id2:d.1<=9999
 fl:d.2.1.length<=3
 al:d.2.2.length<=3
 f:∀f,f∈d.2.1->okW f.1=true/\okT f.2=true
 a:∀a,a∈d.2.2->okW a.1=true/\0<=a.2/\a.2<=999999999
theorem goodD {d:EDoc} (h:okDoc d=true):GoodD d:=by
 unfold okDoc at h
 simp only[zj,zw]at h
 obtain⟨⟨⟨⟨⟨h1,h2⟩,h3⟩,h4⟩,h5⟩,h6⟩:=h
 refine⟨h1,h2,by omega,by omega,fun f hf=>?_,fun a ha=>?_⟩
 .obtain ⟨n,hn,rfl⟩:=zav.1 hf
  have:=allN_at h5 hn
  unfold okF at this
  rw[zj,zj,<-fAt_eq hn]at this
  exact this.1
 .obtain ⟨n,hn,rfl⟩:=zav.1 ha
  have:=allN_at h6 hn
  unfold okA at this
  rw[zj,zj,zj,zw,zw,<-aAt_eq hn]at this
  exact this.1
theorem okW_no {s:List UInt8} (h:okW s=true) {c:UInt8} (hc:wB (c.toNat:Int)=false):c∉s:=fun hm=>by
 have:=((okW_iff s).1 h).1 c hm
 rw[hc]at this
 cases this
theorem okT_no {s:List UInt8} (h:okT s=true):(10:UInt8)∉s:=fun hm=>by
 obtain⟨n,hn,e⟩:=zav.1 hm
 unfold okT at h
 rw[zj]at h
 have:=allN_at h.1 hn
 have hb:atB s n=10:=by
  unfold atB
  rw[zc hn,e]
  rfl
 rw[hb]at this
 exact absurd this (by decide)
def docLn (d:EDoc):List UInt8:=[100,111,99,32]++Lib.itoa d.1
def fieldLn (f:EField):List UInt8:=[102,105,101,108,100,32]++f.1++ [32]++f.2
def numLn (a:EAttr):List UInt8:=[110,117,109,32]++a.1++ [32]++Lib.itoa a.2
def deadLn (n:Int):List UInt8:=[100,101,97,100,32]++Lib.itoa n
def docLines (d:EDoc):List (List UInt8):=docLn d::(d.2.1.map fieldLn++d.2.2.map numLn)
def liveLines (docs:List EDoc) (dead:List Int):List (List UInt8):=docs.flatMap docLines++dead.map deadLn
def docT (d:EDoc):List UInt8:=linesT (docLines d)
def liveT (docs:List EDoc) (dead:List Int):List UInt8:=linesT (liveLines docs dead)
theorem itoa_dig {n:Int} (h0:0<=n):∀c,c∈Lib.itoa n->digB c=true:=fun c hc=>by
 unfold Lib.itoa at hc
 rw[zu (by omega)]at hc
 exact digits_dig _ n.toNat (zae _) c hc
theorem itoa_no {n:Int} (h0:0<=n) {x:UInt8} (hx:digB x=false):x∉Lib.itoa n:=fun h=>by
 rw[itoa_dig h0 x h]at hx
 cases hx
theorem atoi_itoa {n:Int} (h0:0<=n) (h1:n<1000000000000000000):atoiN (Lib.itoa n)=n:=by
 unfold Lib.itoa
 rw[zu (by omega),atoi_dec _ (by omega)]
 omega
theorem docLn_no {d:EDoc} (g:GoodD d):(10:UInt8)∉docLn d:=by
 unfold docLn
 rw[zaB,not_or]
 exact⟨by decide,itoa_no (by have:=g.id1;omega) (by decide)⟩
theorem fieldLn_no {f:EField} (h:okW f.1=true/\okT f.2=true):(10:UInt8)∉fieldLn f:=by
 unfold fieldLn
 rw[zaB,zaB,zaB,not_or,not_or,not_or]
 exact⟨⟨⟨by decide,okW_no h.1 (by decide)⟩,by decide⟩,okT_no h.2⟩
theorem numLn_no {a:EAttr} (h:okW a.1=true/\0<=a.2/\a.2<=999999999):(10:UInt8)∉numLn a:=by
 unfold numLn
 rw[zaB,zaB,zaB,not_or,not_or,not_or]
 exact⟨⟨⟨by decide,okW_no h.1 (by decide)⟩,by decide⟩,itoa_no h.2.1 (by decide)⟩
theorem deadLn_no {n:Int} (h:0<=n):(10:UInt8)∉deadLn n:=by
 unfold deadLn
 rw[zaB,not_or]
 exact⟨by decide,itoa_no h (by decide)⟩
theorem docLines_no {d:EDoc} (g:GoodD d):∀l,l∈docLines d->(10:UInt8)∉l:=fun l hl=>by
 unfold docLines at hl
 rw[zp,zaB]at hl
 rcases hl with rfl|hl|hl
 .exact docLn_no g
 .obtain ⟨f,hf,rfl⟩:=zab.1 hl
  exact fieldLn_no (g.f f hf)
 .obtain ⟨a,ha,rfl⟩:=zab.1 hl
  exact numLn_no (g.a a ha)
theorem liveLines_no {docs:List EDoc} {dead:List Int} (hd:∀d,d∈docs->GoodD d) (hn:∀n,n∈dead->0<=n):∀l,l∈liveLines docs dead->(10:UInt8)∉l:=fun l hl=>by
 unfold liveLines at hl
 rw[zaB]at hl
 rcases hl with hl|hl
 .obtain ⟨d,hm,hl⟩:=zaT.1 hl
  exact docLines_no (hd d hm) l hl
 .obtain ⟨n,hm,rfl⟩:=zab.1 hl
  exact deadLn_no (hn n hm)
def readLn (d:EDoc) (line:List UInt8):EDoc:=
 let k:=cut1 32 line
 let m:=cut1 32 k.2.1
 bif decide (k.1=[100,111,99])then(atoiN k.2.1,d.2)else bif decide (k.1=[102,105,101,108,100])then(d.1,d.2.1++ [(m.1,m.2.1)],d.2.2)else bif decide (k.1=[110,117,109])then(d.1,d.2.1,d.2.2++ [(m.1,atoiN m.2.1)])else d
def readD (ls:List (List UInt8)):EDoc:=ls.foldl readLn (0,[],[])
theorem read_doc {d:EDoc} (g:GoodD d) (e:EDoc):readLn e (docLn d)=(d.1,e.2):=by
 have h1:cut1 32 (docLn d)=([100,111,99],Lib.itoa d.1,true):=cut1_hit (p:=[100,111,99]) (by decide)
 unfold readLn
 rw[h1]
 dsimp only
 rw[zb rfl,zg,atoi_itoa (by have:=g.id1;omega) (by have:=g.id2;omega)]
theorem read_field {f:EField} (h:okW f.1=true/\okT f.2=true) (e:EDoc):readLn e (fieldLn f)=(e.1,e.2.1++ [f],e.2.2):=by
 have h1:cut1 32 (fieldLn f)=([102,105,101,108,100],f.1++32::f.2,true):=by
  have e1:fieldLn f=[102,105,101,108,100]++32::(f.1++32::f.2):=by unfold fieldLn;simp
  rw[e1,cut1_hit (by decide)]
 have h2:cut1 32 (f.1++32::f.2)=(f.1,f.2,true):=cut1_hit (okW_no h.1 (by decide))
 unfold readLn
 rw[h1]
 dsimp only
 rw[h2,zd (by decide),ze,zb rfl,zg]
theorem read_num {a:EAttr} (h:okW a.1=true/\0<=a.2/\a.2<=999999999) (e:EDoc):readLn e (numLn a)=(e.1,e.2.1,e.2.2++ [a]):=by
 have h1:cut1 32 (numLn a)=([110,117,109],a.1++32::Lib.itoa a.2,true):=by
  have e1:numLn a=[110,117,109]++32::(a.1++32::Lib.itoa a.2):=by unfold numLn;simp
  rw[e1,cut1_hit (by decide)]
 have h2:cut1 32 (a.1++32::Lib.itoa a.2)=(a.1,Lib.itoa a.2,true):=cut1_hit (okW_no h.1 (by decide))
 unfold readLn
 rw[h1]
 dsimp only
 rw[h2,zd (by decide),ze,zd (by decide),ze,zb rfl,zg,atoi_itoa h.2.1 (by omega)]
theorem read_none (e:EDoc):readLn e []=e:=by
 have h1:cut1 32 []=([],[],false):=cut1_none (by decide)
 unfold readLn
 rw[h1]
 rfl
theorem read_fields :∀(fs:List EField) (e:EDoc),(∀f,f∈fs->okW f.1=true/\okT f.2=true)->(fs.map fieldLn).foldl readLn e=(e.1,e.2.1++fs,e.2.2)
 | [],e,_=>by simp
 |f::fs,e,h=>by
  rw[zv,zaq,read_field (h f zy),read_fields fs _ fun x hx=>h x (zl _ hx)]
  simp
theorem read_nums :∀(al:List EAttr) (e:EDoc),(∀a,a∈al->okW a.1=true/\0<=a.2/\a.2<=999999999)->(al.map numLn).foldl readLn e=(e.1,e.2.1,e.2.2++al)
 | [],e,_=>by simp
 |a::al,e,h=>by
  rw[zv,zaq,read_num (h a zy),read_nums al _ fun x hx=>h x (zl _ hx)]
  simp
theorem readD_lines {d:EDoc} (g:GoodD d):readD (docLines d)=d/\readD (docLines d++ [[]])=d:=by
 have h:readD (docLines d)=d:=by
  unfold readD docLines
  rw[zaq,read_doc g,zaX,read_fields _ _ g.f,read_nums _ _ g.a]
  simp
 refine⟨h,?_⟩
 unfold readD at h⊢
 rw[zaX,h]
 exact read_none d
def deadP :List UInt8:=[100,101,97,100,32]
def docP :List UInt8:=[100,111,99,32]
def midB (l:List UInt8):Bool:= !docP.isPrefixOf l&& !deadP.isPrefixOf l
def readL :List (List UInt8)->List EDoc×List Int
 | []=>([],[])
 |l::ls=>bif deadP.isPrefixOf l then((readL ls).1,atoiN (l.drop 5)::(readL ls).2)else
   (bif !decide (l=[])then readD (l::ls.takeWhile midB)::(readL (ls.dropWhile midB)).1 else(readL (ls.dropWhile midB)).1,(readL (ls.dropWhile midB)).2)
termination_by ls => ls.length
decreasing_by
 all_goals simp_wf
 all_goals first
  |exact Nat.lt_succ_of_le (List.dropWhile_sublist _).length_le
  |omega
theorem dead_pre (n:Int):deadP.isPrefixOf (deadLn n)=true/\(deadLn n).drop 5=Lib.itoa n/\midB (deadLn n)=false:=by
 have h:deadLn n=100::101::97::100::32::Lib.itoa n:=rfl
 rw[h]
 refine⟨by simp[deadP,List.isPrefixOf],rfl,by simp[midB,deadP,docP,List.isPrefixOf]⟩
theorem doc_pre (d:EDoc):deadP.isPrefixOf (docLn d)=false/\docLn d≠ []/\midB (docLn d)=false:=by
 have h:docLn d=100::111::99::32::Lib.itoa d.1:=rfl
 rw[h]
 refine⟨by simp[deadP,List.isPrefixOf],by simp,by simp[midB,deadP,docP,List.isPrefixOf]⟩
theorem mid_lines (d:EDoc):∀l,l∈d.2.1.map fieldLn++d.2.2.map numLn->midB l=true:=fun l hl=>by
 rw[zaB]at hl
 rcases hl with hl|hl
 .obtain ⟨f,_,rfl⟩:=zab.1 hl
  have h:fieldLn f=102::105::101::108::100::32::(f.1++ [32]++f.2):=by unfold fieldLn;simp
  rw[h]
  simp[midB,deadP,docP,List.isPrefixOf]
 .obtain ⟨a,_,rfl⟩:=zab.1 hl
  have h:numLn a=110::117::109::32::(a.1++ [32]++Lib.itoa a.2):=by unfold numLn;simp
  rw[h]
  simp[midB,deadP,docP,List.isPrefixOf]
theorem while_mid {ms rest:List (List UInt8)} (h:∀l,l∈ms->midB l=true) (hr:∀l ls,rest=l::ls->midB l=false):(ms++rest).takeWhile midB=ms/\(ms++rest).dropWhile midB=rest:=by
 induction ms with
 |nil=>
  cases rest with
  |nil=>exact⟨rfl,rfl⟩
  |cons l ls=>
   have:=hr l ls rfl
   simp[this]
 |cons m ms ih=>
  have:=ih fun l hl=>h l (zl _ hl)
  have hm:=h m zy
  rw[zbk,List.takeWhile_cons,List.dropWhile_cons,hm]
  simp[this.1,this.2]
theorem readL_none :readL [[]]=([],[]):=by
 rw[readL]
 have h:deadP.isPrefixOf ([]:List UInt8)=false:=rfl
 rw[h,ze]
 rw[show([]:List (List UInt8)).dropWhile midB=[]from rfl,readL]
 rfl
theorem readL_dead :∀dead:List Int,(∀n,n∈dead->0<=n/\n<=999999999)->readL (dead.map deadLn++ [[]])=([],dead)
 | [],_=>readL_none
 |n::dead,h=>by
  obtain⟨h1,h2,_⟩:=dead_pre n
  have hn:=h n zy
  rw[zv,zbk,readL,h1,zg,h2,readL_dead dead fun x hx=>h x (zl _ hx),atoi_itoa hn.1 (by omega)]
theorem readL_live :∀(docs:List EDoc) (dead:List Int),(∀d,d∈docs->GoodD d)->(∀n,n∈dead->0<=n/\n<=999999999)->readL (liveLines docs dead++ [[]])=(docs,dead)
 | [],dead,_,hn=>readL_dead dead hn
 |d::docs,dead,hd,hn=>by
  have g:=hd d zy
  obtain⟨h1,h2,h3⟩:=doc_pre d
  have ih:=readL_live docs dead (fun x hx=>hd x (zl _ hx)) hn
  have e:liveLines (d::docs) dead++ [[]]=docLn d::((d.2.1.map fieldLn++d.2.2.map numLn)++(liveLines docs dead++ [[]])):=by
   unfold liveLines
   rw[zbu]
   unfold docLines
   simp
  rw[e,readL,h1,ze,zd h2,zaI,zg]
  by_cases hr:liveLines docs dead=[]
  .rw [hr,zaW]at ih⊢
   have hm:∀l,l∈(d.2.1.map fieldLn++d.2.2.map numLn)++ [[]]->midB l=true:=fun l hl=>by
    rw[zaB,zaD]at hl
    rcases hl with hl|rfl
    .exact mid_lines d l hl
    .rfl
   have w:=while_mid (rest:=[]) hm (fun l ls h=>by cases h)
   rw[zat]at w
   rw[w.1,w.2]
   have e2:docLn d::((d.2.1.map fieldLn++d.2.2.map numLn)++ [[]])=docLines d++ [[]]:=rfl
   rw[e2,(readD_lines g).2]
   rw[readL_none]at ih
   obtain⟨i1,i2⟩:=Prod.mk.inj ih
   rw[readL,<-i1,<-i2]
  .have hf:∀l ls,liveLines docs dead++ [[]]=l::ls->midB l=false:=fun l ls h=>by
    cases docs with
    |cons d2 docs=>
     have:l=docLn d2:=by
      unfold liveLines at h
      rw[zbu]at h
      unfold docLines at h
      simp only[zbk]at h
      exact(List.cons.inj h).1.symm
     rw[this]
     exact(doc_pre d2).2.2
    |nil=>
     cases dead with
     |nil=>exact absurd rfl hr
     |cons n dead=>
      have:l=deadLn n:=by
       have h:deadLn n::(dead.map deadLn++ [[]])=l::ls:=h
       exact(List.cons.inj h).1.symm
      rw[this]
      exact(dead_pre n).2.2
   have w:=while_mid (mid_lines d) hf
   rw[w.1,w.2,ih]
   have e2:docLn d::(d.2.1.map fieldLn++d.2.2.map numLn)=docLines d:=rfl
   rw[e2,(readD_lines g).1]
def numS (s:List UInt8):Int:=bif s.all digB&&(decide (s.length<=9)&&(decide (s≠ [])&& !(decide (1<s.length)&&decide (s.head? =some 48))))then(numD 0 s:Int)else-1
theorem digits_len :∀(k u:Nat),1<=k->u<10^k->(Lib.decDigits u).length<=k
 |k,u,hk,h=>by
  rw[digits_eq]
  by_cases hu:u<10
  .rw [zf hu]
   exact hk
  .rw [zu hu,zam,zbE]
   match k,hk with
   |1,_=>rw[Nat.pow_one]at h;omega
   |k+2,_=>
    have:=digits_len (k+1) (u/10) (by omega) (by rw[Nat.pow_succ]at h;omega)
    omega
theorem digits_head :∀(n u:Nat),u<=n->0<u->(Lib.decDigits u).head? ≠some 48
 |n,u,hn,h0=>by
  rw[digits_eq]
  by_cases hu:u<10
  .rw [zf hu]
   have:∀d:Nat,d<10->0<d->([UInt8.ofNat (48+d)]:List UInt8).head? ≠some 48:=by decide
   exact this u hu h0
  .rw [zu hu]
   match n,hn with
   |0,hn=>omega
   |n+1,hn=>
    have ih:=digits_head n (u/10) (by omega) (by omega)
    have hne:=digits_ne (u/10)
    cases hl:Lib.decDigits (u/10)with
    |nil=>exact absurd hl hne
    |cons c r=>
     rw[hl]at ih
     exact ih
theorem numS_itoa {n:Int} (h0:0<=n) (h1:n<=999999999):numS (Lib.itoa n)=n:=by
 unfold Lib.itoa
 rw[zu (by omega)]
 have hp:(10:Nat)^9=1000000000:=by decide
 have hl:=digits_len 9 n.toNat (by omega) (by omega)
 have hd:=digits_dig n.toNat n.toNat (zae _)
 have hne:=digits_ne n.toNat
 have hz:¬(1<(Lib.decDigits n.toNat).length/\(Lib.decDigits n.toNat).head? =some 48):=fun⟨h2,h3⟩=>by
  rcases Nat.eq_zero_or_pos n.toNat with e|e
  .rw [e,digits_eq,zf (by decide)]at h2
   simp at h2
  .exact digits_head _ _ (zae _) e h3
 have hz:(decide (1<(Lib.decDigits n.toNat).length)&&decide ((Lib.decDigits n.toNat).head? =some 48))=false:=by
  rw[<-zci,zj,zw,zw]
  exact hz
 unfold numS
 rw[zax.2 hd,zb hl,zb hne,hz,numD_digits _ _ (zae _)]
 show((n.toNat:Nat):Int)=n
 omega
def dgStep (i:Nat) (d:EDoc) (line:List UInt8):Option EDoc:=match cutN 32 2 line with
 | [a,b]=>bif decide (i=0)&&decide (a=[100,111,99])then some (numS b,d.2)else none
 | [a,b,c]=>bif decide (0<i)&&decide (a=[102,105,101,108,100])then some (d.1,d.2.1++ [(b,c)],d.2.2)else bif decide (0<i)&&decide (a=[110,117,109])then some (d.1,d.2.1,d.2.2++ [(b,numS c)])else none
 |_=>none
def dgRun :Nat->List (List UInt8)->EDoc->Option EDoc
 |_,[],d=>some d
 |i,l::ls,d=>(dgStep i d l).bind fun d=>dgRun (i+1) ls d
def zeroD0 :EDoc:=(0,[],[])
def dgS (s:List UInt8):EDoc×Bool:=match dgRun 0 (cutN 10 8 s).dropLast zeroD0 with
 |some d=>bif okDoc d&&decide (docT d=s)then(d,true)else(zeroD0,false)
 |none=>(zeroD0,false)
theorem dg_doc {d:EDoc} (g:GoodD d) (e:EDoc):dgStep 0 e (docLn d)=some (d.1,e.2):=by
 have h1:cutN 32 2 (docLn d)=[[100,111,99],Lib.itoa d.1]:=by
  have:docLn d=[100,111,99]++32::Lib.itoa d.1:=rfl
  rw[this,cutN_hit 1 (by decide),cutN_none 1 (itoa_no (by have:=g.id1;omega) (by decide))]
 unfold dgStep
 rw[h1]
 dsimp only
 rw[zb rfl,zb rfl,zb5,zg,numS_itoa (by have:=g.id1;omega) (by have:=g.id2;omega)]
theorem dg_field {f:EField} (h:okW f.1=true/\okT f.2=true) {i:Nat} (hi:0<i) (e:EDoc):dgStep i e (fieldLn f)=some (e.1,e.2.1++ [f],e.2.2):=by
 have h1:cutN 32 2 (fieldLn f)=[[102,105,101,108,100],f.1,f.2]:=by
  have e1:fieldLn f=[102,105,101,108,100]++32::(f.1++32::f.2):=by unfold fieldLn;simp
  rw[e1,cutN_hit 1 (by decide),cutN_hit 0 (okW_no h.1 (by decide))]
  rw[cutN]
 unfold dgStep
 rw[h1]
 dsimp only
 rw[zb hi,zb rfl,zb5,zg]
theorem dg_num {a:EAttr} (h:okW a.1=true/\0<=a.2/\a.2<=999999999) {i:Nat} (hi:0<i) (e:EDoc):dgStep i e (numLn a)=some (e.1,e.2.1,e.2.2++ [a]):=by
 have h1:cutN 32 2 (numLn a)=[[110,117,109],a.1,Lib.itoa a.2]:=by
  have e1:numLn a=[110,117,109]++32::(a.1++32::Lib.itoa a.2):=by unfold numLn;simp
  rw[e1,cutN_hit 1 (by decide),cutN_hit 0 (okW_no h.1 (by decide))]
  rw[cutN]
 unfold dgStep
 rw[h1]
 dsimp only
 rw[zb hi,zaj,zd (by decide),ze,zaj,zb rfl,zg,numS_itoa h.2.1 h.2.2]
theorem dg_fields :∀(fs:List EField) (i:Nat) (e:EDoc) (ls:List (List UInt8)),0<i->(∀f,f∈fs->okW f.1=true/\okT f.2=true)->dgRun i (fs.map fieldLn++ls) e=dgRun (i+fs.length) ls (e.1,e.2.1++fs,e.2.2)
 | [],i,e,ls,_,_=>by simp
 |f::fs,i,e,ls,hi,h=>by
  rw[zv,zbk,dgRun,dg_field (h f zy) hi,za,dg_fields fs (i+1) _ ls (by omega) fun x hx=>h x (zl _ hx)]
  rw[zi,show i+1+fs.length=i+(fs.length+1)from by omega]
  simp
theorem dg_nums :∀(al:List EAttr) (i:Nat) (e:EDoc),0<i->(∀a,a∈al->okW a.1=true/\0<=a.2/\a.2<=999999999)->dgRun i (al.map numLn) e=some (e.1,e.2.1,e.2.2++al)
 | [],i,e,_,_=>by
  rw[zck,dgRun]
  simp
 |a::al,i,e,hi,h=>by
  rw[zv,dgRun,dg_num (h a zy) hi,za,dg_nums al (i+1) _ (by omega) fun x hx=>h x (zl _ hx)]
  simp
theorem docLines_len {d:EDoc} (g:GoodD d):(docLines d).length<=7:=by
 have:=g.fl
 have:=g.al
 unfold docLines
 simp
 omega
theorem dgS_put {d:EDoc} (h:okDoc d=true):dgS (docT d)=(d,true):=by
 have g:=goodD h
 have hc:cutN 10 8 (docT d)=docLines d++ [[]]:=cutN_lines 8 (docLines_no g) (by have:=docLines_len g;omega)
 have hr:dgRun 0 (docLines d) zeroD0=some d:=by
  unfold docLines
  rw[dgRun,dg_doc g,za,dg_fields _ _ _ _ (by omega) g.f,dg_nums _ _ _ (by omega) g.a]
  simp[zeroD0]
 unfold dgS
 rw[hc,zcg,hr]
 dsimp only
 rw[h,zb rfl]
 rfl
abbrev StS :Type:=List EDoc×List Int×List UInt8
def isMid (a:List UInt8):Bool:=decide (a=[102,105,101,108,100])||decide (a=[110,117,109])
def flushS (a:List UInt8) (st:StS):StS:=bif !decide (st.2.2=[])&& !isMid a then(st.1++ [(dgS st.2.2).1],st.2.1,[])else st
def lineS (last:Bool) (st:StS) (line:List UInt8):StS:=match cutN 32 1 line with
 | [a,b]=>bif decide (a=[100,101,97,100])then((flushS a st).1,(flushS a st).2.1++ [numS b],(flushS a st).2.2)else bif last then flushS a st else((flushS a st).1,(flushS a st).2.1,(flushS a st).2.2++line++ [10])
 |a::_=>bif last then flushS a st else((flushS a st).1,(flushS a st).2.1,(flushS a st).2.2++line++ [10])
 | []=>st
def runS (ls:List (List UInt8)) (st:StS):StS:=lineS true (ls.dropLast.foldl (lineS false) st) (ls.getLastD [])
def docsS (s:List UInt8):List EDoc×List Int:=((runS (cutN 10 400 s) ([],[],[])).1,(runS (cutN 10 400 s) ([],[],[])).2.1)
def doneS (st:StS):List EDoc:=bif !decide (st.2.2=[])then st.1++ [(dgS st.2.2).1]else st.1
theorem line_doc {d:EDoc} (g:GoodD d) (st:StS):lineS false st (docLn d)=(doneS st,st.2.1,docLn d++ [10]):=by
 have h1:cutN 32 1 (docLn d)=[[100,111,99],Lib.itoa d.1]:=by
  have:docLn d=[100,111,99]++32::Lib.itoa d.1:=rfl
  rw[this,cutN_hit 0 (by decide)]
  rw[cutN]
 unfold lineS
 rw[h1]
 dsimp only
 rw[zd (by decide),ze,ze]
 unfold flushS doneS
 have hm:isMid [100,111,99]=false:=by decide
 rw[hm,zaI,zaV]
 cases h:decide (st.2.2=[])with
 |true=>
  rw[zn,ze,ze,of_decide_eq_true h]
  rfl
 |false=>rfl
theorem line_mid {l a b:List UInt8} (h:cutN 32 1 l=[a,b]) (ha:isMid a=true) (hn:a≠ [100,101,97,100]) (st:StS):lineS false st l=(st.1,st.2.1,st.2.2++l++ [10]):=by
 unfold lineS
 rw[h]
 dsimp only
 rw[zd hn,ze,ze]
 unfold flushS
 rw[ha,zn,zcf,ze]
theorem line_field {f:EField} (h:okW f.1=true/\okT f.2=true) (st:StS):lineS false st (fieldLn f)=(st.1,st.2.1,st.2.2++fieldLn f++ [10]):=by
 have h1:cutN 32 1 (fieldLn f)=[[102,105,101,108,100],f.1++32::f.2]:=by
  have e1:fieldLn f=[102,105,101,108,100]++32::(f.1++32::f.2):=by unfold fieldLn;simp
  rw[e1,cutN_hit 0 (by decide)]
  rw[cutN]
 exact line_mid h1 (by decide) (by decide) st
theorem line_num {a:EAttr} (st:StS):lineS false st (numLn a)=(st.1,st.2.1,st.2.2++numLn a++ [10]):=by
 have h1:cutN 32 1 (numLn a)=[[110,117,109],a.1++32::Lib.itoa a.2]:=by
  have e1:numLn a=[110,117,109]++32::(a.1++32::Lib.itoa a.2):=by unfold numLn;simp
  rw[e1,cutN_hit 0 (by decide)]
  rw[cutN]
 exact line_mid h1 (by decide) (by decide) st
theorem mids_S :∀(ls:List (List UInt8)) (st:StS),(∀l,l∈ls->∀st,lineS false st l=(st.1,st.2.1,st.2.2++l++ [10]))->ls.foldl (lineS false) st=(st.1,st.2.1,st.2.2++linesT ls)
 | [],st,_=>by simp[linesT]
 |l::ls,st,h=>by
  rw[zaq,h l zy,mids_S ls _ fun x hx=>h x (zl _ hx),linesT_cons]
  simp
theorem doc_S {d:EDoc} (g:GoodD d) (st:StS):(docLines d).foldl (lineS false) st=(doneS st,st.2.1,docT d):=by
 unfold docT docLines
 rw[zaq,line_doc g,mids_S]
 .rw [linesT_cons]
  simp
 .intro l hl st
  rw[zaB]at hl
  rcases hl with hl|hl
  .obtain ⟨f,hf,rfl⟩:=zab.1 hl
   exact line_field (g.f f hf) st
  .obtain ⟨a,_,rfl⟩:=zab.1 hl
   exact line_num st
theorem docT_ne (d:EDoc):docT d≠ []:=by
 unfold docT docLines
 rw[linesT_cons]
 simp
theorem docs_S :∀(docs:List EDoc) (st:StS),(∀d,d∈docs->okDoc d=true)->doneS ((docs.flatMap docLines).foldl (lineS false) st)=doneS st++docs/\((docs.flatMap docLines).foldl (lineS false) st).2.1=st.2.1
 | [],st,_=>by simp
 |d::docs,st,h=>by
  have hd:=h d zy
  rw[zbu,zaX,doc_S (goodD hd)]
  obtain⟨h1,h2⟩:=docs_S docs (doneS st,st.2.1,docT d) fun x hx=>h x (zl _ hx)
  refine⟨?_,h2⟩
  rw[h1]
  have:doneS (doneS st,st.2.1,docT d)=doneS st++ [d]:=by
   rw[doneS]
   dsimp only
   rw[zd (docT_ne d),zaI,zg,dgS_put hd]
  rw[this]
  simp
theorem line_dead {n:Int} (h0:0<=n) (h1:n<=999999999) (last:Bool) (st:StS):lineS last st (deadLn n)=(doneS st,st.2.1++ [n],[]):=by
 have h2:cutN 32 1 (deadLn n)=[[100,101,97,100],Lib.itoa n]:=by
  have:deadLn n=[100,101,97,100]++32::Lib.itoa n:=rfl
  rw[this,cutN_hit 0 (by decide)]
  rw[cutN]
 unfold lineS
 rw[h2]
 dsimp only
 rw[zb rfl,zg,numS_itoa h0 h1]
 unfold flushS doneS
 have hm:isMid [100,101,97,100]=false:=by decide
 rw[hm,zaI,zaV]
 cases h:decide (st.2.2=[])with
 |true=>
  rw[zn,ze,ze,of_decide_eq_true h]
 |false=>rfl
theorem dead_S :∀(dead:List Int) (st:StS),(∀n,n∈dead->0<=n/\n<=999999999)->doneS ((dead.map deadLn).foldl (lineS false) st)=doneS st/\((dead.map deadLn).foldl (lineS false) st).2.1=st.2.1++dead
 | [],st,_=>by simp
 |n::dead,st,h=>by
  have hn:=h n zy
  rw[zv,zaq,line_dead hn.1 hn.2]
  obtain⟨h1,h2⟩:=dead_S dead (doneS st,st.2.1++ [n],[]) fun x hx=>h x (zl _ hx)
  rw[h1,h2]
  exact⟨rfl,by simp⟩
theorem last_S (st:StS):lineS true st []=(doneS st,st.2.1,[]):=by
 have h1:cutN 32 1 ([]:List UInt8)=[[]]:=by rw[cutN]
 unfold lineS
 rw[h1]
 dsimp only
 rw[zg]
 unfold flushS doneS
 have hm:isMid []=false:=by decide
 rw[hm,zaI,zaV]
 cases h:decide (st.2.2=[])with
 |true=>
  rw[zn,ze,ze,<-of_decide_eq_true h]
 |false=>rfl
theorem docsS_put {docs:List EDoc} {dead:List Int} (hd:∀d,d∈docs->okDoc d=true) (hn:∀n,n∈dead->0<=n/\n<=999999999) (hl:(liveLines docs dead).length<=400):docsS (liveT docs dead)=(docs,dead):=by
 have hc:cutN 10 400 (liveT docs dead)=liveLines docs dead++ [[]]:=cutN_lines 400 (liveLines_no (fun d h=>goodD (hd d h)) fun n h=>(hn n h).1) hl
 have hr:runS (liveLines docs dead++ [[]]) ([],[],[])=(docs,dead,[]):=by
  unfold runS
  rw[zcg,List.getLastD_concat]
  obtain⟨h1,h2⟩:=docs_S docs ([],[],[]) hd
  obtain⟨h3,h4⟩:=dead_S dead ((docs.flatMap docLines).foldl (lineS false) ([],[],[])) hn
  rw[last_S]
  unfold liveLines
  rw[zaX,h3,h4,h1,h2]
  rfl
 unfold docsS
 rw[hc,hr]
theorem alive_pos {c:EConf} {l:ELive} (h:okLive c l=true):0<(alive l).length:=by
 rw[<-okLive_live]at h
 simp only[zj,zw]at h
 exact h.2.2.2
def putLive (c:EConf) (l:ELive):List UInt8:=bif okIdx (c,[l])then liveT l.1.1 l.2 else []
def segI (c:EConf) (docs:List EDoc):ESeg:=bif okConf c&&okDocs docs then(docs,entriesS c docs)else([],[])
def getI (c:EConf) (s:List UInt8):Option ELive:=
 let r:=readL (cutAt 10 s)
 let l:ELive:=(segI c r.1,r.2)
 bif !decide (s=[])&&decide (putLive c l=s)then some l else none
def getS (c:EConf) (s:List UInt8):Option ELive:=
 let r:=docsS s
 let l:ELive:=((r.1,entriesS c r.1),r.2)
 bif okDocs r.1&&decide (0<r.1.length)then(bif okIdx (c,[l])&&decide (liveT r.1 r.2=s)then some l else none)else none
structure OneL (c:EConf) (l:ELive):Prop where
 conf:okConf c=true
 docs:okDocs l.1.1=true
 ents:l.1.2=entriesS c l.1.1
 some:0<l.1.1.length
 few:l.1.1.length<=16
 dead:l.2.length<=60
 nums:∀n,n∈l.2->0<=n/\n<=999999999
theorem oneL {c:EConf} {l:ELive} (h:okIdx (c,[l])=true):OneL c l:=by
 obtain⟨k1,k2,k3,k4⟩:=okIdx_ok h
 have hl:okLive c l=true:=zax.1 k3 l zy
 obtain⟨h1,h2,h3,_⟩:=okLive_ok hl
 have hp:=alive_pos hl
 have hle:(alive l).length<=l.1.1.length:=by unfold alive;exact zbh _ _
 have hu:upB l.2=true:=by
  unfold okLive at hl
  rw[zj,zj]at hl
  exact hl.2.1
 exact⟨k1,okSeg_docs h1,(okSeg_ok h1).2.2,by omega,h2,h3,(upB_up hu).2.2⟩
theorem flat_le {α β:Type} (f:α->List β) (k:Nat):∀l:List α,(∀x,x∈l->(f x).length<=k)->(l.flatMap f).length<=l.length*k
 | [],_=>by simp
 |x::l,h=>by
  have h1:=h x zy
  have h2:=flat_le f k l fun y hy=>h y (zl _ hy)
  rw[zbu,zam,zi,zaO]
  omega
theorem OneL.lines {c:EConf} {l:ELive} (h:OneL c l):(liveLines l.1.1 l.2).length<=400:=by
 have h1:=flat_le docLines 7 l.1.1 fun d hd=>docLines_len (goodD (okDoc_each h.docs d hd))
 have h2:=h.few
 have h3:=h.dead
 unfold liveLines
 rw[zam,zar]
 omega
theorem OneL.good {c:EConf} {l:ELive} (h:OneL c l):∀d,d∈l.1.1->GoodD d:=fun d hd=>goodD (okDoc_each h.docs d hd)
theorem OneL.cut {c:EConf} {l:ELive} (h:OneL c l):cutAt 10 (liveT l.1.1 l.2)=liveLines l.1.1 l.2++ [[]]:=cut_lines (liveLines_no h.good fun n hn=>(h.nums n hn).1)
theorem OneL.readI {c:EConf} {l:ELive} (h:OneL c l):readL (cutAt 10 (liveT l.1.1 l.2))=(l.1.1,l.2):=by rw[h.cut,readL_live _ _ h.good h.nums]
theorem OneL.readS {c:EConf} {l:ELive} (h:OneL c l):docsS (liveT l.1.1 l.2)=(l.1.1,l.2):=docsS_put (okDoc_each h.docs) h.nums h.lines
theorem OneL.ne {c:EConf} {l:ELive} (h:OneL c l):liveT l.1.1 l.2≠ []:=by
 have hs:=h.some
 obtain⟨⟨docs,ents⟩,dead⟩:=l
 cases docs with
 |nil=>simp at hs
 |cons d docs=>
  unfold liveT liveLines
  rw[zbu]
  unfold docLines
  rw[zbk,zbk,linesT_cons]
  simp
theorem OneL.seg {c:EConf} {l:ELive} (h:OneL c l):segI c l.1.1=l.1:=by
 unfold segI
 rw[h.conf,h.docs,zb5,zg,<-h.ents]
theorem getI_some {c:EConf} {s:List UInt8} {l:ELive} (h:getI c s=some l):okIdx (c,[l])=true/\liveT l.1.1 l.2=s:=by
 unfold getI at h
 dsimp only at h
 cases hb: !decide (s=[])&&decide (putLive c (segI c (readL (cutAt 10 s)).1,(readL (cutAt 10 s)).2)=s)with
 |false=>rw[hb]at h;cases h
 |true=>
  rw[hb,zg,zaE]at h
  rw[h,zj,zw]at hb
  obtain⟨h1,h2⟩:=hb
  unfold putLive at h2
  cases hk:okIdx (c,[l])with
  |true=>
   rw[hk,zg]at h2
   exact⟨rfl,h2⟩
  |false=>
   rw[hk,ze]at h2
   rw[<-h2]at h1
   exact absurd h1 (by decide)
theorem getI_put {c:EConf} {l:ELive} (h:okIdx (c,[l])=true):getI c (liveT l.1.1 l.2)=some l:=by
 have o:=oneL h
 unfold getI
 dsimp only
 rw[o.readI]
 dsimp only
 have e:((segI c l.1.1,l.2):ELive)=l:=by rw[o.seg]
 rw[e]
 unfold putLive
 rw[h,zg,zb rfl,zd o.ne]
 rfl
theorem getS_some {c:EConf} {s:List UInt8} {l:ELive} (h:getS c s=some l):okIdx (c,[l])=true/\liveT l.1.1 l.2=s:=by
 unfold getS at h
 dsimp only at h
 cases hb:okDocs (docsS s).1&&decide (0<(docsS s).1.length)with
 |false=>rw[hb]at h;cases h
 |true=>
  rw[hb,zg]at h
  cases hk:okIdx (c,[(((docsS s).1,entriesS c (docsS s).1),(docsS s).2)])&&decide (liveT (docsS s).1 (docsS s).2=s)with
  |false=>rw[hk]at h;cases h
  |true=>
   rw[hk,zg,zaE]at h
   rw[zj,zw]at hk
   rw[<-h]
   exact hk
theorem getS_put {c:EConf} {l:ELive} (h:okIdx (c,[l])=true):getS c (liveT l.1.1 l.2)=some l:=by
 have o:=oneL h
 unfold getS
 dsimp only
 rw[o.readS]
 dsimp only
 have e:(((l.1.1,entriesS c l.1.1),l.2):ELive)=l:=by rw[<-o.ents]
 rw[o.docs,zb o.some,e,h,zb rfl]
 rfl
theorem get_same (c:EConf) (s:List UInt8):getI c s=getS c s:=by
 cases hi:getI c s with
 |some l=>
  obtain⟨h1,h2⟩:=getI_some hi
  rw[<-h2,getS_put h1]
 |none=>
  cases hs:getS c s with
  |none=>rfl
  |some l=>
   obtain⟨h1,h2⟩:=getS_some hs
   rw[<-h2,getI_put h1]at hi
   cases hi
theorem digit_byte :∀u:Nat,u<10->bytesOf [IntKind.u8.wrap (48+(u:Int))]=[UInt8.ofNat (48+u)]:=by decide
theorem digits_step (u:Nat):Lib.decDigits u=if u<10 then [UInt8.ofNat (48+u)]else Lib.decDigits (u/10)++ [UInt8.ofNat (48+u%10)]:=by
 rw[Lib.decDigits]
 by_cases h:u<10
 .rw [dif_pos h,zf h]
 .rw [dif_neg h,zu h]
theorem dec_nat (N:Nat):∀(D u:Nat),D<=100000000->u<10^(D+1)->(u:Int)<=9223372036854775807->s_l1Dec_m N (D+1) (u:Int)=some (Lib.decDigits u)/\(Lib.decDigits u).length<=D+1
 |D,u,hD,h1,h2=>by
  rw[digits_step,s_l1Dec_m,zd (by omega:¬(u:Int)< -9223372036854775807),ze,zd (by omega:¬(u:Int)<0),ze]
  by_cases h:u<10
  .rw [zb (by omega:(u:Int)<10),zg,zf h,zf (by unfold fits;omega),digit_byte u h]
   exact⟨rfl,by simp⟩
  .rw [zd (by omega:¬(u:Int)<10),ze,zu h]
   have hne:D≠0:=fun e=>by
    subst e
    rw[Nat.pow_succ,Nat.pow_zero]at h1
    omega
   obtain⟨E,rfl⟩:∃E,D=E+1:=⟨D-1,by omega⟩
   have e1:(u:Int).tdiv 10=((u/10:Nat):Int):=rfl
   have e2:(u:Int).tmod 10=((u%10:Nat):Int):=rfl
   have hm:u%10<10:=Nat.mod_lt _ (by decide)
   obtain⟨h3,h4⟩:=dec_nat N E (u/10) (by omega) (by rw[Nat.pow_succ]at h1;omega) (by omega)
   have h5:(Lib.decDigits (u/10)).length+1<=E+1+1:=by omega
   rw[e1,e2,zf (by decide:(10:Nat)≠0),zf (by unfold fits;omega),h3,za,zf (by decide:(10:Nat)≠0),zf (by unfold fits;omega),digit_byte _ hm,zf (by rw[zbE];omega)]
   exact⟨rfl,by rw[zam,zbE];exact h5⟩
theorem dec_min :Lib.itoa (-9223372036854775808)=[45,57,50,50,51,51,55,50,48,51,54,56,53,52,55,55,53,56,48,56]:=by
 unfold Lib.itoa
 rw[zf (by decide)]
 simp[Lib.decDigits]
theorem dec_spec (N D:Nat) (hD:25<=D) (hD2:D<=16777216) (n:Int) (h0: -9223372036854775808<=n) (h1:n<=9223372036854775807):s_l1Dec_m N D n=some (itoaL n):=by
 obtain⟨E,rfl⟩:∃E,D=E+2:=⟨D-2,by omega⟩
 have hp:(10:Nat)^19<=10^(E+1):=Nat.pow_le_pow_right (by decide) (by omega)
 have hp2:(10:Nat)^(E+1)<=10^(E+2):=Nat.pow_le_pow_right (by decide) (by omega)
 have hv:(10:Nat)^19=10000000000000000000:=by decide
 unfold itoaL
 by_cases hn:n<0
 .rw [s_l1Dec_m]
  by_cases hm:n< -9223372036854775807
  .obtain rfl:n=-9223372036854775808:=by omega
   rw[zb hm,zg,dec_min]
  .have e:(0:Int)-n=((n.natAbs:Nat):Int):=by omega
   obtain⟨h3,h4⟩:=dec_nat N E n.natAbs (by omega) (by omega) (by omega)
   rw[zd hm,ze,zb hn,zg,zf (by unfold fits;omega),e,h3,za,zf (by rw[zbE];omega)]
   unfold Lib.itoa
   rw[zf hn]
   rfl
 .have e:n=((n.toNat:Nat):Int):=by omega
  obtain⟨h3,h4⟩:=dec_nat N (E+1) n.toNat (by omega) (by omega) (by omega)
  unfold Lib.itoa
  rw[zu hn]
  rw[<-e]at h3
  exact h3
theorem itoa_spec (N:Nat) (n:Int) (h0: -9223372036854775808<=n) (h1:n<=9223372036854775807):k_strconv_Itoa_m N n=some (itoaL n):=by
 unfold k_strconv_Itoa_m itoaM
 rw[zf ⟨h0,h1⟩]
theorem cutS_spec (N:Nat) (s:List UInt8) (c:UInt8) (b m:Int) (k:Nat) (hb:b=(c.toNat:Int)) (hm:m=(k:Int)) (hN:s.length<N) (hl:s.length<=4294967295):s_l1Cut_m N s b m=some (cutN c k s):=by
 subst hb hm
 unfold s_l1Cut_m
 refine Def.get ?_
 refine Def.iter (fun g=>∃(out:List (List UInt8)) (fr i:Nat),g=(s,(c.toNat:Int),(k:Int),out,(fr:Int),(i:Int))/\fr<=i/\i<=s.length/\out.length<=i/\c∉(s.take i).drop fr/\out++cutN c (k-out.length) (s.drop fr)=cutN c k s) (fun g=>s.length-g.2.2.2.2.2.toNat) (fun go g hI ih=>?_) N _ ⟨[],0,0,rfl,zae _,zaf _,zaf _,by simp,by simp⟩ (by dsimp only;omega)
 obtain⟨out,fr,i,rfl,h1,h2,h3,h4,h5⟩:=hI
 have hc0:s.drop fr=(s.take i).drop fr++s.drop i:=by
  have e:s.take i++s.drop i=s:=zaR i s
  have e2:(s.take i++s.drop i).drop fr=(s.take i).drop fr++s.drop i:=by rw[zch (by rw[zah];omega)]
  rw[e]at e2
  exact e2
 have hfin:Def (Option.bind (cut s (fr:Int) (s.length:Int)) fun(y:List UInt8)=>if room out.length ([y]:List (List UInt8)).length 16 then some (out++([y]:List (List UInt8)))else none) fun r=>r=out++ [s.drop fr]:=by
  refine Def.cut (by omega) (by omega) (by omega) ?_
  rw[zai,zai,zq]
  exact Def.ite (room_of (by rw[zbE];omega) (by rw[zbE];omega)) (Def.ret rfl)
 dsimp only
 by_cases hi:i<s.length
 .rw [zb (by omega:(i:Int)<s.length),zg]
  by_cases hm:out.length<k
  .rw [zb (by omega:(out.length:Int)<(k:Int)),zg,idx_at hi,za]
   have hd:s.drop i=s[i]::s.drop (i+1):=zan hi
   by_cases hc:s[i]=c
   .rw [zb (by rw[hc]),zg]
    refine Def.cut (by omega) (by omega) (by omega) ?_
    rw[zai,zai]
    refine Def.ite (room_of (by rw[zbE];omega) (by rw[zbE];omega)) (Def.ite (fits_nat (by omega)) (Def.ite (fits_nat (by omega)) (ih _ ⟨out++ [(s.take i).drop fr],i+1,i+1,by rw[cast_succ'],zae _,hi,by rw[zam,zbE];omega,by rw[zbw (by rw[zah];omega)];simp,?_⟩ ?_)))
    .have e:k-out.length=(k-(out.length+1))+1:=by omega
     rw[<-h5,hc0,hd,hc,e,cutN_hit _ h4,zam,zbE,zao]
     rfl
    .dsimp only
     omega
   .rw [zd (fun e=>hc (UInt8.toNat_inj.1 (by omega))),ze]
    refine Def.ite (fits_nat (by omega)) (ih _ ⟨out,fr,i+1,by rw[cast_succ'],by omega,hi,by omega,?_,h5⟩ ?_)
    .rw [zo hi,zch (by rw[zah];omega),zaB,not_or]
     exact⟨h4,by rw[zaD];exact fun e=>hc e.symm⟩
    .dsimp only
     omega
  .rw [zd (by omega:¬(out.length:Int)<(k:Int)),ze]
   refine hfin.mono fun r hr=>?_
   rw[hr,<-h5,show k-out.length=0 from by omega,cutN]
 .rw [zd (by omega:¬(i:Int)<s.length),ze]
  refine hfin.mono fun r hr=>?_
  have e:i=s.length:=by omega
  rw[e,zq]at h4
  rw[hr,<-h5,cutN_none _ h4]
theorem wrap_dig :∀u:Nat,u<10->IntKind.i64.wrap (IntKind.u8.wrap (u:Int))=(u:Int):=by decide
theorem numD_lt :∀(l:List UInt8) (acc:Nat),(∀c,c∈l->digB c=true)->numD acc l<(acc+1)*10^l.length
 | [],acc,_=>by show acc<(acc+1)*1;omega
 |c::l,acc,h=>by
  have hc:=h c zy
  unfold digB at hc
  rw[zj,zw,zw]at hc
  have e:numD acc (c::l)=numD (acc*10+(c.toNat-48)) l:=rfl
  have ih:=numD_lt l (acc*10+(c.toNat-48)) fun x hx=>h x (zl _ hx)
  rw[e,zi,Nat.pow_succ,zbx (10^l.length) 10,<-Nat.mul_assoc]
  exact zbi ih (zag _ (by omega))
theorem numS_spec (N:Nat) (s:List UInt8) (hN:s.length<N):s_l1Num_m N s=some (numS s):=by
 unfold s_l1Num_m
 refine Def.get ?_
 refine Def.iter (fun g=>∃i:Nat,g=(s,(numD 0 (s.take i):Int),(i:Int))/\i<=s.length/\i<=9/\∀c,c∈s.take i->digB c=true) (fun g=>s.length-g.2.2.toNat) (fun go g hI ih=>?_) N _ ⟨0,rfl,zaf _,zaf _,fun c hc=>by simp at hc⟩ (by dsimp only;omega)
 obtain⟨i,rfl,h1,h2,h3⟩:=hI
 dsimp only
 by_cases hi:i<s.length
 .rw [zb (by omega:(i:Int)<s.length),zg,idx_at hi,za]
  cases hd:digB s[i]with
  |false=>
   have hr:(-1:Int)=numS s:=by
    have ha:s.all digB=false:=by
     rw[List.all_eq_false]
     exact⟨s[i],zr hi,by rw[hd];decide⟩
    unfold numS
    rw[ha]
    rfl
   unfold digB at hd
   refine Def.dif (fun _=>Def.ret hr) (fun k1=>?_)
   rw[za]
   refine Def.dif (fun _=>Def.ret hr) (fun k2=>?_)
   rw[zb (by omega),zb (by omega)]at hd
   cases hd
  |true=>
   have hd':=hd
   unfold digB at hd
   rw[zj,zw,zw]at hd
   rw[zd (by omega:¬((s[i]).toNat:Int)<48),ze,za,zd (by omega:¬(57:Int)<((s[i]).toNat:Int)),ze]
   by_cases h9:i=9
   .rw [zb (by omega:(9:Int)<=(i:Int)),zg]
    refine Def.ret ?_
    unfold numS
    rw[zd (by omega:¬s.length<=9),zce,zcf]
    rfl
   .rw [zd (by omega:¬(9:Int)<=(i:Int)),ze]
    have hlt:=numD_lt (s.take i) 0 h3
    have hp:(10:Nat)^(s.take i).length<=10^9:=Nat.pow_le_pow_right (by decide) (by rw[zah];omega)
    have hp9:(10:Nat)^9=1000000000:=by decide
    have hw:IntKind.i64.wrap (IntKind.u8.wrap (((s[i]).toNat:Int)-48))=(((s[i]).toNat-48:Nat):Int):=by
     rw[show((s[i]).toNat:Int)-48=(((s[i]).toNat-48:Nat):Int)from by omega]
     exact wrap_dig _ (by omega)
    rw[zf (by unfold fits;omega),za,hw,zf (by unfold fits;omega),zf (fits_nat (by omega))]
    refine ih _ ⟨i+1,?_,hi,by omega,fun c hc=>?_⟩ ?_
    .rw [zo hi,numD_append,cast_succ']
     have:numD (numD 0 (s.take i)) [s[i]]=numD 0 (s.take i)*10+((s[i]).toNat-48):=rfl
     rw[this]
     simp only[Prod.mk.injEq,true_and,and_true]
     omega
    .rw [zo hi,zaB,zaD]at hc
     rcases hc with hc|rfl
     .exact h3 c hc
     .exact hd'
    .dsimp only
     omega
 .rw [zd (by omega:¬(i:Int)<s.length),ze]
  have e:i=s.length:=by omega
  rw[e,zq]at h3⊢
  have ha:s.all digB=true:=zax.2 h3
  have hl:s.length<=9:=by omega
  cases s with
  |nil=>
   refine Def.ret ?_
   rfl
  |cons x l=>
   have hne:(x::l:List UInt8)≠ []:=by simp
   rw[zd (by rw[zi];omega:¬(((x::l).length:Nat):Int)=0),ze]
   unfold numS
   rw[ha,zb hl,zb hne,zaj,zaj,zaj]
   by_cases h1:1<(x::l).length
   .rw [zb (by omega:(1:Int)<(((x::l).length:Nat):Int)),zg,zb h1,zaj]
    have e0:idx (x::l) 0=some x:=rfl
    rw[e0,za]
    by_cases hx:x=48
    .subst hx
     exact Def.ret rfl
    .rw [zd (fun e=>hx (UInt8.toNat_inj.1 (by have:(48:UInt8).toNat=48:=rfl;omega))),ze,zd (by simpa using hx)]
     exact Def.ret rfl
   .rw [zd (by omega:¬(1:Int)<(((x::l).length:Nat):Int)),ze,zd h1]
    exact Def.ret rfl
theorem put_items {α δ ρ:Type} (f:α->List UInt8) (l:List α) {N:Nat} (hN:l.length<N) (F:(δ->Option ρ)->δ->Option ρ) (st:List UInt8->Int->δ) (pre:List UInt8) (res:Option ρ) (hend:∀go,F go (st (pre++l.flatMap f) (l.length:Int))=res)
  (hstep:∀go (m:Nat) (hm:m<l.length),F go (st (pre++(l.take m).flatMap f) (m:Int))=go (st ((pre++(l.take m).flatMap f)++f l[m]) ((m:Int)+1))):iter F N (st pre 0)=res:=by
 have e:st pre 0=st (pre++(l.take 0).flatMap f) ((0:Nat):Int):=by simp
 rw[e]
 refine(iter_scan F l.length (fun m=>st (pre++(l.take m).flatMap f) (m:Int)) (fun _=>res) (fun go=>?_) (fun go m hm hgo=>?_) N 0 (zaf _) (by omega)).trans rfl
 .rw [zq]
  exact hend go
 .rw [hstep go m hm,<-hgo,zo hm,List.flatMap_append,zao,cast_succ']
  simp
theorem flat_take {α:Type} (f:α->List UInt8) (k B:Nat) (l:List α) (h:∀x,x∈l->(f x).length<=k) (hB:l.length*k<=B) (m:Nat):((l.take m).flatMap f).length<=B:=by
 have h1:=flat_le f k (l.take m) fun x hx=>h x (zaP hx)
 have h2:(l.take m).length*k<=l.length*k:=zag _ (by rw[zah];omega)
 omega
theorem itoa_len20 {n:Int} (h0: -9223372036854775808<=n) (h1:n<=9223372036854775807):(Lib.itoa n).length<=20:=by
 have hp:(10:Nat)^19=10000000000000000000:=by decide
 unfold Lib.itoa
 split
 .have:=digits_len 19 n.natAbs (by decide) (by omega)
  rw[zi]
  omega
 .have:=digits_len 19 n.toNat (by decide) (by omega)
  omega
def fieldE (f:EField):List UInt8:=fieldLn f++ [10]
def numE (a:EAttr):List UInt8:=numLn a++ [10]
def deadE (n:Int):List UInt8:=deadLn n++ [10]
theorem linesT_map {α:Type} (f:α->List UInt8) (l:List α):linesT (l.map f)=l.flatMap fun x=>f x++ [10]:=by
 unfold linesT
 rw[List.flatMap_map]
theorem docT_eq (d:EDoc):docT d=(docLn d++ [10]++d.2.1.flatMap fieldE)++d.2.2.flatMap numE:=by
 unfold docT docLines
 rw[linesT_cons,linesT_append,linesT_map,linesT_map]
 show _=(docLn d++ [10]++d.2.1.flatMap fun x=>fieldLn x++ [10])++d.2.2.flatMap fun x=>numLn x++ [10]
 simp
theorem liveT_eq (docs:List EDoc) (dead:List Int):liveT docs dead=docs.flatMap docT++dead.flatMap deadE:=by
 unfold liveT liveLines
 rw[linesT_append,linesT_map]
 have e:linesT (docs.flatMap docLines)=docs.flatMap docT:=by
  unfold linesT docT
  rw[List.flatMap_assoc]
  rfl
 rw[e]
 rfl
structure SizD (d:EDoc):Prop where
 id: -9223372036854775808<=d.1/\d.1<=9223372036854775807
 fl:d.2.1.length<=1048576
 al:d.2.2.length<=1048576
 f:∀f,f∈d.2.1->f.1.length<=1048576/\f.2.length<=1048576
 a:∀a,a∈d.2.2->a.1.length<=1048576/\ -9223372036854775808<=a.2/\a.2<=9223372036854775807
theorem SizD.of {d:EDoc} (h:okD Sm TDoc d):SizD d:=
 ⟨h.1,h.2.1.1,h.2.2.1,fun f hf=>h.2.1.2 f hf,fun a ha=>⟨(h.2.2.2 a ha).1,(h.2.2.2 a ha).2⟩⟩
theorem SizD.fe {d:EDoc} (h:SizD d):∀f,f∈d.2.1->(fieldE f).length<=2097160:=fun f hf=>by
 have:=h.f f hf
 unfold fieldE fieldLn
 simp only[zam,zi,zac]
 omega
theorem SizD.ne {d:EDoc} (h:SizD d):∀a,a∈d.2.2->(numE a).length<=2097160:=fun a ha=>by
 have h1:=h.a a ha
 have h2:=itoa_len20 h1.2.1 h1.2.2
 unfold numE numLn
 simp only[zam,zi,zac]
 omega
theorem SizD.fall {d:EDoc} (h:SizD d) (m:Nat):((d.2.1.take m).flatMap fieldE).length<=2199031644160:=flat_take fieldE 2097160 _ _ h.fe (by have:=zag 2097160 h.fl;omega) m
theorem SizD.nall {d:EDoc} (h:SizD d) (m:Nat):((d.2.2.take m).flatMap numE).length<=2199031644160:=flat_take numE 2097160 _ _ h.ne (by have:=zag 2097160 h.al;omega) m
theorem SizD.head {d:EDoc} (h:SizD d):(docLn d++ [10]).length<=25:=by
 have h2:=itoa_len20 h.id.1 h.id.2
 unfold docLn
 simp only[zam,zi,zac]
 omega
theorem SizD.len {d:EDoc} (h:SizD d):(docT d).length<=4398063288400:=by
 have h1:=h.head
 have h2:=h.fall d.2.1.length
 have h3:=h.nall d.2.2.length
 rw[zq]at h2 h3
 rw[docT_eq,zam,zam]
 omega
theorem put_s (N:Nat) (hN:1048576<N) (hN2:N<=16777216) (d:EDoc) (h:SizD d):s_l6Put_m N d.1 d.2.1 d.2.2=some (docT d):=by
 have hd:=dec_spec N N (by omega) (by omega) d.1 h.id.1 h.id.2
 have hh:=h.head
 have hfl:=h.fl
 have hal:=h.al
 have hl0:=itoa_len20 h.id.1 h.id.2
 have hff:=h.fall d.2.1.length
 rw[zq]at hff
 unfold s_l6Put_m
 rw[hd,za]
 unfold itoaL
 rw[zf (by simp only[zam,zi,zac];omega),zf (by simp only[zam,zi,zac];omega)]
 have e0:([100,111,99,32]++Lib.itoa d.1++ [10]:List UInt8)=docLn d++ [10]:=rfl
 rw[e0]
 refine put_items fieldE d.2.1 (by omega) _ (fun out i=>(out,i,d.1,d.2.1,d.2.2)) (docLn d++ [10]) _ (fun go=>?_) (fun go m hm=>?_)
 .dsimp only
  rw[zd (zcd _),ze]
  refine put_items numE d.2.2 (by omega) _ (fun out i=>(out,i,d.1,d.2.1,d.2.2)) (docLn d++ [10]++d.2.1.flatMap fieldE) _ (fun go=>?_) (fun go m hm=>?_)
  .dsimp only
   rw[zd (zcd _),ze,docT_eq]
  .have hx:=h.a _ (zr hm)
   have hna:=h.nall m
   have hlx:=itoa_len20 hx.2.1 hx.2.2
   have hdx:=dec_spec N N (by omega) (by omega) _ hx.2.1 hx.2.2
   unfold itoaL at hdx
   have hpre:(docLn d++ [10]++d.2.1.flatMap fieldE++(d.2.2.take m).flatMap numE).length<=5000000000000:=by
    rw[zam,zam]
    omega
   have e1:docLn d++ [10]++d.2.1.flatMap fieldE++(d.2.2.take m).flatMap numE++numE d.2.2[m]=docLn d++ [10]++d.2.1.flatMap fieldE++(d.2.2.take m).flatMap numE++ [110,117,109,32]++d.2.2[m].1++ [32]++Lib.itoa d.2.2[m].2++ [10]:=by
    unfold numE numLn
    simp only[zao]
   rw[e1]
   generalize docLn d++ [10]++d.2.1.flatMap fieldE++(d.2.2.take m).flatMap numE=out at hpre⊢
   dsimp only
   rw[zb (by omega:(m:Int)<d.2.2.length),zg,idx_at hm,za,za,hdx,za]
   rw[zf (by simp only[zam,zi,zac];omega),zf (by simp only[zam,zi,zac];omega),zf (by simp only[zam,zi,zac];omega),zf (by simp only[zam,zi,zac];omega),zf (by simp only[zam,zi,zac];omega),zf (fits_nat (n:=m) (by omega))]
 .have hx:=h.f _ (zr hm)
  have hna:=h.fall m
  have hpre:(docLn d++ [10]++(d.2.1.take m).flatMap fieldE).length<=5000000000000:=by
   rw[zam]
   omega
  have e1:docLn d++ [10]++(d.2.1.take m).flatMap fieldE++fieldE d.2.1[m]=docLn d++ [10]++(d.2.1.take m).flatMap fieldE++ [102,105,101,108,100,32]++d.2.1[m].1++ [32]++d.2.1[m].2++ [10]:=by
   unfold fieldE fieldLn
   simp only[zao]
  rw[e1]
  generalize docLn d++ [10]++(d.2.1.take m).flatMap fieldE=out at hpre⊢
  dsimp only
  rw[zb (by omega:(m:Int)<d.2.1.length),zg,idx_at hm,za,za]
  rw[zf (by simp only[zam,zi,zac];omega),zf (by simp only[zam,zi,zac];omega),zf (by simp only[zam,zi,zac];omega),zf (by simp only[zam,zi,zac];omega),zf (by simp only[zam,zi,zac];omega),zf (fits_nat (n:=m) (by omega))]
theorem put_i (N:Nat) (hN:1048576<N) (hN2:N<=16777216) (d:EDoc) (h:SizD d) (hk:i_DocOk_m N d.1 d.2.1 d.2.2=some true):i_DocPut_m N d.1 d.2.1 d.2.2=some (docT d):=by
 have hd:=itoa_spec N d.1 h.id.1 h.id.2
 have hh:=h.head
 have hfl:=h.fl
 have hal:=h.al
 have hl0:=itoa_len20 h.id.1 h.id.2
 have hff:=h.fall d.2.1.length
 rw[zq]at hff
 unfold i_DocPut_m
 rw[hk,za,zn,ze,hd,za]
 unfold itoaL
 rw[zf (by simp only[zam,zi,zac];omega),zf (by simp only[zam,zi,zac];omega)]
 have e0:([100,111,99,32]++Lib.itoa d.1++ [10]:List UInt8)=docLn d++ [10]:=rfl
 rw[e0]
 refine put_items fieldE d.2.1 (by omega) _ (fun out i=>(out,d.2.1,(d.2.1.length:Int),i,d.1,d.2.1,d.2.2)) (docLn d++ [10]) _ (fun go=>?_) (fun go m hm=>?_)
 .dsimp only
  rw[zd (zcd _),ze]
  refine put_items numE d.2.2 (by omega) _ (fun out i=>(out,d.2.2,(d.2.2.length:Int),i)) (docLn d++ [10]++d.2.1.flatMap fieldE) _ (fun go=>?_) (fun go m hm=>?_)
  .dsimp only
   rw[zd (zcd _),ze,docT_eq]
  .have hx:=h.a _ (zr hm)
   have hna:=h.nall m
   have hlx:=itoa_len20 hx.2.1 hx.2.2
   have hdx:=itoa_spec N _ hx.2.1 hx.2.2
   unfold itoaL at hdx
   have hpre:(docLn d++ [10]++d.2.1.flatMap fieldE++(d.2.2.take m).flatMap numE).length<=5000000000000:=by
    rw[zam,zam]
    omega
   have e1:numE d.2.2[m]=[110,117,109,32]++d.2.2[m].1++ [32]++Lib.itoa d.2.2[m].2++ [10]:=rfl
   rw[e1]
   generalize docLn d++ [10]++d.2.1.flatMap fieldE++(d.2.2.take m).flatMap numE=out at hpre⊢
   dsimp only
   rw[zb (by omega:(m:Int)<d.2.2.length),zg,idx_at hm,za]
   rw[zf (by simp only[zam,zi,zac];omega),zf (by simp only[zam,zi,zac];omega),hdx,za,zf (by simp only[zam,zi,zac];omega),zf (by simp only[zam,zi,zac];omega),zf (by simp only[zam,zi,zac];omega),zf (fits_nat (n:=m) (by omega))]
 .have hx:=h.f _ (zr hm)
  have hna:=h.fall m
  have hpre:(docLn d++ [10]++(d.2.1.take m).flatMap fieldE).length<=5000000000000:=by
   rw[zam]
   omega
  have e1:fieldE d.2.1[m]=[102,105,101,108,100,32]++d.2.1[m].1++ [32]++d.2.1[m].2++ [10]:=rfl
  rw[e1]
  generalize docLn d++ [10]++(d.2.1.take m).flatMap fieldE=out at hpre⊢
  dsimp only
  rw[zb (by omega:(m:Int)<d.2.1.length),zg,idx_at hm,za]
  rw[zf (by simp only[zam,zi,zac];omega),zf (by simp only[zam,zi,zac];omega),zf (by simp only[zam,zi,zac];omega),zf (by simp only[zam,zi,zac];omega),zf (by simp only[zam,zi,zac];omega),zf (fits_nat (n:=m) (by omega))]
theorem dead_len {n:Int} (h0: -9223372036854775808<=n) (h1:n<=9223372036854775807):(deadE n).length<=26:=by
 have:=itoa_len20 h0 h1
 unfold deadE deadLn
 simp only[zam,zi,zac]
 omega
structure SizL (docs:List EDoc) (dead:List Int):Prop where
 d:∀d,d∈docs->SizD d
 few:docs.length<=100000
 n:∀n,n∈dead-> -9223372036854775808<=n/\n<=9223372036854775807
 small:dead.length<=1048576
theorem SizL.dall {docs:List EDoc} {dead:List Int} (h:SizL docs dead) (m:Nat):((docs.take m).flatMap docT).length<=439806328840000000:=flat_take docT 4398063288400 _ _ (fun d hd=>(h.d d hd).len) (by have:=zag 4398063288400 h.few;omega) m
theorem SizL.nall {docs:List EDoc} {dead:List Int} (h:SizL docs dead) (m:Nat):((dead.take m).flatMap deadE).length<=100000000:=flat_take deadE 26 _ _ (fun n hn=>dead_len (h.n n hn).1 (h.n n hn).2) (by have:=zag 26 h.small;omega) m
theorem seg_s (N:Nat) (hN:1048576<N) (hN2:N<=16777216) (l:ELive) (h:SizL l.1.1 l.2):s_l19Seg_m N l.1.1 l.1.2 l.2=some (liveT l.1.1 l.2):=by
 have hfew:=h.few
 have hsm:=h.small
 unfold s_l19Seg_m
 refine put_items docT l.1.1 (by omega) _ (fun out i=>(out,i,l.1.1,l.1.2,l.2)) [] _ (fun go=>?_) (fun go m hm=>?_)
 .dsimp only
  rw[zd (zcd _),ze]
  refine put_items deadE l.2 (by omega) _ (fun out i=>(out,i,l.1.1,l.1.2,l.2)) ([]++l.1.1.flatMap docT) _ (fun go=>?_) (fun go m hm=>?_)
  .dsimp only
   rw[zd (zcd _),ze,liveT_eq,zaW]
  .have hx:=h.n _ (zr hm)
   have hda:=h.dall l.1.1.length
   rw[zq]at hda
   have hna:=h.nall m
   have hlx:=itoa_len20 hx.1 hx.2
   have hdx:=dec_spec N N (by omega) (by omega) _ hx.1 hx.2
   unfold itoaL at hdx
   have hpre:([]++l.1.1.flatMap docT++(l.2.take m).flatMap deadE).length<=500000000000000000:=by
    rw[zam,zaW]
    omega
   have e1:[]++l.1.1.flatMap docT++(l.2.take m).flatMap deadE++deadE l.2[m]=[]++l.1.1.flatMap docT++(l.2.take m).flatMap deadE++ [100,101,97,100,32]++Lib.itoa l.2[m]++ [10]:=by
    unfold deadE deadLn
    simp only[zao]
   rw[e1]
   generalize []++l.1.1.flatMap docT++(l.2.take m).flatMap deadE=out at hpre⊢
   dsimp only
   rw[zb (by omega:(m:Int)<l.2.length),zg,zf (by simp only[zam,zi,zac];omega),idx_at hm,za,hdx,za,zf (by simp only[zam,zi,zac];omega),zf (by simp only[zam,zi,zac];omega),zf (fits_nat (n:=m) (by omega))]
 .have hx:=h.d _ (zr hm)
  have hda:=h.dall m
  have hl:=hx.len
  have hpre:([]++(l.1.1.take m).flatMap docT).length<=500000000000000000:=by
   rw[zaW]
   omega
  generalize []++(l.1.1.take m).flatMap docT=out at hpre⊢
  dsimp only
  rw[zb (by omega:(m:Int)<l.1.1.length),zg,idx_at hm,za,put_s N hN hN2 _ hx,za,zf (by omega),zf (fits_nat (n:=m) (by omega))]
theorem FitI.siz {N:Nat} {c:EConf} {l:ELive} (h:FitI N (c,[l])) (hk:okIdx (c,[l])=true):SizL l.1.1 l.2:=by
 have o:=oneL hk
 have hf:=o.few
 have hd:=o.dead
 have hn:=o.nums
 exact⟨fun d hd=>.of ((h.each l zy).1 d hd),by omega,fun n hm=>by have:=hn n hm;omega,by omega⟩
theorem livePut_i {N:Nat} {c:EConf} {l:ELive} (h:FitI N (c,[l])):i_LivePut_m N c.1 c.2 l.1.1 l.1.2 l.2=some (putLive c l):=by
 have hN:1048576<N:=h.big
 have hN2:=h.top
 have hi:=indexOk_spec h
 unfold i_LivePut_m
 have e:i_IndexOk_m N c.1 c.2 [((l.1.1,l.1.2),l.2)]=some (okIdx (c,[l])):=hi
 rw[e,za]
 unfold putLive
 cases hk:okIdx (c,[l])with
 |false=>rfl
 |true=>
  have z:=h.siz hk
  have o:=oneL hk
  have hfew:=z.few
  have hsm:=z.small
  rw[zn,ze,zg]
  refine put_items docT l.1.1 (by omega) _ (fun out i=>(out,l.1.1,(l.1.1.length:Int),i,l.1.1,l.1.2,l.2)) [] _ (fun go=>?_) (fun go m hm=>?_)
  .dsimp only
   rw[zd (zcd _),ze]
   refine put_items deadE l.2 (by omega) _ (fun out i=>(out,l.2,(l.2.length:Int),i)) ([]++l.1.1.flatMap docT) _ (fun go=>?_) (fun go m hm=>?_)
   .dsimp only
    rw[zd (zcd _),ze,liveT_eq,zaW]
   .have hx:=z.n _ (zr hm)
    have hda:=z.dall l.1.1.length
    rw[zq]at hda
    have hna:=z.nall m
    have hlx:=itoa_len20 hx.1 hx.2
    have hdx:=itoa_spec N _ hx.1 hx.2
    unfold itoaL at hdx
    have hpre:([]++l.1.1.flatMap docT++(l.2.take m).flatMap deadE).length<=500000000000000000:=by
     rw[zam,zaW]
     omega
    have e1:deadE l.2[m]=[100,101,97,100,32]++Lib.itoa l.2[m]++ [10]:=rfl
    rw[e1]
    generalize []++l.1.1.flatMap docT++(l.2.take m).flatMap deadE=out at hpre⊢
    dsimp only
    rw[zb (by omega:(m:Int)<l.2.length),zg,idx_at hm,za,hdx,za,zf (by simp only[zam,zi,zac];omega),zf (by simp only[zam,zi,zac];omega),zf (by simp only[zam,zi,zac];omega),zf (fits_nat (n:=m) (by omega))]
  .have hx:=z.d _ (zr hm)
   have hok:okDoc l.1.1[m]=true:=okDoc_each o.docs _ (zr hm)
   have hod:=(h.each l zy).1 _ (zr hm)
   have hdk:i_DocOk_m N l.1.1[m].1 l.1.1[m].2.1 l.1.1[m].2.2=some true:=by
    have:=docOk_spec N h.big (by omega) l.1.1[m].1 l.1.1[m].2.1 l.1.1[m].2.2 hod
    rw[this]
    exact congrArg some hok
   have hda:=z.dall m
   have hl:=hx.len
   have hpre:([]++(l.1.1.take m).flatMap docT).length<=500000000000000000:=by
    rw[zaW]
    omega
   generalize []++(l.1.1.take m).flatMap docT=out at hpre⊢
   dsimp only
   rw[zb (by omega:(m:Int)<l.1.1.length),zg,idx_at hm,za,put_i N hN hN2 _ hx hdk,za,zf (by omega),zf (fits_nat (n:=m) (by omega))]
theorem cut1_len (b:UInt8) (s:List UInt8):(cut1 b s).1.length<=s.length/\(cut1 b s).2.1.length<=s.length:=by
 rcases first_cut b s with h|⟨p,r,h,rfl⟩
 .rw [cut1_none h]
  exact⟨zae _,zaf _⟩
 .rw [cut1_hit h]
  simp only[zam,zi]
  omega
theorem cutM_one {s:List UInt8} (h:s.length<=1048576):cutM s [32]=some (cut1 32 s):=by
 unfold cutM
 rw[zf (by omega)]
 rfl
theorem atoiM_one {s:List UInt8} (h:s.length<=1048576):atoiM s=some (atoiN s):=by
 unfold atoiM
 rw[zf (by omega)]
theorem atoiN_in (s:List UInt8): -9223372036854775808<=atoiN s/\atoiN s<=9223372036854775807:=by
 unfold atoiN
 cases h:Lib.atoiAll s with
 |range=>
  dsimp only
  unfold Lib.atoiSat
  split<;>omega
 |ok v=>
  dsimp only
  cases s with
  |nil=>cases h
  |cons c r=>
   unfold Lib.atoiAll at h
   dsimp only at h
   split at h
   .cases h
   .cases h
   .split at h
    .cases h
    .split at h
     .cases h
     .simp only [Lib.NumEnd.ok.injEq]at h
      subst h
      split<;>omega
 |_=>dsimp only;omega
theorem hasPre_spec (N:Nat) (s p:List UInt8):k_strings_HasPrefix_m N s p=some (p.isPrefixOf s):=by
 have e:k_internal_stringslite_HasPrefix_m N s p=some (p.isPrefixOf s):=by
  unfold k_internal_stringslite_HasPrefix_m
  by_cases h:p.length<=s.length
  .rw [zb (by omega:(p.length:Int)<=(s.length:Int)),zg,cut_take' s p.length h,za]
   congr 1
   rw[zbH,zw,zcb,List.prefix_iff_eq_take]
   exact eq_comm
  .rw [zd (by omega:¬(p.length:Int)<=(s.length:Int)),ze]
   congr 1
   rw[zbH]
   constructor
   .intro h;cases h
   .intro hp
    rw[zcb]at hp
    exact absurd hp.length_le h
 unfold k_strings_HasPrefix_m
 rw[e,za]
theorem cutPre_spec (N:Nat) (s p:List UInt8):k_strings_CutPrefix_m N s p=some (bif p.isPrefixOf s then(s.drop p.length,true)else(s,false)):=by
 have e:=hasPre_spec N s p
 unfold k_strings_HasPrefix_m at e
 have e2:k_internal_stringslite_HasPrefix_m N s p=some (p.isPrefixOf s):=by
  cases h:k_internal_stringslite_HasPrefix_m N s p with
  |none=>rw[h]at e;cases e
  |some r=>rw[h]at e;exact e
 unfold k_strings_CutPrefix_m k_internal_stringslite_CutPrefix_m
 rw[e2,za]
 cases hp:p.isPrefixOf s with
 |false=>rfl
 |true=>
  have hl:p.length<=s.length:=by
   rw[zcb]at hp
   exact hp.length_le
  rw[zn,ze,cut_drop' s p.length hl]
  rfl
def sumL :List (List UInt8)->Nat
 | []=>0
 |l::ls=>l.length+1+sumL ls
theorem sumL_append :∀a b:List (List UInt8),sumL (a++b)=sumL a+sumL b
 | [],b=>by simp[sumL]
 |l::a,b=>by
  rw[zbk,sumL,sumL,sumL_append a b]
  omega
theorem sumL_len :∀a:List (List UInt8),a.length<=sumL a
 | []=>zae _
 |l::a=>by
  have:=sumL_len a
  rw[zi,sumL]
  omega
theorem sumL_mem :∀ {a:List (List UInt8)} {l:List UInt8},l∈a->l.length+1<=sumL a
 |x::a,l,h=>by
  rw[sumL]
  rcases zp.1 h with rfl|h
  .omega
  .have:=sumL_mem h
   omega
theorem sumL_cut (b:UInt8):∀s:List UInt8,sumL (cutAt b s)=s.length+1
 | []=>rfl
 |x::s=>by
  have ih:=sumL_cut b s
  unfold cutAt
  split
  .rw [sumL,ih,zac,zi]
   omega
  .cases h:cutAt b s with
   |nil=>exact absurd h (cutAt_ne b s)
   |cons p ps=>
    rw[h,sumL]at ih
    dsimp only
    rw[sumL,zi,zi]
    omega
theorem sumL_take (ls:List (List UInt8)) (n:Nat):sumL (ls.take n)<=sumL ls:=by
 have h:=sumL_append (ls.take n) (ls.drop n)
 rw[zaR]at h
 omega
structure RdD (d:EDoc) (n:Nat):Prop where
 id: -9223372036854775808<=d.1/\d.1<=9223372036854775807
 fl:4*d.2.1.length<=n
 al:4*d.2.2.length<=n
 f:∀f,f∈d.2.1->f.1.length<=1048576/\f.2.length<=1048576
 a:∀a,a∈d.2.2->a.1.length<=1048576/\ -9223372036854775808<=a.2/\a.2<=9223372036854775807
theorem RdD.zero :RdD (0,[],[]) 0:=⟨by decide,zae _,zae _,(fun f h=>by cases h),(fun f h=>by cases h)⟩
theorem RdD.line {d:EDoc} {n:Nat} (h:RdD d n) {l:List UInt8} (hl:l.length<=1048576):RdD (readLn d l) (n+(l.length+1)):=by
 obtain⟨k1,k2⟩:=cut1_len 32 l
 obtain⟨m1,m2⟩:=cut1_len 32 (cut1 32 l).2.1
 have h1:=h.fl
 have h2:=h.al
 unfold readLn
 dsimp only
 by_cases e1:(cut1 32 l).1=[100,111,99]
 .rw [zb e1,zg]
  exact⟨atoiN_in _,by dsimp only;omega,by dsimp only;omega,h.f,h.a⟩
 rw[zd e1,ze]
 by_cases e2:(cut1 32 l).1=[102,105,101,108,100]
 .rw [zb e2,zg]
  rw[e2]at k1
  simp only[zi,zac]at k1
  refine⟨h.id,by dsimp only;rw[zam,zbE];omega,by dsimp only;omega,fun f hf=>?_,h.a⟩
  rcases zaB.1 hf with hf|hf
  .exact h.f f hf
  .rw [zaD]at hf
   subst hf
   dsimp only
   omega
 rw[zd e2,ze]
 by_cases e3:(cut1 32 l).1=[110,117,109]
 .rw [zb e3,zg]
  rw[e3]at k1
  simp only[zi,zac]at k1
  refine⟨h.id,by dsimp only;omega,by dsimp only;rw[zam,zbE];omega,h.f,fun a ha=>?_⟩
  rcases zaB.1 ha with ha|ha
  .exact h.a a ha
  .rw [zaD]at ha
   subst ha
   have:=atoiN_in (cut1 32 (cut1 32 l).2.1).2.1
   dsimp only
   omega
 rw[zd e3,ze]
 exact⟨h.id,by omega,by omega,h.f,h.a⟩
theorem RdD.fold :∀(ls:List (List UInt8)) {d:EDoc} {n:Nat},RdD d n->(∀l,l∈ls->l.length<=1048576)->RdD (ls.foldl readLn d) (n+sumL ls)
 | [],d,n,h,_=>h
 |l::ls,d,n,h,hl=>by
  rw[zaq,sumL,<-zbv]
  exact RdD.fold ls (h.line (hl l zy)) fun x hx=>hl x (zl _ hx)
theorem RdD.okD {d:EDoc} {n:Nat} (h:RdD d n) (hn:n<=4194304):okD Sm TDoc d:=by
 have h1:=h.fl
 have h2:=h.al
 exact⟨h.id,⟨by show d.2.1.length<=1048576;omega,fun f hf=>h.f f hf⟩,⟨by show d.2.2.length<=1048576;omega,fun a ha=>⟨(h.a a ha).1,(h.a a ha).2⟩⟩⟩
theorem readD_ok {ls:List (List UInt8)} (hl:∀l,l∈ls->l.length<=1048576) (hs:sumL ls<=4194304):okD Sm TDoc (readD ls):=
 (RdD.fold ls .zero hl).okD (by omega)
theorem while_sum (p:List UInt8->Bool) (ls:List (List UInt8)):sumL (ls.takeWhile p)+sumL (ls.dropWhile p)=sumL ls:=by rw[<-sumL_append,List.takeWhile_append_dropWhile]
theorem readL_ok :∀(k:Nat) (ls:List (List UInt8)),ls.length<=k->(∀l,l∈ls->l.length<=1048576)->sumL ls<=4194304->2*(readL ls).1.length<=sumL ls/\2*(readL ls).2.length<=sumL ls/\(∀d,d∈(readL ls).1->okD Sm TDoc d)/\∀n,n∈(readL ls).2-> -9223372036854775808<=n/\n<=9223372036854775807
 |_,[],_,_,_=>by
  rw[readL]
  exact⟨zae _,zae _,(fun d h=>by cases h),(fun d h=>by cases h)⟩
 |0,l::ls,h,_,_=>absurd h (by simp)
 |k+1,l::ls,hk,hl,hs=>by
  rw[zi]at hk
  rw[sumL]at hs
  have hll:=hl l zy
  rw[readL,sumL]
  cases hp:deadP.isPrefixOf l with
  |true=>
   obtain⟨h1,h2,h3,h4⟩:=readL_ok k ls (by omega) (fun x hx=>hl x (zl _ hx)) (by omega)
   rw[zg]
   have h5:5<=l.length:=by
    rw[zcb]at hp
    exact hp.length_le
   refine⟨by dsimp only;omega,by dsimp only;rw[zi];omega,h3,fun n hn=>?_⟩
   rcases zp.1 hn with rfl|hn
   .exact atoiN_in _
   .exact h4 n hn
  |false=>
   have hw:=while_sum midB ls
   have hdl:(ls.dropWhile midB).length<=ls.length:=(List.dropWhile_sublist _).length_le
   obtain⟨h1,h2,h3,h4⟩:=readL_ok k (ls.dropWhile midB) (by omega) (fun x hx=>hl x (zl _ ((List.dropWhile_sublist _).subset hx))) (by omega)
   rw[ze]
   cases l with
   |nil=>
    rw[zb rfl,zn,ze]
    exact⟨by dsimp only;omega,by dsimp only;omega,h3,h4⟩
   |cons x l=>
    rw[zd (by simp),zaI,zg]
    refine⟨by dsimp only;rw[zi,zi];omega,by dsimp only;omega,fun d hd=>?_,h4⟩
    rcases zp.1 hd with rfl|hd
    .refine readD_ok (fun y hy=>?_) (by rw[sumL];omega)
     rcases zp.1 hy with rfl|hy
     .exact hll
     .exact hl y (zl _ ((List.takeWhile_sublist _).subset hy))
    .exact h3 d hd
end Go.Proofs.YtcinmmojlcchfaaGreatDoor
