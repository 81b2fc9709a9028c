import Derived.Test.YtbjikaianmpngaaDoorSA
import Derived.Test.YtbjikaianmpngaaDoorKX
import Derived.Test.YtbjikaianmpngaaDoorQO
set_option linter.unusedVariables false
set_option linter.unusedSimpArgs false
namespace Go.Proofs.YtbjikaianmpngaaDoor
open Go.RowKit
def gB (n:Int):Bool:=wB n||(decide (n=42)||decide (n=63))
def okG (s:List UInt8):Bool:=allN s.length (fun n=>gB (atB s n))&&(decide ((1:Int)<=s.length)&&decide ((s.length:Int)<=12))
theorem jzB (N:Nat) (s:List UInt8) (h:s.length<N) (hN:N<=1099511627776):jxV N s=some (okG s):=by
 unfold jxV
 refine jG _ s.length (fun n=>(s,(s.length:Int),(n:Int))) (fun n=>gB (atB s n)) _ (fun go=>?_) (fun go n hn=>?_) N h
 .dsimp only
  rw[zd (zm _),ze,jJR,za]
 .dsimp only
  rw[zb (by omega:(n:Int)<s.length),zg,idx_at hn]
  simp only[za,jeg,jbL hn]
  have hf:fits ((n:Int)+1):=fits_nat (by omega)
  simp only[zf hf,cast_succ']
  unfold gB
  cases wB (atB s n)<;>cases decide (atB s n=42)<;>cases decide (atB s n=63)<;>rfl
theorem jCl (N:Nat) (s:List UInt8) (n:Nat) (hn:n<s.length) (h:2<N) (hN:N<=1099511627776):jT N ((s.take (n+1)).drop n)=some (wB (atB s n)):=by
 have hl:((s.take (n+1)).drop n).length=1:=by rw[zaQ,zah];omega
 rw[ja7 N _ (by omega) hN]
 congr 1
 unfold okW
 rw[hl]
 have:atB ((s.take (n+1)).drop n) 0=atB s n:=by
  unfold atB
  rw[zaL,zaH,zf (by omega),Nat.add_zero]
 show((List.range' 0 1).all _&&_)=_
 rw[show List.range' 0 1=[0]from rfl,List.all_cons,List.all_nil,this]
 cases wB (atB s n)<;>rfl
theorem jAS (N:Nat) (s:List UInt8) (h:s.length<N) (h2:2<N) (hN:N<=1099511627776):jyk N s=some (okG s):=by
 unfold jyk
 refine jG _ s.length (fun n=>(s,(n:Int))) (fun n=>gB (atB s n)) _ (fun go=>?_) (fun go n hn=>?_) N h
 .dsimp only
  rw[zd (zm _),ze,jJO,za]
 .dsimp only
  have hc:cut s (n:Int) ((n:Int)+1)=some ((s.take (n+1)).drop n):=by
   unfold cut
   rw[zf ⟨by omega,by omega,by omega⟩,show((n:Int)+1).toNat=n+1 from by omega,zai]
  rw[zb (by omega:(n:Int)<s.length),zg,idx_at hn]
  simp only[za,jbL hn]
  have hf:fits ((n:Int)+1):=fits_nat (by omega)
  simp only[zf hf,hc,za]
  have hw:=jCl N s n hn h2 hN
  generalize jT N ((s.take (n+1)).drop n)=w at*
  subst hw
  rw[za,cast_succ']
  unfold gB
  generalize wB (atB s n)=p
  cases p<;>cases decide (atB s n=42)<;>cases decide (atB s n=63)<;>rfl
def nilB {Y:Type} (l:List Y):Bool:=decide ((l.length:Int)=0)
def oneQ (k:Int) (f:List UInt8) (ws:List (List UInt8)) (a b:Int) (kids:List DQ):Bool:=
 bif decide (k=1)then decide (f=[])&&(nilB ws&&((decide (a=0)&&decide (b=0))&&nilB kids))
 else bif decide (k=2)then(decide (a=0)&&decide (b=0)&&nilB kids)&&(okW f&&(ws.all okW&&decide ((ws.length:Int)=1)))
 else bif decide (k=3)then nilB kids&&(okW f&&(ws.all okW&&(decide ((2:Int)<=ws.length)&&decide ((ws.length:Int)<=4))&&(decide (b=0)&&(decide (0<=a)&&decide (a<=5)))))
 else bif decide (k=4)then nilB kids&&(okW f&&(ws.all okW&&decide ((ws.length:Int)=1)&&(decide (b=0)&&(decide (1<=a)&&decide (a<=2)))))
 else bif decide (k=5)then(decide (a=0)&&decide (b=0)&&nilB kids)&&(okW f&&(ws.all (fun w=>okG w&& !okW w)&&decide ((ws.length:Int)=1)))
 else bif decide (k=6)then nilB ws&&nilB kids&&(okW f&&((decide (0<=a)&&decide (a<=999999999))&&(decide (a<=b)&&decide (b<=999999999))))
 else bif decide (k=7)||decide (k=8)then decide (f=[])&&(nilB ws&&((decide (a=0)&&decide (b=0))&&(decide ((2:Int)<=kids.length)&&decide ((kids.length:Int)<=4))))
 else bif decide (k=9)then decide (f=[])&&(nilB ws&&((decide (a=0)&&decide (b=0))&&decide ((kids.length:Int)=2)))
 else bif decide (k=10)then decide (f=[])&&(nilB ws&&(decide ((kids.length:Int)=1)&&(decide (b=0)&&(decide (2<=a)&&decide (a<=9)))))
 else false
def okQ :Nat->DQ->Bool
 |0,_=>false
 |n+1,.mk k f ws a b kids=>oneQ k f ws a b kids&&kids.all (okQ n)
theorem jxI (N:Nat) (k:Int) (f:List UInt8) (ws:List (List UInt8)) (a b:Int) (kids:List DQ) (p q r s:Bool):jxz N k f ws a b kids p q r s=some ((p||decide (f=[]))&&((q||nilB ws)&&((r||(decide (a=0)&&decide (b=0)))&&(s||nilB kids)))):=by
 unfold jxz nilB
 cases p<;>cases q<;>cases r<;>cases s<;>cases decide (f=[])<;>cases decide ((ws.length:Int)=0)<;>cases decide (a=0)<;>cases decide (b=0)<;>cases decide ((kids.length:Int)=0)<;>rfl
theorem jCC (N:Nat) (hM:Sm<N) (hN:N<=1099511627776) (ws:List (List UInt8)) (most:Int) (h:ws.length<=1048576) (hw:∀w,w∈ws->w.length<=1048576):jxL N ws most=some (ws.all okW&&(decide ((1:Int)<=ws.length)&&decide ((ws.length:Int)<=most))):=by
 have hM':1048576<N:=hM
 unfold jxL
 refine(jcE _ ws (fun n=>(ws,most,(n:Int))) okW (some false) (some (decide ((1:Int)<=ws.length)&&decide ((ws.length:Int)<=most))) (fun go=>?_) (fun go n hn=>?_) N (by omega)).trans (by cases ws.all okW<;>rfl)
 .dsimp only
  rw[zd (zm _),ze,jJO,za]
 .dsimp only
  have:=hw _ (zr hn)
  rw[zb (by omega:(n:Int)<ws.length),zg,idx_at hn,za,ja7 N _ (by omega) hN,za,zf (fits_nat (n:=n) (by omega)),cast_succ']
  cases okW ws[n]<;>rfl
theorem jxN {c:Bool} {x y:Option Bool} {p q:Bool} (h1:c=true->x=some p) (h2:c=false->y=some q):(bif c then x else y)=some (bif c then p else q):=by
 cases c
 .exact h2 rfl
 .exact h1 rfl
theorem jAV {Y:Type} {xs:List Y} (h:decide ((xs.length:Int)=1)=true):∃x,xs=[x]:=by
 have:=of_decide_eq_true h
 match xs,this with
 | [x],_=>exact⟨x,rfl⟩
theorem jBm (N:Nat) (hM:Sm<N) (hN:N<=1099511627776) (k:Int) (f:List UInt8) (ws:List (List UInt8)) (a b:Int) (kids:List DQ) (hf:f.length<=1048576) (h:ws.length<=1048576) (hw:∀w,w∈ws->w.length<=1048576):jyq N k f ws a b kids=some (oneQ k f ws a b kids):=by
 have hM':1048576<N:=hM
 have hfw:=ja7 N f (by omega) hN
 have hW:=jCC N hM hN ws
 unfold jyq oneQ
 refine jxN (fun _=>?_) (fun _=>jxN (fun _=>?_) (fun _=>jxN (fun _=>?_) (fun _=>jxN (fun _=>?_) (fun _=>jxN (fun _=>?_) (fun _=>jxN (fun _=>?_) (fun _=>?_))))))
 .rw [jxI,za]
  rfl
 .rw [jxI,za]
  simp only[hfw,hW _ h hw,za,zbV,zbf,zaj]
  generalize(decide (a=0)&&decide (b=0))=p
  generalize nilB kids=q
  generalize okW f=r
  rw[show(decide ((1:Int)<=ws.length)&&decide ((ws.length:Int)<=1))=decide ((ws.length:Int)=1)from by rw[Bool.eq_iff_iff];simp only[zj,zw];omega]
  cases p<;>cases q<;>cases r<;>rfl
 .rw [jxI,za]
  simp only[hfw,hW _ h hw,jJO,za,zbV,zbf,zaj]
  generalize nilB kids=q
  generalize okW f=r
  generalize ws.all okW=t
  rw[show decide ((2:Int)<=ws.length)=(decide ((1:Int)<ws.length))from by congr 1]
  by_cases h1:(1:Int)<ws.length
  .rw [zb h1,zb (by omega:(1:Int)<=ws.length)]
   cases q<;>cases r<;>cases t<;>cases decide ((ws.length:Int)<=4)<;>cases decide (b=0)<;>rfl
  .rw [zd h1]
   cases q<;>cases r<;>cases t<;>cases(decide ((1:Int)<=ws.length))<;>cases decide ((ws.length:Int)<=4)<;>rfl
 .rw [jxI,za]
  simp only[hfw,hW _ h hw,jJO,za,zbV,zbf,zaj]
  rw[show(decide ((1:Int)<=ws.length)&&decide ((ws.length:Int)<=1))=decide ((ws.length:Int)=1)from by rw[Bool.eq_iff_iff];simp only[zj,zw];omega]
  generalize nilB kids=q
  generalize okW f=r
  generalize ws.all okW=t
  cases q<;>cases r<;>cases t<;>cases decide ((ws.length:Int)=1)<;>cases decide (b=0)<;>rfl
 .rw [jxI,za]
  simp only[hfw,za,zbV,zbf,zaj]
  generalize(decide (a=0)&&decide (b=0))=p
  generalize nilB kids=q
  generalize okW f=r
  cases h1:decide ((ws.length:Int)=1)with
  |false=>
   cases p<;>cases q<;>cases r<;>cases(ws.all fun w=>okG w&& !okW w)<;>rfl
  |true=>
   obtain⟨w,rfl⟩:=jAV h1
   have h2:=hw w zy
   have e:idx [w] (0:Int)=some w:=rfl
   simp only[e,za,jAS N w (by omega) (by omega) hN,ja7 N w (by omega) hN,List.all_cons,List.all_nil]
   generalize okG w=x
   generalize okW w=y
   cases p<;>cases q<;>cases r<;>cases x<;>cases y<;>rfl
 .rw [jxI,za]
  simp only[hfw,jJO,za,zbV,zbf,zaj]
  generalize nilB kids=q
  generalize nilB ws=p
  generalize okW f=r
  generalize(decide (0<=a)&&decide (a<=999999999))=s
  cases p<;>cases q<;>cases r<;>cases s<;>rfl
 .simp only [meet,jxI,jJO,za,zbV,zbf,zaj,Bool.and_true]
  generalize decide (f=[])=p
  generalize nilB ws=q
  generalize decide (a=0)=r
  generalize hs:decide (b=0)=s
  generalize decide (k=7)=k7
  generalize decide (k=8)=k8
  generalize decide (k=9)=k9
  generalize decide (k=10)=k10
  generalize(decide ((2:Int)<=kids.length)&&decide ((kids.length:Int)<=4))=x
  generalize(decide ((kids.length:Int)=2))=x2
  generalize(decide ((kids.length:Int)=1))=x1
  generalize(decide (2<=a)&&decide (a<=9))=y
  cases k7<;>cases k8<;>cases k9<;>cases k10<;>cases p<;>cases q<;>cases r<;>cases s<;>cases x1<;>rfl
def BQ :Nat->DQ->Prop
 |0,_=>True
 |n+1,q=>q.field.length<=1048576/\q.words.length<=1048576/\(∀w,w∈q.words->w.length<=1048576)/\q.kids.length<=1048576/\∀c,c∈q.kids->BQ n c
theorem jzi (N:Nat) (hM:Sm<N) (hN:N<=1099511627776):∀(n D:Nat),n<D->n<=1000->∀q,BQ n q->jxO N D q.kind q.field q.words q.lo q.hi q.kids (n:Int)=some (okQ n q)
 |0,D+1,_,_,q,_=>by
  rw[jxO,zb (by rfl),zg]
  rfl
 |n+1,D+1,hD,hn,q,hq=>by
  have hM':1048576<N:=hM
  have ih:=jzi N hM hN n D (by omega) (by omega)
  obtain⟨k,f,ws,a,b,kids⟩:=q
  obtain⟨h1,h2,h3,h4,h5⟩:=hq
  dsimp only[DQ.kind,DQ.field,DQ.words,DQ.lo,DQ.hi,DQ.kids]at h1 h2 h3 h4 h5⊢
  rw[jxO,zd (by omega),ze,jBm N hM hN k f ws a b kids h1 h2 h3,za,okQ]
  have e:((n+1:Nat):Int)-1=(n:Int):=by omega
  cases hb:oneQ k f ws a b kids
  .rfl
  .rw [zn,ze,zaj]
   refine Eq.trans (jcE _ kids (fun i=>(((n+1:Nat):Int),(i:Int),k,f,ws,a,b,kids)) (okQ n) (some false) (some true) (fun go=>?_) (fun go i hi=>?_) N (by omega)) ?_
   .dsimp only
    rw[zd (zm _),ze]
   .dsimp only
    have hm:=zr hi
    rw[zb (by omega:(i:Int)<kids.length),zg,idx_at hi,za,e,zf (by unfold fits;omega),ih _ (h5 _ hm),za,zf (fits_nat (n:=i) (by omega)),cast_succ']
    cases okQ n kids[i]<;>rfl
   .cases kids.all (okQ n)<;>rfl
theorem jyI {δ Z:Type} {J:δ->Option Z} {X:(δ->Option Z)->Option Z} {w:Option Z} (g0:δ) (v:Option Z) (hJ:J g0=v) (hX:∀J':δ->Option Z,J' g0=v->X J'=w):meet J X=w:=hX J hJ
abbrev ESh :Type:=Bool×Int×Int×Int×Int×Bool×Int×Int
def shp (k:Int):Option ESh:=mget (.int .i64) (.pair .bool (.pair (.int .i64) (.pair (.int .i64) (.pair (.int .i64) (.pair (.int .i64) (.pair .bool (.pair (.int .i64) (.int .i64)))))))) gm_shapes k
theorem jDh {k:Int} (h1:¬k=1) (h2:¬k=2) (h3:¬k=3) (h4:¬k=4) (h5:¬k=5) (h6:¬k=6) (h7:¬k=7) (h8:¬k=8) (h9:¬k=9) (h10:¬k=10):shp k=none:=by
 unfold shp mget gm_shapes
 simp only[List.find?,Tp.eqB,zd h1,zd h2,zd h3,zd h4,zd h5,zd h6,zd h7,zd h8,zd h9,zd h10,Option.map_none]
def inB (n lo hi:Int):Bool:=decide (lo<=n)&&decide (n<=hi)
def wK (k:Int) (w:List UInt8):Bool:=bif decide (k=5)then okG w&& !okW w else okW w
def jQK (s:ESh) (k:Int) (f:List UInt8) (ws:List (List UInt8)) (a b:Int) (kids:List DQ) (P:DQ->Bool):Bool:=
 (s.1== !decide (f=[]))&&((!s.1||okW f)&&(inB ws.length s.2.1 s.2.2.1&&(inB kids.length s.2.2.2.2.2.2.1 s.2.2.2.2.2.2.2&&(inB a s.2.2.2.1 s.2.2.2.2.1&&((!s.2.2.2.2.2.1||inB b a 999999999)&&((s.2.2.2.2.2.1||decide (b=0))&&(ws.all (wK k)&&kids.all P)))))))
def jy3 (s:Option ESh) (k:Int) (f:List UInt8) (ws:List (List UInt8)) (a b:Int) (kids:List DQ) (P:DQ->Bool):Bool:=
 match s with
 |none=>false
 |some s=>jQK s k f ws a b kids P
theorem jDU (N:Nat) (hM:Sm<N) (hN:N<=1099511627776) (n D:Nat) (hn:n<=1000) (ih:∀q,BQ n q->jxE N D q.kind q.field q.words q.lo q.hi q.kids (n:Int)=some (okQ n q)) (k:Int) (f:List UInt8) (ws:List (List UInt8)) (a b:Int) (kids:List DQ) (h1:f.length<=1048576) (h2:ws.length<=1048576) (h3:∀w,w∈ws->w.length<=1048576) (h4:kids.length<=1048576) (h5:∀c,c∈kids->BQ n c):jxE N (D+1) k f ws a b kids ((n+1:Nat):Int)=some (jy3 (shp k) k f ws a b kids (okQ n)):=by
 have hM':1048576<N:=hM
 have e:((n+1:Nat):Int)-1=(n:Int):=by omega
 rw[jxE]
 unfold shp
 generalize mget (.int .i64) (.pair .bool (.pair (.int .i64) (.pair (.int .i64) (.pair (.int .i64) (.pair (.int .i64) (.pair .bool (.pair (.int .i64) (.int .i64)))))))) gm_shapes k=o
 cases o with
 |none=>rfl
 |some sh=>
  obtain⟨x,x2,x3,x4,x5,x6,x7,x8⟩:=sh
  show _=some (jQK _ k f ws a b kids (okQ n))
  unfold jQK
  dsimp only
  generalize hv3:(ws.all (wK k)&&kids.all (okQ n))=v3
  generalize hv2:((!x6||inB b a 999999999)&&((x6||decide (b=0))&&v3))=v2
  refine jyI (((n+1:Nat):Int),k,f,ws,a,b,kids,x,x2,x3,x4,x5,x6,x7,x8) (some (inB ws.length x2 x3&&(inB kids.length x7 x8&&(inB a x4 x5&&v2)))) ?_ (fun J hJ=>?_)
  .dsimp only
   refine jyI (((n+1:Nat):Int),k,f,ws,a,b,kids,x,x2,x3,x4,x5,x6,x7,x8) (some v2) ?_ (fun J2 hJ2=>?_)
   .dsimp only
    refine jyI (((n+1:Nat):Int),k,f,ws,a,b,kids) (some v3) ?_ (fun J3 hJ3=>?_)
    .dsimp only
     refine Eq.trans (jcE _ ws (fun i=>(((n+1:Nat):Int),ws,(ws.length:Int),(i:Int),k,f,ws,a,b,kids)) (wK k) (some false) (some (kids.all (okQ n))) (fun go=>?_) (fun go i hi=>?_) N (by omega)) ?_
     .dsimp only
      rw[zd (zm _),ze]
      refine Eq.trans (jcE _ kids (fun i=>(((n+1:Nat):Int),kids,(kids.length:Int),(i:Int))) (okQ n) (some false) (some true) (fun go=>?_) (fun go i hi=>?_) N (by omega)) ?_
      .dsimp only
       rw[zd (zm _),ze]
      .dsimp only
       have hm:=zr hi
       rw[zb (by omega:(i:Int)<kids.length),zg,idx_at hi,za,e,zf (by unfold fits;omega),ih _ (h5 _ hm),za,zf (fits_nat (n:=i) (by omega)),cast_succ']
       cases okQ n kids[i]<;>rfl
      .cases kids.all (okQ n)<;>rfl
     .dsimp only
      have hm:=h3 _ (zr hi)
      have hf:fits ((i:Int)+1):=fits_nat (by omega)
      rw[zb (by omega:(i:Int)<ws.length),zg,idx_at hi,za]
      simp only[jzB N _ (by omega:ws[i].length<N) hN,jaJ N _ (by omega:ws[i].length<N) hN,za,zf hf,cast_succ']
      unfold wK
      cases decide (k=5)<;>cases okG ws[i]<;>cases okW ws[i]<;>rfl
     .rw [<-hv3]
      cases ws.all (wK k)<;>rfl
    .simp only [jJR,za,hJ3]
     rw[<-hv2]
     unfold inB
     cases x6<;>cases decide (a<=b)<;>cases decide (b<=999999999)<;>cases decide (b=0)<;>rfl
   .simp only [jJR,za,hJ2]
    unfold inB
    cases(decide (x2<=(ws.length:Int))&&decide ((ws.length:Int)<=x3))<;>cases(decide (x7<=(kids.length:Int))&&decide ((kids.length:Int)<=x8))<;>cases(decide (x4<=a)&&decide (a<=x5))<;>rfl
  .dsimp only [Option.isSome,Option.getD]
   rw[zd (by omega:¬((n+1:Nat):Int)<1)]
   simp only[jaJ N f (by omega) hN,za,hJ]
   cases x<;>cases decide (f=[])<;>cases okW f<;>rfl
theorem jxC {m v:Int}:inB m v v=decide (m=v):=by unfold inB;rw[Bool.eq_iff_iff];simp only[zj,zw];omega
theorem jAR (k:Int) (f:List UInt8) (ws:List (List UInt8)) (a b:Int) (kids:List DQ) (P:DQ->Bool):jy3 (shp k) k f ws a b kids P=(oneQ k f ws a b kids&&kids.all P):=by
 have e1:decide ((ws.length:Int)=0)=true->ws.all (wK k)=true:=fun h=>by
  have:=of_decide_eq_true h
  rw[zbI.1 (by omega:ws.length=0)]
  rfl
 have e2:decide ((kids.length:Int)=0)=true->kids.all P=true:=fun h=>by
  have:=of_decide_eq_true h
  rw[zbI.1 (by omega:kids.length=0)]
  rfl
 have e3:decide (f=[])=true->okW f=false:=fun h=>by rw[of_decide_eq_true h];rfl
 by_cases k1:k=1
 .subst k1
  show jQK (false,0,0,0,0,false,0,0) 1 f ws a b kids P=_
  rw[show wK 1=okW from rfl]at e1
  unfold jQK oneQ nilB
  rw[show wK 1=okW from rfl]
  dsimp only
  simp only[jxC]
  unfold inB
  generalize ws.all okW=q at*
  generalize kids.all P=p at*
  generalize decide ((ws.length:Int)=0)=l at*
  generalize decide ((kids.length:Int)=0)=m at*
  generalize decide (a=0)=u at*
  generalize decide (b=0)=v at*
  generalize decide (f=[])=z at*
  generalize okW f=o at*
  cases q<;>cases p<;>cases l<;>cases m<;>cases u<;>cases v<;>cases z<;>cases o<;>first|rfl|simp_all
 by_cases k2:k=2
 .subst k2
  show jQK (true,1,1,0,0,false,0,0) 2 f ws a b kids P=_
  clear e1
  unfold jQK oneQ nilB
  rw[show wK 2=okW from rfl]
  dsimp only
  simp only[jxC]
  unfold inB
  generalize ws.all okW=q at*
  generalize kids.all P=p at*
  generalize decide ((ws.length:Int)=1)=l at*
  generalize decide ((kids.length:Int)=0)=m at*
  generalize decide (a=0)=u at*
  generalize decide (b=0)=v at*
  generalize decide (f=[])=z at*
  generalize okW f=o at*
  cases q<;>cases p<;>cases l<;>cases m<;>cases u<;>cases v<;>cases z<;>cases o<;>first|rfl|simp_all
 by_cases k3:k=3
 .subst k3
  show jQK (true,2,4,0,5,false,0,0) 3 f ws a b kids P=_
  clear e1
  unfold jQK oneQ nilB
  rw[show wK 3=okW from rfl]
  dsimp only
  simp only[jxC]
  unfold inB
  generalize ws.all okW=q at*
  generalize kids.all P=p at*
  generalize decide ((2:Int)<=ws.length)=l1 at*
  generalize decide ((ws.length:Int)<=4)=l2 at*
  generalize decide ((kids.length:Int)=0)=m at*
  generalize decide ((0:Int)<=a)=u1 at*
  generalize decide (a<=5)=u2 at*
  generalize decide (b=0)=v at*
  generalize decide (f=[])=z at*
  generalize okW f=o at*
  cases q<;>cases p<;>cases l1<;>cases l2<;>cases m<;>cases u1<;>cases u2<;>cases v<;>cases z<;>cases o<;>first|rfl|simp_all
 by_cases k4:k=4
 .subst k4
  show jQK (true,1,1,1,2,false,0,0) 4 f ws a b kids P=_
  clear e1
  unfold jQK oneQ nilB
  rw[show wK 4=okW from rfl]
  dsimp only
  simp only[jxC]
  unfold inB
  generalize ws.all okW=q at*
  generalize kids.all P=p at*
  generalize decide ((ws.length:Int)=1)=l at*
  generalize decide ((kids.length:Int)=0)=m at*
  generalize decide ((1:Int)<=a)=u1 at*
  generalize decide (a<=2)=u2 at*
  generalize decide (b=0)=v at*
  generalize decide (f=[])=z at*
  generalize okW f=o at*
  cases q<;>cases p<;>cases l<;>cases m<;>cases u1<;>cases u2<;>cases v<;>cases z<;>cases o<;>first|rfl|simp_all
 by_cases k5:k=5
 .subst k5
  show jQK (true,1,1,0,0,false,0,0) 5 f ws a b kids P=_
  clear e1
  unfold jQK oneQ nilB
  rw[show wK 5=(fun w=>okG w&& !okW w)from rfl]
  dsimp only
  simp only[jxC]
  unfold inB
  generalize ws.all (fun w=>okG w&& !okW w)=q at*
  generalize kids.all P=p at*
  generalize decide ((ws.length:Int)=1)=l at*
  generalize decide ((kids.length:Int)=0)=m at*
  generalize decide (a=0)=u at*
  generalize decide (b=0)=v at*
  generalize decide (f=[])=z at*
  generalize okW f=o at*
  cases q<;>cases p<;>cases l<;>cases m<;>cases u<;>cases v<;>cases z<;>cases o<;>first|rfl|simp_all
 by_cases k6:k=6
 .subst k6
  show jQK (true,0,0,0,999999999,true,0,0) 6 f ws a b kids P=_
  rw[show wK 6=okW from rfl]at e1
  unfold jQK oneQ nilB
  rw[show wK 6=okW from rfl]
  dsimp only
  simp only[jxC]
  unfold inB
  generalize ws.all okW=q at*
  generalize kids.all P=p at*
  generalize decide ((ws.length:Int)=0)=l at*
  generalize decide ((kids.length:Int)=0)=m at*
  generalize decide ((0:Int)<=a)=u1 at*
  generalize decide (a<=999999999)=u2 at*
  generalize decide (a<=b)=v1 at*
  generalize decide (b<=999999999)=v2 at*
  generalize decide (f=[])=z at*
  generalize okW f=o at*
  cases q<;>cases p<;>cases l<;>cases m<;>cases u1<;>cases u2<;>cases v1<;>cases v2<;>cases z<;>cases o<;>first|rfl|simp_all
 by_cases k7:k=7
 .subst k7
  show jQK (false,0,0,0,0,false,2,4) 7 f ws a b kids P=_
  rw[show wK 7=okW from rfl]at e1
  clear e2
  unfold jQK oneQ nilB
  rw[show wK 7=okW from rfl]
  dsimp only
  simp only[jxC]
  unfold inB
  generalize ws.all okW=q at*
  generalize kids.all P=p at*
  generalize decide ((ws.length:Int)=0)=l at*
  generalize decide ((2:Int)<=kids.length)=m1 at*
  generalize decide ((kids.length:Int)<=4)=m2 at*
  generalize decide (a=0)=u at*
  generalize decide (b=0)=v at*
  generalize decide (f=[])=z at*
  generalize okW f=o at*
  cases q<;>cases p<;>cases l<;>cases m1<;>cases m2<;>cases u<;>cases v<;>cases z<;>cases o<;>first|rfl|simp_all
 by_cases k8:k=8
 .subst k8
  show jQK (false,0,0,0,0,false,2,4) 8 f ws a b kids P=_
  rw[show wK 8=okW from rfl]at e1
  clear e2
  unfold jQK oneQ nilB
  rw[show wK 8=okW from rfl]
  dsimp only
  simp only[jxC]
  unfold inB
  generalize ws.all okW=q at*
  generalize kids.all P=p at*
  generalize decide ((ws.length:Int)=0)=l at*
  generalize decide ((2:Int)<=kids.length)=m1 at*
  generalize decide ((kids.length:Int)<=4)=m2 at*
  generalize decide (a=0)=u at*
  generalize decide (b=0)=v at*
  generalize decide (f=[])=z at*
  generalize okW f=o at*
  cases q<;>cases p<;>cases l<;>cases m1<;>cases m2<;>cases u<;>cases v<;>cases z<;>cases o<;>first|rfl|simp_all
 by_cases k9:k=9
 .subst k9
  show jQK (false,0,0,0,0,false,2,2) 9 f ws a b kids P=_
  rw[show wK 9=okW from rfl]at e1
  clear e2
  unfold jQK oneQ nilB
  rw[show wK 9=okW from rfl]
  dsimp only
  simp only[jxC]
  unfold inB
  generalize ws.all okW=q at*
  generalize kids.all P=p at*
  generalize decide ((ws.length:Int)=0)=l at*
  generalize decide ((kids.length:Int)=2)=m at*
  generalize decide (a=0)=u at*
  generalize decide (b=0)=v at*
  generalize decide (f=[])=z at*
  generalize okW f=o at*
  cases q<;>cases p<;>cases l<;>cases m<;>cases u<;>cases v<;>cases z<;>cases o<;>first|rfl|simp_all
 by_cases k10:k=10
 .subst k10
  show jQK (false,0,0,2,9,false,1,1) 10 f ws a b kids P=_
  rw[show wK 10=okW from rfl]at e1
  clear e2
  unfold jQK oneQ nilB
  rw[show wK 10=okW from rfl]
  dsimp only
  simp only[jxC]
  unfold inB
  generalize ws.all okW=q at*
  generalize kids.all P=p at*
  generalize decide ((ws.length:Int)=0)=l at*
  generalize decide ((kids.length:Int)=1)=m at*
  generalize decide ((2:Int)<=a)=u1 at*
  generalize decide (a<=9)=u2 at*
  generalize decide (b=0)=v at*
  generalize decide (f=[])=z at*
  generalize okW f=o at*
  cases q<;>cases p<;>cases l<;>cases m<;>cases u1<;>cases u2<;>cases v<;>cases z<;>cases o<;>first|rfl|simp_all
 rw[jDh k1 k2 k3 k4 k5 k6 k7 k8 k9 k10]
 unfold oneQ
 simp only[zd k1,zd k2,zd k3,zd k4,zd k5,zd k6,zd k7,zd k8,zd k9,zd k10,Bool.or_false,ze,Bool.false_and]
 rfl
theorem jAo (N:Nat) (hM:Sm<N) (hN:N<=1099511627776):∀(n D:Nat),n<D->n<=1000->∀q,BQ n q->jxE N D q.kind q.field q.words q.lo q.hi q.kids (n:Int)=some (okQ n q)
 |0,D+1,_,_,q,_=>by
  rw[jxE]
  generalize mget (.int .i64) (.pair .bool (.pair (.int .i64) (.pair (.int .i64) (.pair (.int .i64) (.pair (.int .i64) (.pair .bool (.pair (.int .i64) (.int .i64)))))))) gm_shapes q.kind=o
  cases o<;>rfl
 |n+1,D+1,hD,hn,q,hq=>by
  have ih:=jAo N hM hN n D (by omega) (by omega)
  obtain⟨k,f,ws,a,b,kids⟩:=q
  obtain⟨h1,h2,h3,h4,h5⟩:=hq
  rw[show jxE N (D+1) (DQ.mk k f ws a b kids).kind (DQ.mk k f ws a b kids).field (DQ.mk k f ws a b kids).words (DQ.mk k f ws a b kids).lo (DQ.mk k f ws a b kids).hi (DQ.mk k f ws a b kids).kids ((n+1:Nat):Int)=jxE N (D+1) k f ws a b kids ((n+1:Nat):Int)from rfl,jDU N hM hN n D (by omega) ih k f ws a b kids h1 h2 h3 h4 h5,jAR,okQ]
theorem queryOk_i (N:Nat) (hM:Sm<N) (hN:N<=1099511627776) (q:DQ) (hq:BQ 4 q):jTV N q.kind q.field q.words q.lo q.hi q.kids=some (okQ 4 q):=by
 have hM':1048576<N:=hM
 unfold jTV
 rw[show(4:Int)=((4:Nat):Int)from rfl,jAo N hM hN 4 N (by omega) (by omega) q hq,za]
theorem jFU (N:Nat) (hM:Sm<N) (hN:N<=1099511627776) (q:DQ) (hq:BQ 4 q):jE5 N q.kind q.field q.words q.lo q.hi q.kids=some (okQ 4 q):=by
 have hM':1048576<N:=hM
 unfold jE5
 rw[show(4:Int)=((4:Nat):Int)from rfl,jzi N hM hN 4 N (by omega) (by omega) q hq,za]
theorem jWd {len:Nat} {f:Nat->Bool} (h:allN len f=true) {n:Nat} (hn:n<len):f n=true:=by
 unfold allN at h
 rw[zax]at h
 exact h n (by simp;omega)
abbrev EAl :Type:=List UInt8×DQ
def GB (x:EAl):Prop:=x.1.length<=1048576/\BQ 4 x.2
def alAt (xs:List EAl) (n:Nat):EAl:=xs[n]?.getD ([],.mk 0 [] [] 0 0 [])
theorem jE3 {xs:List EAl} {n:Nat} (h:n<xs.length):xs[n]=alAt xs n:=by unfold alAt;rw[zc h];rfl
def okAl (xs:List EAl) (n:Nat):Bool:=okW (alAt xs n).1&&okQ 4 (alAt xs n).2&&(decide (n=0)||Op.bytesLess (alAt xs (n-1)).1 (alAt xs n).1)
def okAls (xs:List EAl):Bool:=allN xs.length (okAl xs)&&decide ((xs.length:Int)<=6)
theorem al_impl (N:Nat) (hM:Sm<N) (hN:N<=1099511627776) (xs:List EAl) (h:xs.length<=1048576) (hx:∀x,x∈xs->GB x):jGU N xs=some (okAls xs):=by
 have hM':1048576<N:=hM
 unfold jGU okAls
 refine jG _ xs.length (fun n=>(xs,xs,(xs.length:Int),(n:Int))) (okAl xs) _ (fun go=>?_) (fun go n hn=>?_) N (by omega)
 .dsimp only
  rw[zd (zm _),ze]
 .dsimp only
  have hm:=hx _ (zr hn)
  have hf:fits ((n:Int)+1):=fits_nat (by omega)
  rw[zb (by omega:(n:Int)<xs.length),zg,idx_at hn,za,jaJ N _ (by have:=hm.1;omega) hN,za,queryOk_i N hM hN _ hm.2,za]
  simp only[zf hf,cast_succ',jE3 hn]
  unfold okAl
  match n,hn with
  |0,hn=>
   rw[zd (by omega),ze,zb rfl,zbV,Bool.and_true]
   cases okW (alAt xs 0).1<;>cases okQ 4 (alAt xs 0).2<;>rfl
  |n+1,hn=>
   rw[zb (by omega),zg,show((n+1:Nat):Int)-1=(n:Int)from by omega,zf (by unfold fits;omega),idx_at (by omega:n<xs.length),za,jE3 (by omega:n<xs.length),zd (by omega),zbf,Nat.add_sub_cancel]
   cases okW (alAt xs (n+1)).1<;>cases okQ 4 (alAt xs (n+1)).2<;>cases Op.bytesLess (alAt xs n).1 (alAt xs (n+1)).1<;>rfl
theorem jV7 (N:Nat) (hM:Sm<N) (hN:N<=1099511627776) (xs:List EAl) (h:xs.length<=1048576) (hx:∀x,x∈xs->GB x):jE4 N xs=some (okAls xs):=by
 have hM':1048576<N:=hM
 unfold jE4 okAls
 refine jG _ xs.length (fun n=>(xs,(n:Int))) (okAl xs) (decide ((xs.length:Int)<=6)) (fun go=>?_) (fun go n hn=>?_) N (by omega)
 .dsimp only
  rw[zd (zm _),ze]
 .dsimp only
  have hm:=hx _ (zr hn)
  rw[jE3 hn]at hm
  have hf:fits ((n:Int)+1):=fits_nat (by omega)
  rw[zb (by omega:(n:Int)<xs.length),zg,idx_at hn]
  simp only[za,jE3 hn,ja7 N _ (by have:=hm.1;omega:(alAt xs n).1.length<N) hN,jFU N hM hN _ hm.2,zf hf,cast_succ',bytesLess_or]
  unfold okAl
  match n,hn with
  |0,hn=>
   rw[zd (by omega),ze,zb rfl,zbV,Bool.and_true]
   cases okW (alAt xs 0).1<;>cases okQ 4 (alAt xs 0).2<;>rfl
  |n+1,hn=>
   rw[zb (by omega),zg,show((n+1:Nat):Int)-1=(n:Int)from by omega,zf (by unfold fits;omega),idx_at (by omega:n<xs.length),za,jE3 (by omega:n<xs.length),zd (by omega),zbf,Nat.add_sub_cancel]
   cases okW (alAt xs (n+1)).1<;>cases okQ 4 (alAt xs (n+1)).2<;>cases Op.bytesLess (alAt xs n).1 (alAt xs (n+1)).1<;>rfl
theorem okAls_each {xs:List EAl} (h:okAls xs=true):xs.length<=6/\∀x,x∈xs->okW x.1=true/\okQ 4 x.2=true:=by
 unfold okAls at h
 rw[zj,zw]at h
 refine⟨by omega,fun x hx=>?_⟩
 obtain⟨n,hn,rfl⟩:=zav.1 hx
 have:=jWd h.1 hn
 unfold okAl at this
 rw[zj,zj,<-jE3 hn]at this
 exact this.1
theorem jUn (x:List UInt8):Op.bytesLess x x=false:=by
 have:=bytesLess_or x x
 cases h:Op.bytesLess x x with
 |false=>rfl
 |true=>rw[h]at this;cases this
theorem jT9 {x y:List UInt8} (h:Op.bytesLess x y=false) (hne:x≠y):Op.bytesLess y x=true:=by
 have:=bytesLess_or x y
 rw[h,zd hne]at this
 cases hh:Op.bytesLess y x with
 |true=>rfl
 |false=>rw[hh]at this;cases this
theorem jTQ :∀ {x y z:List UInt8},Op.bytesLess x y=true->Op.bytesLess y z=true->Op.bytesLess x z=true
 | [],[],_,h,_=>by simp[Op.bytesLess]at h
 |_::_,[],_,h,_=>by simp[Op.bytesLess]at h
 | [],_::_,[],_,h=>by simp[Op.bytesLess]at h
 | [],_::_,_::_,_,_=>by simp[Op.bytesLess]
 |_::_,_::_,[],_,h=>by simp[Op.bytesLess]at h
 |a::x,b::y,c::z,h1,h2=>by
  simp only[Op.bytesLess]at h1 h2⊢
  have ih:= @jTQ x y z
  simp only[za1,zj,zw,beq_iff_eq,UInt8.lt_iff_toNat_lt]at h1 h2⊢
  rcases h1 with h1|⟨e1,h1⟩<;>rcases h2 with h2|⟨e2,h2⟩
  .exact .inl (by omega)
  .exact .inl (by rw[<-e2];exact h1)
  .exact .inl (by rw[e1];exact h2)
  .exact .inr ⟨e1.trans e2,ih h1 h2⟩
theorem jUF {Y:Type} (lt:Y->Y->Bool) (hi:∀a,lt a a=false) (ht:∀a b c,lt a b=true->lt b c=true->lt a c=true):∀(l m:List Y),l.Pairwise (fun a b=>lt a b=true)->m.Pairwise (fun a b=>lt a b=true)->(∀x,x∈l↔x∈m)->l=m
 | [],[],_,_,_=>rfl
 | [],b::m,_,_,h=>by have:=(h b).2 zy;cases this
 |a::l,[],_,_,h=>by have:=(h a).1 zy;cases this
 |a::l,b::m,h1,h2,h=>by
  rw[zas]at h1 h2
  have hab:a=b:=by
   rcases zp.1 ((h a).1 zy)with e|e
   .exact e
   .rcases zp.1 ((h b).2 zy)with e'|e'
    .exact e'.symm
    .have:=ht a b a (h1.1 b e') (h2.1 a e)
     rw[hi]at this;cases this
  subst hab
  have:l=m:=jUF lt hi ht l m h1.2 h2.2 fun x=>by
   constructor
   .intro hx
    rcases zp.1 ((h x).1 (zl _ hx))with e|e
    .subst e;have:=h1.1 x hx;rw[hi]at this;cases this
    .exact e
   .intro hx
    rcases zp.1 ((h x).2 (zl _ hx))with e|e
    .subst e;have:=h2.1 x hx;rw[hi]at this;cases this
    .exact e
  rw[this]
def putS (l:List (List UInt8)) (s:List UInt8):List (List UInt8):=match l with
 | []=>[s]
 |x::r=>if Op.bytesLess x s=true then x::putS r s else if x=s then x::r else s::x::r
abbrev UpS (l:List (List UInt8)):Prop:=l.Pairwise fun a b=>Op.bytesLess a b=true
theorem jUm (s x:List UInt8):∀l,x∈putS l s↔x=s\/x∈l
 | []=>by simp[putS]
 |y::r=>by
  unfold putS
  have ih:=jUm s x r
  split
  .rw [zp,ih,zp];constructor<;>rintro(h|h|h)<;>simp_all
  .split
   .rename_i e;subst e;simp
   .simp
theorem jUD (s:List UInt8):∀l,UpS l->UpS (putS l s)
 | [],_=>by simp[putS,UpS]
 |y::r,h=>by
  rw[UpS,zas]at h
  unfold putS
  split
  .rename_i hy
   rw[UpS,zas]
   refine⟨fun z hz=>?_,jUD s r h.2⟩
   rcases(jUm s z r).1 hz with rfl|hz
   .exact hy
   .exact h.1 z hz
  .split
   .rw [UpS,zas];exact h
   .rename_i h1 h2
    have hs:Op.bytesLess s y=true:=jT9 (by simpa using h1) h2
    rw[UpS,zas,zas]
    refine⟨fun z hz=>?_,h⟩
    rcases zp.1 hz with rfl|hz
    .exact hs
    .exact jTQ hs (h.1 z hz)
theorem jT5 {s:List UInt8}:∀(a b:List (List UInt8)),(∀x,x∈a->Op.bytesLess x s=true)->putS (a++b) s=a++putS b s
 | [],b,_=>rfl
 |x::a,b,h=>by
  rw[List.cons_append,putS,zf (h x zy),jT5 a b fun y hy=>h y (zl _ hy)]
  rfl
theorem jUR (N:Nat) (l:List (List UInt8)) (s:List UInt8) (hl:l.length<=1000000) (hN:1048576<N):jTD N l s=some (putS l s):=by
 refine Def.get ?_
 unfold jTD
 have fin:∀n:Nat,n<=l.length->(∀x,x∈l.take n->Op.bytesLess x s=true)->putS (l.drop n) s=s::l.drop n->Def (Option.bind (cut l 0 (n:Int)) fun y=>if room ([]:List (List UInt8)).length y.length 16 then(if room (([]:List (List UInt8))++y).length ([s]:List (List UInt8)).length 16 then(Option.bind (cut l (n:Int) (l.length:Int)) fun y2=>if room ((([]:List (List UInt8))++y)++([s]:List (List UInt8))).length y2.length 16 then some (((([]:List (List UInt8))++y)++([s]:List (List UInt8)))++y2)else none)else none)else none) (fun r=>r=putS l s):=fun n hn hlt hp=>by
  refine Def.cut (by decide) (by omega) (by omega) ?_
  simp only[zai,show(0:Int).toNat=0 from rfl,List.drop_zero]
  refine Def.ite (room_of (by simp;omega) (by simp;omega)) (Def.ite (room_of (by simp;omega) (by simp;omega)) (Def.cutTo hn (Def.ite (room_of (by simp;omega) (by simp;omega)) (Def.ret ?_))))
  rw[<-zaR n l,jT5 _ _ hlt,zaR,hp]
  simp
 refine Def.upto l.length (fun n g=>g=(l,s,(n:Int))/\∀x,x∈l.take n->Op.bytesLess x s=true) (fun go g hg=>?_) (fun go n g hn hg hgo=>?_) N 0 _ (zaf _) ⟨rfl,by simp⟩ (by omega)
 .obtain ⟨rfl,hlt⟩:=hg
  dsimp only
  rw[zd (zm _),ze,ze]
  exact fin l.length (zae _) hlt (by rw[List.drop_length];rfl)
 .obtain ⟨rfl,hlt⟩:=hg
  dsimp only
  rw[zb (by omega:(n:Int)<l.length),zg,zg,idx_at hn,za,za]
  have hd:=zan hn
  refine Def.bif (fun hb=>?_) (fun hb=>?_)
  .refine Def.ite (fits_nat (n:=n) (by omega)) (hgo _ ⟨by rw[cast_succ'],fun x hx=>?_⟩)
   rw[zo hn,zaB,zaD]at hx
   rcases hx with hx|rfl
   .exact hlt x hx
   .exact hb
  .refine Def.dif (fun he=>Def.ret ?_) (fun he=>fin n (by omega) hlt ?_)
   .rw [<-zaR n l,jT5 _ _ hlt,zaR,hd,putS,zu (by rw[hb];decide),zf he,<-hd,zaR]
   .rw [hd,putS,zu (by rw[hb];decide),zu he]
theorem jTL (s:List UInt8):okW s=true↔(∀c,c∈s->wB (c.toNat:Int)=true)/\1<=s.length/\s.length<=12:=by
 unfold okW allN
 simp only[zj,zw,zax]
 constructor
 .rintro ⟨h1,h2,h3⟩
  refine⟨fun c hc=>?_,by omega,by omega⟩
  obtain⟨n,hn,rfl⟩:=zav.1 hc
  rw[jbL hn]
  exact h1 n (by simp;omega)
 .rintro ⟨h1,h2,h3⟩
  refine⟨fun n hn=>?_,by omega,by omega⟩
  have hn':n<s.length:=by simpa using hn
  rw[<-jbL hn']
  exact h1 _ (zr hn')
theorem jy4 (P:UInt8->Prop) (xs:List (List UInt8)) (sep:List UInt8) (hs:∀c,c∈sep->P c) (hx:∀x,x∈xs->∀c,c∈x->P c) (L:Nat) (hL:∀x,x∈xs->x.length+sep.length<=L):∀n,n<=xs.length->(∀c,c∈jQJ (xs.take n) sep->P c)/\(jQJ (xs.take n) sep).length<=n*L
 |0,_=>⟨fun c hc=>(by cases hc),zaf _⟩
 |n+1,hn=>by
  obtain⟨h1,h2⟩:=jy4 P xs sep hs hx L hL n (by omega)
  have hm:=zr (show n<xs.length from hn)
  have hm1:=hx _ hm
  have hm2:=hL _ hm
  rw[zo (show n<xs.length from hn),jyG,Nat.succ_mul]
  rcases hp:xs.take n with _|⟨a,r⟩
  .exact ⟨hm1,by dsimp only;omega⟩
  .rw [hp]at h1 h2
   dsimp only
   refine⟨fun c hc=>?_,?_⟩
   .rcases zaB.1 hc with hc|hc
    .rcases zaB.1 hc with hc|hc
     .exact h1 c hc
     .exact hs c hc
    .exact hm1 c hc
   .rw [zam,zam]
    omega
theorem jyi (xs:List (List UInt8)) (hx:∀x,x∈xs->okW x=true) (hl:xs.length<=4):okT (jQJ xs [32])=true/\(jQJ xs [32]).length<=160:=by
 obtain⟨h1,h2⟩:=jy4 (fun c=>32<=c.toNat/\c.toNat<=126) xs [32] (fun c hc=>by rw[zaD.1 hc];decide) (fun x h c hc=>by
  have:=((jTL x).1 (hx x h)).1 c hc
  unfold wB at this
  simp only[za1,zj,zw]at this
  omega) 13 (fun x h=>by
  have:=((jTL x).1 (hx x h)).2.2
  rw[zbE]
  omega) xs.length (zae _)
 rw[zq]at h1 h2
 refine⟨?_,by omega⟩
 unfold okT allN
 rw[zj,zax,zw]
 refine⟨fun n hn=>?_,by omega⟩
 have hn':n<(jQJ xs [32]).length:=by have:=List.mem_range'.1 hn;omega
 have:=h1 _ (zr hn')
 rw[<-jbL hn',zd (by omega),zd (by omega)]
 rfl
theorem jVZ {Y:Type} {p:List Y->Prop} (nil:p []) (snoc:∀l x,p l->p (l++ [x])) (l:List Y):p l:=by
 have h:∀r:List Y,p r.reverse:=fun r=>by
  induction r with
  |nil=>exact nil
  |cons x r ih=>rw[List.reverse_cons];exact snoc _ _ ih
 have:=h l.reverse
 rwa[List.reverse_reverse]at this
theorem jUr {Y β:Type} {f g:Y->Option β}:∀l:List Y,(∀i,i∈l->f i=g i)->l.filterMap f=l.filterMap g
 | [],_=>rfl
 |x::l,h=>by rw[zbK,zbK,h x zy,jUr l fun i hi=>h i (zl _ hi)]
theorem jWf (n:Nat):leftI n 0=List.range n:=by
 unfold leftI
 rw[List.filter_eq_self]
 intro i _
 simp
theorem jVT (n m:Nat):(leftI n m).Nodup:=List.nodup_range.filter _
theorem jUN {n m i:Nat} (h:i∈leftI n m):(leftI n m).Perm (i::leftI n (m|||2^i)):=by
 have e:leftI n (m|||2^i)=(leftI n m).erase i:=by
  rw[(jVT n m).erase_eq_filter]
  unfold leftI
  rw[List.filter_filter]
  apply List.filter_congr
  intro j _
  rw[Nat.testBit_or,Nat.testBit_two_pow]
  by_cases hj:i=j
  .subst hj;simp
  .have:¬j=i:=fun e=>hj e.symm
   simp[hj,this]
 rw[e]
 exact List.perm_cons_erase h
theorem jUJ {n m i:Nat} (h:i∈leftI n m):i<n:=(leftI_mem.1 h).1
def jTE {Y:Type} (es:List Y) (m:Nat):List Y:=(leftI es.length m).filterMap fun i=>es[i]?
theorem jUT {Y:Type} (es:List Y):jTE es 0=es:=by
 unfold jTE
 rw[jWf]
 apply zbc
 intro j
 rw[show(List.range es.length).filterMap (fun i=>es[i]?)=es from by
  induction es using jVZ with
  |nil=>rfl
  |snoc l x ih=>
   rw[zam,zbE,List.range_succ,List.filterMap_append]
   have:(List.range l.length).filterMap (fun i=>(l++ [x])[i]?)=(List.range l.length).filterMap (fun i=>l[i]?):=by
    apply jUr
    intro i hi
    rw[zay (List.mem_range.1 hi)]
   rw[this,ih]
   simp]
theorem jVO {Y:Type} {es:List Y} {m i:Nat} {x:Y} (h:i∈leftI es.length m) (hx:es[i]? =some x):(jTE es m).Perm (x::jTE es (m|||2^i)):=by
 unfold jTE
 have:=(jUN h).filterMap fun i=>es[i]?
 rw[zbK,hx]at this
 exact this
theorem jVA {Y:Type} {es:List Y} {m:Nat} (h:leftI es.length m=[]):jTE es m=[]:=by unfold jTE;rw[h];rfl
theorem jVX {n m i:Nat} (h:i∈leftI n m):(leftI n m).length=(leftI n (m|||2^i)).length+1:=(jUN h).length_eq
theorem jVV {Y:Type} (es:List Y) (m:Nat):(jTE es m).length=(leftI es.length m).length:=by
 unfold jTE
 have:∀l:List Nat,(∀i,i∈l->i<es.length)->(l.filterMap fun i=>es[i]?).length=l.length:=by
  intro l
  induction l with
  |nil=>exact fun _=>rfl
  |cons i l ih=>
   intro h
   have hi:=h i zy
   rw[zbK,zc hi]
   simp[ih fun j hj=>h j (zl _ hj)]
 exact this _ fun i hi=>jUJ hi
def tmsQ (c:EConf):Nat->DQ->List (List UInt8)
 |0,_=>[]
 |n+1,.mk k f ws a b kids=>bif decide (k=2)||decide (k=3)then(jTy c (jQJ ws [32])).map (·.1)else(bif decide (k=9)then kids.take 1 else kids).flatMap (tmsQ c n)
def SetOf (r l:List (List UInt8)):Prop:=UpS r/\∀x,x∈r↔x∈l
theorem SetOf.nil :SetOf [] []:=⟨List.Pairwise.nil,fun x=>Iff.rfl⟩
theorem SetOf.uniq {r s l:List (List UInt8)} (h:SetOf r l) (k:SetOf s l):r=s:=
 jUF Op.bytesLess jUn (fun a b c=>jTQ) r s h.1 k.1 fun x=>(h.2 x).trans (k.2 x).symm
theorem UpS.nodup {r:List (List UInt8)} (h:UpS r):r.Nodup:=h.imp fun {a b} hab e=>by rw[e,jUn]at hab;cases hab
theorem SetOf.len {r l:List (List UInt8)} (h:SetOf r l):r.length<=l.length:=h.1.nodup.length_le_of_subset fun x hx=>(h.2 x).1 hx
theorem SetOf.put {r l:List (List UInt8)} (h:SetOf r l) (x:List UInt8):SetOf (putS r x) (l++ [x]):=
 ⟨jUD x r h.1,fun y=>by rw[jUm,zaB,zaD,h.2 y];exact⟨fun h=>h.symm,fun h=>h.symm⟩⟩
theorem SetOf.same {r l m:List (List UInt8)} (h:SetOf r l) (hm:∀x,x∈l↔x∈m):SetOf r m:=⟨h.1,fun x=>(h.2 x).trans (hm x)⟩
theorem jT2 {k:Int} {f:List UInt8} {ws:List (List UInt8)} {a b:Int} {kids:List DQ} (h:oneQ k f ws a b kids=true) (hk:k=2\/k=3):(∀w,w∈ws->okW w=true)/\ws.length<=4/\kids=[]:=by
 rcases hk with rfl|rfl
 .replace h:((decide (a=0)&&decide (b=0)&&nilB kids)&&(okW f&&(ws.all okW&&decide ((ws.length:Int)=1))))=true:=h
  unfold nilB at h
  simp only[zj,zw,zax]at h
  exact⟨h.2.2.1,by omega,zbI.1 (by omega)⟩
 .replace h:(nilB kids&&(okW f&&(ws.all okW&&(decide ((2:Int)<=ws.length)&&decide ((ws.length:Int)<=4))&&(decide (b=0)&&(decide (0<=a)&&decide (a<=5))))))=true:=h
  unfold nilB at h
  simp only[zj,zw,zax]at h
  exact⟨h.2.2.1.1,by omega,zbI.1 (by omega)⟩
theorem jT7 {k:Int} {f:List UInt8} {ws:List (List UInt8)} {a b:Int} {kids:List DQ} (h:oneQ k f ws a b kids=true):kids.length<=4:=by
 unfold oneQ nilB at h
 cases h1:decide (k=1)<;>cases h2:decide (k=2)<;>cases h3:decide (k=3)<;>cases h4:decide (k=4)<;>cases h5:decide (k=5)<;>cases h6:decide (k=6)<;>cases h7:decide (k=7)||decide (k=8)<;>cases h9:decide (k=9)<;>cases h10:decide (k=10)<;>
  first
  |(simp only[h1,h2,h3,h4,h5,h6,h7,h9,h10,ze,zg,zj,zw]at h;omega)
  |(simp only[h1,h2,h3,h4,h5,h6,h7,h9,h10,ze,zg]at h;cases h)
theorem jaG {Y β:Type} (f:Y->List β) (B:Nat):∀l:List Y,(∀x,x∈l->(f x).length<=B)->(l.flatMap f).length<=l.length*B
 | [],_=>by simp
 |x::l,h=>by
  have h1:=h x zy
  have h2:=jaG f B l fun y hy=>h y (zl _ hy)
  rw[zbu,zam,zi,Nat.succ_mul]
  omega
theorem tmsQ_len (c:EConf):∀(n:Nat) (q:DQ),okQ n q=true->(tmsQ c n q).length<=160*4^n
 |0,_,h=>by cases h
 |n+1,.mk k f ws a b kids,h=>by
  rw[okQ,zj]at h
  obtain⟨h1,h2⟩:=h
  rw[zax]at h2
  have hp:1<=4^n:=Nat.pos_of_ne_zero (by simp)
  rw[tmsQ,Nat.pow_succ]
  cases hk:decide (k=2)||decide (k=3)with
  |true=>
   rw[za1,zw,zw]at hk
   obtain⟨g1,g2,g3⟩:=jT2 h1 hk
   have:=(jyi ws g1 g2).2
   have:=jUd c (jQJ ws [32])
   rw[zg,zar]
   omega
  |false=>
   rw[ze]
   have hl:(bif decide (k=9)then kids.take 1 else kids).length<=4:=by
    have:=jT7 h1
    cases decide (k=9)
    .exact this
    .rw [zg,zah];omega
   have hm:∀x,x∈(bif decide (k=9)then kids.take 1 else kids)->x∈kids:=fun x hx=>by
    cases h9:decide (k=9)
    .rw [h9]at hx;exact hx
    .rw [h9]at hx;exact zaP hx
   have:=jaG (tmsQ c n) (160*4^n) _ fun x hx=>tmsQ_len c n x (h2 x (hm x hx))
   have:=zag (160*4^n) hl
   omega
abbrev EMap :Type:=List ((List UInt8)×Bool)
theorem jUX (es:EMap) (k:List UInt8) (v:Bool):(mput .str .bool es k v).map (·.1)=bif(es.map (·.1)).contains k then es.map (·.1)else es.map (·.1)++ [k]:=by
 induction es with
 |nil=>rfl
 |cons e l ih=>
  show List.map (·.1) (bif decide (k=e.1)then(k,v)::l else e::mput .str .bool l k v)=_
  by_cases h:k=e.1
  .subst h;simp
  .rw [zd h]
   simp only[ze,zv,ih,List.contains_cons]
   have:(k==e.1)=false:=by simpa using h
   rw[this,zbf]
   cases(l.map (·.1)).contains k<;>rfl
def KeysOf (es:EMap) (l:List (List UInt8)):Prop:=(es.map (·.1)).Nodup/\∀x,x∈es.map (·.1)↔x∈l
theorem KeysOf.nil :KeysOf [] []:=⟨List.nodup_nil,fun x=>Iff.rfl⟩
theorem KeysOf.len {es:EMap} {l:List (List UInt8)} (h:KeysOf es l):es.length<=l.length:=by
 have:=h.1.length_le_of_subset fun x hx=>(h.2 x).1 hx
 rwa[zar]at this
theorem KeysOf.put {es:EMap} {l:List (List UInt8)} (h:KeysOf es l) (w:List UInt8):KeysOf (mput .str .bool es w true) (l++ [w]):=by
 obtain⟨h1,h2⟩:=h
 refine⟨?_,fun y=>?_⟩
 .rw [jUX]
  cases hc:(es.map (·.1)).contains w with
  |true=>exact h1
  |false=>
   rw[ze,List.nodup_append]
   refine⟨h1,by simp,fun a ha b hb e=>?_⟩
   simp at hb;subst hb;subst e
   have:(es.map (·.1)).contains a=true:=by simp only[List.contains_eq_mem,zw];exact ha
   rw[hc]at this;cases this
 .rw [jUX,zaB,zaD,<-h2 y]
  cases hc:(es.map (·.1)).contains w with
  |true=>
   rw[zg]
   simp only[List.contains_eq_mem,zw]at hc
   constructor
   .exact .inl
   .rintro (h|h)
    .exact h
    .subst h;exact hc
  |false=>simp only[ze,zaB,zaD]
theorem jVh {x y:List UInt8} (h:Op.bytesLess x y=true):Op.bytesLess y x=false:=by
 cases hh:Op.bytesLess y x with
 |false=>rfl
 |true=>have:=jTQ h hh;rw[jUn]at this;cases this
theorem jVU :WOrd Op.bytesLess where
 asym:=fun x y h=>jVh h
 ntr:=fun x y z h1 h2=>by
  cases hh:Op.bytesLess z x with
  |false=>rfl
  |true=>
   by_cases e:x=y
   .subst e;rw[hh]at h2;cases h2
   .have:=jTQ hh (jT9 h1 (fun e'=>e e'.symm))
    rw[h2]at this;cases this
theorem jA9 (N:Nat) (x y:List UInt8):k_cmp_Less_571_m N x y=some (Op.bytesLess x y):=by
 unfold k_cmp_Less_571_m jbn
 simp
theorem jVC {N:Nat} (hM:Sm<N) (hN:N<=16777216) (ks:List (List UInt8)) (hk:ks.Nodup) (hl:ks.length<N):∃R:List (List UInt8),SetOf R ks/\∀out:List (List UInt8),out.Perm ks->k_slices_Sort_146_m N out=some R:=by
 have hM':1048576<N:=hM
 have one:∀out:List (List UInt8),out.Perm ks->Def (k_slices_Sort_146_m N out) fun r=>SetOf r ks:=fun out ho=>
  (sortWk_146 Op.bytesLess jVU N hN (by omega) out ⟨fun x hx y hy=>⟨_,jA9 N x y,rfl⟩⟩ (by rw[ho.length_eq];exact hl)).mono fun r ⟨hp,hs⟩=>by
   have hn:r.Nodup:=(hp.trans ho).nodup_iff.2 hk
   exact⟨(hs.and hn).imp fun {a b} h=>jT9 h.1 (fun e=>h.2 e.symm),fun x=>(hp.trans ho).mem_iff⟩
 obtain⟨R,e,hR⟩:=one ks (List.Perm.refl _)
 refine⟨R,hR,fun out ho=>?_⟩
 obtain⟨R',e',hR'⟩:=one out ho
 rw[e',hR'.uniq hR]
theorem sortedKeys_spec {N:Nat} (hM:Sm<N) (hN:N<=16777216) (es:EMap) (l:List (List UInt8)) (hk:KeysOf es l) (hl:es.length<=1048576):Def (jTU N es) fun r=>SetOf r.1 l/\r.2=es:=by
 have hM':1048576<N:=hM
 obtain⟨R,hR,hS⟩:=jVC hM hN (es.map (·.1)) hk.1 (by rw[zar];omega)
 refine⟨(R,es),?_,hR.same hk.2,rfl⟩
 unfold jTU
 have main:∀(k fuel:Nat) (out:List (List UInt8)) (m:Nat) (c:Int),(leftI es.length m).length=k->k<fuel->(out++(jTE es m).map (·.1)).Perm (es.map (·.1))->iter (fun(go:((List (List UInt8))×(List ((List UInt8)×Bool))×Int×Int×Int)->Option ((List (List UInt8))×(List ((List UInt8)×Bool)))) (g:(List (List UInt8))×(List ((List UInt8)×Bool))×Int×Int×Int)=>
   match g with
   |(out,b2,b3,b4,b5)=>
   (if(b2.length:Int)=b3 then
    (bif(leftI b2.length (Int.toNat b4)).isEmpty then
     (Option.bind (k_slices_Sort_146_m N out) fun(r:(List (List UInt8)))=>
      (some (r,b2)))
     else
     (anyOf (leftI b2.length (Int.toNat b4)) fun(i:Nat)=>
      (if 0<((i+1:Nat):Int)/\(b2.length:Int)=b3 then
       (Option.bind (b2[Int.toNat ((i+1:Nat):Int)-1]?) fun(e:List UInt8×Bool)=>
        (if room out.length ([e.1]:List (List UInt8)).length 16 then
         (go ((out++([e.1]:List (List UInt8))),b2,b3,((Int.toNat b4|||2^i:Nat):Int),((i+1:Nat):Int)))
         else none))
       else none)))
    else none)) fuel (out,es,(es.length:Int),(m:Int),c)=some (R,es):=by
  intro k
  induction k with
  |zero=>
   intro fuel out m c hk hf hp
   cases fuel with
   |zero=>omega
   |succ fuel=>
    have hnil:leftI es.length m=[]:=zbj hk
    rw[jVA hnil,List.map_nil,zat]at hp
    unfold iter
    dsimp only
    rw[zf rfl,zai,hnil,List.isEmpty_nil,zg,hS out hp]
    rfl
  |succ k ih=>
   intro fuel out m c hk hf hp
   cases fuel with
   |zero=>omega
   |succ fuel=>
    unfold iter
    dsimp only
    rw[zf rfl,zai]
    have hne:leftI es.length m≠ []:=fun e=>by rw[e]at hk;cases hk
    have hie:(leftI es.length m).isEmpty=false:=by
     cases hq:leftI es.length m with
     |nil=>exact absurd hq hne
     |cons _ _=>rfl
    rw[hie,ze]
    refine anyOf_some hne fun i hi=>?_
    have hil:=jUJ hi
    have hx:es[i]? =some es[i]:=zc hil
    have hperm:=(jVO hi hx).map (·.1)
    have hol:out.length<=es.length:=by
     have:=hp.length_eq
     rw[zam,zar,zar]at this
     omega
    rw[zf ⟨by omega,rfl⟩,show Int.toNat ((i+1:Nat):Int)-1=i from by rw[zai];rfl,hx,za,zf (room_of (by rw[zbE];omega) (by rw[zbE];omega))]
    refine ih fuel (out++ [es[i].1]) (m|||2^i) _ (by have:=jVX hi;omega) (by omega) ?_
    rw[zao]
    exact((hperm.symm.append_left out)).trans hp
 exact main _ N [] 0 0 rfl (by
  have:=jVV es 0
  rw[jUT]at this
  omega) (by rw[jUT];exact List.Perm.refl _)
def selK (k:Int) (l:List DQ):List DQ:=bif decide (k=9)then l.take 1 else l
theorem jTN (k:Int):selK k []=[]:=by unfold selK;cases decide (k=9)<;>rfl
theorem jUs (k:Int) {l:List DQ} (h:0<l.length):selK k (l.take (0+1))=[l[0]]:=by
 rw[zo h,zbJ,zaW]
 unfold selK
 cases decide (k=9)<;>rfl
theorem jUS {k:Int} (hk:k=9) (l:List DQ) {i:Nat} (h:0<i):selK k (l.take i)=selK k l:=by
 unfold selK
 rw[zb hk,zg,zg,List.take_take,Nat.min_eq_left h]
theorem jUw {k:Int} (hk:¬k=9) (l:List DQ):selK k l=l:=by
 unfold selK
 rw[zd hk,ze]
theorem jUL (c:EConf) (n:Nat) {k:Int} {f:List UInt8} {ws:List (List UInt8)} {a b:Int} {kids:List DQ} (h:oneQ k f ws a b kids=true):
  (bif decide (k=2)||decide (k=3)then(jTy c (jQJ ws [32])).map (·.1)else [])++(selK k kids).flatMap (tmsQ c n)=tmsQ c (n+1) (.mk k f ws a b kids):=by
 rw[tmsQ]
 cases hk:decide (k=2)||decide (k=3)with
 |false=>rw[ze,ze,zaW];rfl
 |true=>
  rw[za1,zw,zw]at hk
  rw[(jT2 h hk).2.2,jTN,zg,zg]
  exact zat _
theorem jUo {n:Nat} (h:n<=5):160*4^n<=163840:=by
 have:4^n<=4^5:=Nat.pow_le_pow_right (by decide) h
 omega
theorem jVf (c:EConf) {n:Nat} (hn:n+1<=5) {k:Int} {kids:List DQ} (hl:kids.length<=4) (hk:∀x,x∈kids->okQ n x=true) (i:Nat):((selK k (kids.take i)).flatMap (tmsQ c n)).length<=163840:=by
 have hm:∀x,x∈selK k (kids.take i)->x∈kids:=fun x hx=>by
  unfold selK at hx
  cases h9:decide (k=9)
  .rw [h9]at hx;exact zaP hx
  .rw [h9]at hx;exact zaP (zaP hx)
 have hl2:(selK k (kids.take i)).length<=4:=by
  unfold selK
  cases decide (k=9)
  .rw [ze,zah];omega
  .rw [zg,zah,zah];omega
 have h1:=jaG (tmsQ c n) (160*4^n) _ fun x hx=>tmsQ_len c n x (hk x (hm x hx))
 have h2:=zag (160*4^n) hl2
 have h3:=jUo hn
 rw[Nat.pow_succ]at h3
 omega
theorem gather_def (N:Nat) (hM:Sm<N) (hN:N<=16777216) (c:EConf) (oc:okD Sm TConf c) (hc:okConf c=true):∀(n D:Nat),n<=D->∀q,BQ n q->okQ n q=true->∀es l,KeysOf es l->Def (jTJ N D c.1 c.2 q.kind q.field q.words q.lo q.hi q.kids es) fun r=>KeysOf r (l++tmsQ c n q)
 |0,_,_,_,_,h,_,_,_=>by cases h
 |n+1,0,h,_,_,_,_,_,_=>by omega
 |n+1,D+1,hD,.mk k f ws a b kids,hq,h,es,l,hes=>by
  have hM':1048576<N:=hM
  have ih:=gather_def N hM hN c oc hc n D (by omega)
  obtain⟨h1,h2,h3,h4,h5⟩:=hq
  rw[okQ,zj,zax]at h
  obtain⟨ho,hk⟩:=h
  have h4':=jT7 ho
  have hp:=jUL c n ho
  dsimp only[DQ.kind,DQ.field,DQ.words,DQ.lo,DQ.hi,DQ.kids]at h1 h2 h3 h4 h5⊢
  rw[jTJ]
  obtain⟨base,hb⟩:∃base,base=(bif decide (k=2)||decide (k=3)then(jTy c (jQJ ws [32])).map (·.1)else []):=⟨_,rfl⟩
  rw[<-hb]at hp
  refine Def.meet (fun g=>∃e2,KeysOf e2 (l++base)/\g=(c.1,c.2,k,f,ws,a,b,kids,e2)) ?_ ?_
  .rintro _ ⟨e1,he1,rfl⟩
   dsimp only
   refine Def.upto kids.length (fun i g=>∃e2,KeysOf e2 (l++base++(selK k (kids.take i)).flatMap (tmsQ c n))/\g=(kids,(kids.length:Int),(i:Int),c.1,c.2,k,f,ws,a,b,kids,e2)) ?_ ?_ N 0 _ (zaf _) ⟨e1,by rw[zbJ,jTN,zb9,zat];exact he1,rfl⟩ (by omega)
   .rintro go _ ⟨e2,he2,rfl⟩
    dsimp only
    rw[zd (zm _),ze]
    refine Def.ret ?_
    rw[zq,zao,hp]at he2
    exact he2
   .rintro go i _ hi ⟨e2,he2,rfl⟩ hgo
    dsimp only
    have hf:fits ((i:Int)+1):=fits_nat (by omega)
    have hm:=zr hi
    have next:=ih kids[i] (h5 _ hm) (hk _ hm) e2 _ he2
    rw[zb (by omega:(i:Int)<kids.length),zg,idx_at hi,za]
    by_cases h9:k=9
    .rw [zb h9,zn,ze]
     by_cases h0:i=0
     .subst h0
      rw[zb (show((0:Nat):Int)=0 from rfl),zg]
      refine Def.bind next fun r hr=>?_
      rw[zf hf]
      refine hgo _ ⟨r,?_,by rw[cast_succ']⟩
      rw[zbJ,jTN,zb9,zat]at hr
      rw[jUs k hi,zbu,zb9,zat]
      exact hr
     .rw [zd (by omega),ze,zf hf]
      refine hgo _ ⟨e2,?_,by rw[cast_succ']⟩
      rw[jUS h9 kids (by omega)]at he2⊢
      exact he2
    .rw [zd h9,zaI,zg]
     refine Def.bind next fun r hr=>?_
     rw[zf hf]
     refine hgo _ ⟨r,?_,by rw[cast_succ']⟩
     rw[jUw h9]at hr⊢
     rw[zo hi,List.flatMap_append,zbu,zb9,zat,<-zao]
     exact hr
  .intro J hJ
   by_cases k23:k=2\/k=3
   .obtain ⟨w1,w2,w3⟩:=jT2 ho k23
    obtain⟨j1,j2⟩:=jyi ws w1 w2
    have tl:=jUd c (jQJ ws [32])
    have tj:=jDl N ws [32] h2 (by decide) h3
    have tt:=jLp N c (jQJ ws [32]) (by omega) hM (by omega) oc
    rw[hc,j1,Bool.and_true,zg]at tt
    have hb2:base=(jTy c (jQJ ws [32])).map (·.1):=by
     rw[hb]
     rcases k23 with e|e
     .rw [zb e,zbV,zg]
     .rw [zb e,Bool.or_true,zg]
    generalize jTy c (jQJ ws [32])=ts at*
    by_cases k2:k=2
    .rw [zb k2,zg,tj,za,tt,za]
     refine Def.upto ts.length (fun i g=>∃e2,KeysOf e2 (l++(ts.take i).map (·.1))/\g=(ts,(ts.length:Int),(i:Int),c.1,c.2,k,f,ws,a,b,kids,e2)) ?_ ?_ N 0 _ (zaf _) ⟨es,by rw[zbJ,List.map_nil,zat];exact hes,rfl⟩ (by omega)
     .rintro go _ ⟨e2,he2,rfl⟩
      dsimp only
      rw[zd (zm _),ze]
      refine hJ _ ⟨e2,?_,rfl⟩
      rw[zq,<-hb2]at he2
      exact he2
     .rintro go i _ hi ⟨e2,he2,rfl⟩ hgo
      dsimp only
      rw[zb (by omega:(i:Int)<ts.length),zg,idx_at hi,za,zf (fits_nat (by omega))]
      refine hgo _ ⟨_,?_,by rw[cast_succ']⟩
      rw[zo hi,zaK,<-zao]
      exact he2.put _
    .have k3:k=3:=by omega
     rw[zd k2,ze,zb k3,zg,tj,za,tt,za]
     refine Def.upto ts.length (fun i g=>∃e2,KeysOf e2 (l++(ts.take i).map (·.1))/\g=(ts,(ts.length:Int),(i:Int),c.1,c.2,k,f,ws,a,b,kids,e2)) ?_ ?_ N 0 _ (zaf _) ⟨es,by rw[zbJ,List.map_nil,zat];exact hes,rfl⟩ (by omega)
     .rintro go _ ⟨e2,he2,rfl⟩
      dsimp only
      rw[zd (zm _),ze]
      refine hJ _ ⟨e2,?_,rfl⟩
      rw[zq,<-hb2]at he2
      exact he2
     .rintro go i _ hi ⟨e2,he2,rfl⟩ hgo
      dsimp only
      rw[zb (by omega:(i:Int)<ts.length),zg,idx_at hi,za,zf (fits_nat (by omega))]
      refine hgo _ ⟨_,?_,by rw[cast_succ']⟩
      rw[zo hi,zaK,<-zao]
      exact he2.put _
   .have k2:¬k=2:=fun e=>k23 (.inl e)
    have k3:¬k=3:=fun e=>k23 (.inr e)
    rw[zd k2,zd k3,Bool.or_false,ze]at hb
    rw[zd k2,ze,zd k3,ze]
    exact hJ _ ⟨es,by rw[hb,zat];exact hes,rfl⟩
theorem jUj {Z δ:Type} (N:Nat) (hM:1048576<N) {P:Z->Prop} (more out:List (List UInt8)) (l:List (List UInt8)) (ho:SetOf out l) (hl:l.length+more.length<=1000000) (st:List (List UInt8)->Int->δ) (F:(δ->Option Z)->δ->Option Z)
  (hend:∀go out2,SetOf out2 (l++more)->Def (F go (st out2 (more.length:Int))) P)
  (hstep:∀go out2 (i:Nat) (hi:i<more.length),jTD N out2 more[i]=some (putS out2 more[i])->Def (go (st (putS out2 more[i]) ((i+1:Nat):Int))) P->Def (F go (st out2 (i:Int))) P):Def (iter F N (st out 0)) P:=by
 refine Def.upto more.length (fun i g=>∃out2,SetOf out2 (l++more.take i)/\g=st out2 (i:Int)) ?_ ?_ N 0 _ (zaf _) ⟨out,by rw[zbJ,zat];exact ho,rfl⟩ (by omega)
 .rintro go _ ⟨out2,h2,rfl⟩
  rw[zq]at h2
  exact hend go out2 h2
 .rintro go i _ hi ⟨out2,h2,rfl⟩ hgo
  have hlen:=h2.len
  rw[zam,zah]at hlen
  refine hstep go out2 i hi (jUR N out2 _ (by omega) hM) (hgo _ ⟨_,?_,rfl⟩)
  rw[zo hi,<-zao]
  exact h2.put _
theorem jUv (N:Nat) (hM:Sm<N) (hN:N<=16777216) (c:EConf) (hc:okConf c=true):∀(n D:Nat),n<=D->n<=5->∀q,BQ n q->okQ n q=true->Def (jTI N D c.1 c.2 q.kind q.field q.words q.lo q.hi q.kids) fun r=>SetOf r (tmsQ c n q)
 |0,_,_,_,_,_,h=>by cases h
 |n+1,0,h,_,_,_,_=>by omega
 |n+1,D+1,hD,hn5,.mk k f ws a b kids,hq,h=>by
  have hM':1048576<N:=hM
  have ih:=jUv N hM hN c hc n D (by omega) (by omega)
  obtain⟨h1,h2,h3,h4,h5⟩:=hq
  rw[okQ,zj,zax]at h
  obtain⟨ho,hk⟩:=h
  have h4':=jT7 ho
  have hp:=jUL c n ho
  dsimp only[DQ.kind,DQ.field,DQ.words,DQ.lo,DQ.hi,DQ.kids]at h1 h2 h3 h4 h5⊢
  rw[jTI]
  by_cases k23:k=2\/k=3
  .obtain ⟨w1,w2,w3⟩:=jT2 ho k23
   obtain⟨j1,j2⟩:=jyi ws w1 w2
   have tl:=jUd c (jQJ ws [32])
   have tj:=jy5 N hM (by omega) ws [32] h2 (by decide) h3
   have tt:=jVb N c (jQJ ws [32]) (by omega) hM' hc
   have hb2:tmsQ c (n+1) (.mk k f ws a b kids)=(jTy c (jQJ ws [32])).map (·.1):=by
    rw[tmsQ]
    rcases k23 with e|e
    .rw [zb e,zbV,zg]
    .rw [zb e,Bool.or_true,zg]
   rw[hb2]
   generalize jTy c (jQJ ws [32])=ts at*
   have loop:∀F:((List (List UInt8))×(List jTu)×Int->Option (List (List UInt8)))->(List (List UInt8))×(List jTu)×Int->Option (List (List UInt8)),
     (∀go out,F go (out,ts,(ts.length:Int))=some out)->(∀go out (i:Nat) (hi:i<ts.length),F go (out,ts,(i:Int))=Option.bind (jTD N out ts[i].1) fun r=>go (r,ts,((i+1:Nat):Int)))->Def (iter F N (([]:List (List UInt8)),ts,0)) fun r=>SetOf r (ts.map (·.1)):=fun F he hs=>by
    refine Def.upto ts.length (fun i g=>∃out,SetOf out ((ts.take i).map (·.1))/\g=(out,ts,(i:Int))) ?_ ?_ N 0 _ (zaf _) ⟨[],by rw[zbJ];exact SetOf.nil,rfl⟩ (by omega)
    .rintro go _ ⟨out,h2,rfl⟩
     rw[zq]at h2
     rw[he]
     exact Def.ret h2
    .rintro go i _ hi ⟨out,h2,rfl⟩ hgo
     have hlen:=h2.len
     rw[zar,zah]at hlen
     rw[hs go out i hi,jUR N out _ (by omega) hM',za]
     refine hgo _ ⟨_,?_,rfl⟩
     rw[zo hi,zaK]
     exact h2.put _
   by_cases k2:k=2
   .rw [zb k2,zg,tj,za,tt,za]
    refine loop _ (fun go out=>?_) (fun go out i hi=>?_)
    .dsimp only
     rw[zd (zm _),ze]
    .dsimp only
     have hf:fits ((i:Int)+1):=fits_nat (by omega)
     rw[zb (by omega:(i:Int)<ts.length),zg,idx_at hi,za]
     simp only[zf hf,cast_succ']
   .have k3:k=3:=by omega
    rw[zd k2,ze,zb k3,zg,tj,za,tt,za]
    refine loop _ (fun go out=>?_) (fun go out i hi=>?_)
    .dsimp only
     rw[zd (zm _),ze]
    .dsimp only
     have hf:fits ((i:Int)+1):=fits_nat (by omega)
     rw[zb (by omega:(i:Int)<ts.length),zg,idx_at hi,za]
     simp only[zf hf,cast_succ']
  .have k2:¬k=2:=fun e=>k23 (.inl e)
   have k3:¬k=3:=fun e=>k23 (.inr e)
   rw[zd k2,zd k3,Bool.or_false,ze,zaW]at hp
   rw[zd k2,ze,zd k3,ze,<-hp]
   refine Def.upto kids.length (fun i g=>∃out,SetOf out ((selK k (kids.take i)).flatMap (tmsQ c n))/\g=(out,(i:Int),c.1,c.2,k,f,ws,a,b,kids)) ?_ ?_ N 0 _ (zaf _) ⟨[],by rw[zbJ,jTN];exact SetOf.nil,rfl⟩ (by omega)
   .rintro go _ ⟨out,h2,rfl⟩
    dsimp only
    rw[zd (zm _),ze]
    rw[zq]at h2
    exact Def.ret h2
   .rintro go i _ hi ⟨out,ho2,rfl⟩ hgo
    dsimp only
    have hf:fits ((i:Int)+1):=fits_nat (by omega)
    have hm:=zr hi
    have next:=ih kids[i] (h5 _ hm) (hk _ hm)
    have pl:=jVf c (k:=k) hn5 h4' hk i
    have ql:=tmsQ_len c n kids[i] (hk _ hm)
    have q4:=jUo (n:=n) (by omega)
    rw[zb (by omega:(i:Int)<kids.length),zg]
    by_cases h9:k=9
    .rw [zb h9,zg]
     by_cases h0:i=0
     .subst h0
      rw[zd (by omega),ze,idx_at hi,za]
      refine Def.bind next fun r hr=>?_
      have hrl:=hr.len
      refine jUj N hM' r out _ ho2 (by omega) (fun o j=>(o,((0:Nat):Int),r,j,c.1,c.2,k,f,ws,a,b,kids)) _ (fun go2 out2 h2=>?_) (fun go2 out2 j hj hput hgo2=>?_)
      .dsimp only
       rw[zd (zm _),ze,zf hf]
       refine hgo _ ⟨out2,?_,by rw[cast_succ']⟩
       rw[jUs k hi,zbu,zb9,zat]
       rw[zbJ,jTN,zb9,zaW]at h2
       exact h2.same hr.2
      .dsimp only
       rw[zb (by omega:(j:Int)<r.length),zg,idx_at hj,za,hput,za,zf (fits_nat (n:=j) (by omega))]
       rw[cast_succ']at hgo2
       exact hgo2
     .rw [zb (by omega),zg]
      rw[jUS h9 kids (by omega)]at ho2
      exact Def.ret ho2
    .rw [zd h9,ze,idx_at hi,za]
     refine Def.bind next fun r hr=>?_
     have hrl:=hr.len
     refine jUj N hM' r out _ ho2 (by omega) (fun o j=>(o,(i:Int),r,j,c.1,c.2,k,f,ws,a,b,kids)) _ (fun go2 out2 h2=>?_) (fun go2 out2 j hj hput hgo2=>?_)
     .dsimp only
      rw[zd (zm _),ze,zf hf]
      refine hgo _ ⟨out2,?_,by rw[cast_succ']⟩
      rw[jUw h9]at h2⊢
      rw[zo hi,List.flatMap_append,zbu,zb9,zat]
      refine h2.same fun x=>?_
      rw[zaB,zaB,hr.2]
     .dsimp only
      rw[zb (by omega:(j:Int)<r.length),zg,idx_at hj,za,hput,za,zf (fits_nat (n:=j) (by omega))]
      rw[cast_succ']at hgo2
      exact hgo2
def tmsA (c:EConf) (xs:List EAl):List (List UInt8):=xs.flatMap fun x=>tmsQ c 4 x.2
def aT (c:EConf) (xs:List EAl):List (List UInt8):=bif okAls xs&&okConf c then tmsA c xs else []
theorem jUz (c:EConf) {xs:List EAl} (h:okAls xs=true) (i:Nat):(tmsA c (xs.take i)).length<=245760:=by
 obtain⟨h1,h2⟩:=okAls_each h
 have h3:=jaG (fun x:EAl=>tmsQ c 4 x.2) (160*4^4) (xs.take i) fun x hx=>tmsQ_len c 4 x.2 (h2 x (zaP hx)).2
 rw[zah]at h3
 have h4:=zag (160*4^4) (show min i xs.length<=6 by omega)
 unfold tmsA
 omega
theorem tmsA_succ (c:EConf) (xs:List EAl) {i:Nat} (hi:i<xs.length):tmsA c (xs.take (i+1))=tmsA c (xs.take i)++tmsQ c 4 xs[i].2:=by
 unfold tmsA
 rw[zo hi,List.flatMap_append,zbu,zb9,zat]
theorem aT_len (c:EConf) (xs:List EAl):(aT c xs).length<=245760:=by
 unfold aT
 cases h:okAls xs with
 |false=>rw[Bool.false_and,ze];exact zaf _
 |true=>
  cases okConf c
  .exact zaf _
  .have:=jUz c h xs.length
   rw[zq]at this
   exact this
theorem alertTerms_s (N:Nat) (hM:Sm<N) (hN:N<=16777216) (xs:List EAl) (c:EConf) (oc:okD Sm TConf c) (hl:xs.length<=1048576) (hx:∀x,x∈xs->GB x):Def (jTY N xs c.1 c.2) fun r=>SetOf r (aT c xs):=by
 have hM':1048576<N:=hM
 unfold jTY aT
 rw[jV7 N hM (by omega) xs hl hx,za]
 cases hA:okAls xs with
 |false=>rw[zaI,zg,Bool.false_and,ze];exact Def.ret SetOf.nil
 |true=>
  rw[zn,ze,jsb N hM (by omega) c oc,za]
  cases hc:okConf c with
  |false=>rw[zaI,zg,Bool.and_false,ze];exact Def.ret SetOf.nil
  |true=>
   rw[zn,ze,zaj,zg]
   have ha:=okAls_each hA
   refine Def.upto xs.length (fun i g=>∃out,SetOf out (tmsA c (xs.take i))/\g=(xs,out,(i:Int),c.1,c.2)) ?_ ?_ N 0 _ (zaf _) ⟨[],by rw[zbJ];exact SetOf.nil,rfl⟩ (by omega)
   .rintro go _ ⟨out,h2,rfl⟩
    dsimp only
    rw[zd (zm _),ze]
    rw[zq]at h2
    exact Def.ret h2
   .rintro go i _ hi ⟨out,ho2,rfl⟩ hgo
    dsimp only
    have hm:=zr hi
    have hf:fits ((i:Int)+1):=fits_nat (by omega)
    have hq:=(ha.2 _ hm).2
    rw[zb (by omega:(i:Int)<xs.length),zg,idx_at hi,za]
    refine Def.bind (jUv N hM hN c hc 4 N (by omega) (by omega) xs[i].2 (hx _ hm).2 hq) fun r hr=>?_
    have hrl:=hr.len
    have h7:=tmsQ_len c 4 _ hq
    have h8:=jUz c hA i
    refine jUj N hM' r out _ ho2 (by omega) (fun o j=>(xs,o,(i:Int),r,j,c.1,c.2)) _ (fun go2 out2 h2=>?_) (fun go2 out2 j hj hput hgo2=>?_)
    .dsimp only
     rw[zd (zm _),ze,zf hf]
     refine hgo _ ⟨out2,?_,by rw[cast_succ']⟩
     rw[tmsA_succ c xs hi]
     refine h2.same fun x=>?_
     rw[zaB,zaB,hr.2]
    .dsimp only
     rw[zb (by omega:(j:Int)<r.length),zg,idx_at hj,za,hput,za,zf (fits_nat (n:=j) (by omega))]
     rw[cast_succ']at hgo2
     exact hgo2
theorem alertTerms_i (N:Nat) (hM:Sm<N) (hN:N<=16777216) (xs:List EAl) (c:EConf) (oc:okD Sm TConf c) (hl:xs.length<=1048576) (hx:∀x,x∈xs->GB x):Def (jTK N xs c.1 c.2) fun r=>SetOf r (aT c xs):=by
 have hM':1048576<N:=hM
 unfold jTK
 have hlen:=aT_len c xs
 refine Def.meet (fun g=>KeysOf g (aT c xs)) (fun g hg=>?_) (fun J hJ=>?_)
 .dsimp only
  refine Def.bind (sortedKeys_spec hM hN g _ hg (by have:=hg.len;omega)) fun r hr=>Def.ret hr.1
 .rw [al_impl N hM (by omega) xs hl hx,za]
  cases hA:okAls xs with
  |false=>
   rw[ze]
   exact hJ _ (by unfold aT;rw[hA];exact KeysOf.nil)
  |true=>
   rw[zg,confOk_spec N hM (by omega) c oc,za]
   cases hc:okConf c with
   |false=>
    rw[ze]
    exact hJ _ (by unfold aT;rw[hA,hc];exact KeysOf.nil)
   |true=>
    rw[zg]
    have ha:=okAls_each hA
    refine Def.upto xs.length (fun i g=>∃es,KeysOf es (tmsA c (xs.take i))/\g=(xs,(xs.length:Int),(i:Int),c.1,c.2,es)) ?_ ?_ N 0 _ (zaf _) ⟨[],by rw[zbJ];exact KeysOf.nil,rfl⟩ (by omega)
    .rintro go _ ⟨es,h2,rfl⟩
     dsimp only
     rw[zd (zm _),ze]
     rw[zq]at h2
     exact hJ _ (by unfold aT;rw[hA,hc];exact h2)
    .rintro go i _ hi ⟨es,h2,rfl⟩ hgo
     dsimp only
     have hm:=zr hi
     rw[zb (by omega:(i:Int)<xs.length),zg,idx_at hi,za]
     refine Def.bind (gather_def N hM hN c oc hc 4 N (by omega) xs[i].2 (hx _ hm).2 (ha.2 _ hm).2 es _ h2) fun r hr=>?_
     rw[zf (fits_nat (n:=i) (by omega))]
     refine hgo _ ⟨r,?_,by rw[cast_succ']⟩
     rw[tmsA_succ c xs hi]
     exact hr
end Go.Proofs.YtbjikaianmpngaaDoor
