/- What the listed package variable, a map, reads as, told of memory. -/
import Derived.Test.YtbjikaianmpngaaDoorRd
import Derived.Test.YtbjikaianmpngaaDoorCards
import Derived.Test.YtbjikaianmpngaaDoorTie
import Derived.ProofKit
import Derived.LaidMore
import Derived.OpenShut
import Derived.Stop.Joined
import Derived.ChangeKeys
set_option linter.unusedSimpArgs false
set_option linter.unusedVariables false
namespace Go.Proofs.YtbjikaianmpngaaDoor
open Go.ChangeShapes Go.WideShapes Go.ChangeAt Go.WideMaps Go.WideElems Go.RowKit
abbrev jby :List (String×DataW Unit):=[("loop.example/fossick/impl.shapes",Rows.laid_loop_example_fossick_impl_shapes)]
theorem jhU :Tryd.prog.globalNamed "loop.example/fossick/impl.shapes" =some 0:=by kernel_rfl
theorem jf9 :(Tryd.prog.globals[0]?).map (·.type)=some 97:=by kernel_rfl
theorem jqf (os:Os) (args:Array Value):laidMetH Tryd.prog jby ((World.doorLaid Tryd.prog 400 os).forCall (fun _ _=>0) ⟨#[],args,[]⟩).memory:=
 laidMetH_of_parts3 (fuel:=8) (laidMet_of_run' 8 (by kernel_rfl) (by kernel_rfl)) (by kernel_rfl) (by kernel_rfl)
abbrev shT :Tp:=.pair .bool (.pair (.int .i64) (.pair (.int .i64) (.pair (.int .i64) (.pair (.int .i64) (.pair .bool (.pair (.int .i64) (.int .i64)))))))
abbrev LSh :Type:=Bool×Int×Int×Int×Int×Bool×Int×Int
def jzw (x:LSh):DataW Unit:=.agg [.lit (.bool x.1),.lit (.int .i64 x.2.1),.lit (.int .i64 x.2.2.1),.lit (.int .i64 x.2.2.2.1),.lit (.int .i64 x.2.2.2.2.1),.lit (.bool x.2.2.2.2.2.1),.lit (.int .i64 x.2.2.2.2.2.2.1),.lit (.int .i64 x.2.2.2.2.2.2.2)]
def jyh (p:Int×LSh):Lit×DataW Unit:=(.int .i64 p.1,jzw p.2)
def jA2 :DataW Unit->LSh
 | .agg [.lit (.bool a),.lit (.int _ b),.lit (.int _ c),.lit (.int _ d),.lit (.int _ e),.lit (.bool f),.lit (.int _ g),.lit (.int _ h)]=>(a,b,c,d,e,f,g,h)
 |_=>(false,0,0,0,0,false,0,0)
def jz0 :Lit×DataW Unit->Int×LSh
 |(.int _ n,d)=>(n,jA2 d)
 |_=>(0,false,0,0,0,0,false,0,0)
theorem jzf (l:List (Int×LSh)):(l.map jyh).map jz0=l:=by
 rw[List.map_map]
 exact(List.map_congr_left (fun p _=>rfl)).trans (List.map_id l)
theorem jzS {Y β γ δ:Type} {f1:Y->γ} {g1:β->γ} {f2:Y->δ} {g2:β->δ}:∀l:List Y,(∀x,x∈l->∃p,f1 x=g1 p/\f2 x=g2 p)->∃ps:List β,l.map f1=ps.map g1/\l.map f2=ps.map g2
 | [],_=>⟨[],rfl,rfl⟩
 |x::l,h=>by
  obtain⟨p,h1,h2⟩:=h x (by simp)
  obtain⟨ps,h3,h4⟩:=jzS l fun y hy=>h y (by simp[hy])
  exact⟨p::ps,by simp[h1,h3],by simp[h2,h4]⟩
theorem jzY {V:Type} (l:List (Int×V)) (k:Int) (v:V) (hd:l.Pairwise fun a b=>a.1≠b.1):((l.find? fun e=>decide (k=e.1)).map (·.2))=some v↔(k,v)∈l:=by
 induction l with
 |nil=>simp
 |cons e l ih=>
  obtain⟨h1,h2⟩:=zas.1 hd
  by_cases hk:k=e.1
  .subst hk
   simp only[List.find?,decide_true,zbn,zaE,zp]
   constructor
   .rintro rfl;exact .inl rfl
   .rintro (h|h)
    .rw [<-h]
    .exact absurd rfl (h1 (e.1,v) h)
  .simp only [List.find?,zd hk,zp]
   rw[ih h2]
   constructor
   .exact .inr
   .rintro (h|h)
    .exact absurd (by rw[<-h]) hk
    .exact h
theorem jCV {V:Type} {l l':List (Int×V)} (hp:l'.Perm l) (hd:l.Pairwise fun a b=>a.1≠b.1) (k:Int):((l'.find? fun e=>decide (k=e.1)).map (·.2))=((l.find? fun e=>decide (k=e.1)).map (·.2)):=by
 have hd':=(hp.pairwise_iff (fun h=>Ne.symm h)).2 hd
 apply Option.ext
 intro v
 rw[jzY l' k v hd',jzY l k v hd,hp.mem_iff]
set_option maxRecDepth 100000 in
theorem jDW {ec:TypeId×Value->Unit} {W:World} {sp:Nat->Bool} {n:Nat} {v:Value} {z:DataW Unit×List MemPlace} (h:elemAt ec Tryd.prog W 0 sp false n 95 v=some z):∃x:LSh,v=rowV true shT x/\z.1=jzw x:=by
 unfold elemAt at h
 split at h
 case isFalse=>cases h
 rename_i hf
 have hv:∃cs,v= .agg cs:=by
  unfold Value.formed at hf
  rw[Tryd.underlying95]at hf
  cases v<;>simp at hf
  exact⟨_,rfl⟩
 obtain⟨⟨l⟩,rfl⟩:=hv
 have h':DataW.trod ec Tryd.prog W 0 sp false n 95 l=some z:=h
 obtain⟨ys,m,_,hz,hl,hn,hf⟩:=DataW.trod_struct Tryd.underlying95 h'
 rw[show Tryd.prog.cellsOf 95=8 from by kernel_rfl]at hl
 have cb:Tryd.prog.cellsOf 4=1:=by kernel_rfl
 have ci:Tryd.prog.cellsOf 3=1:=by kernel_rfl
 match l,hl with
 | [c0,c1,c2,c3,c4,c5,c6,c7],_=>
  match ys,hn with
  | [y0,y1,y2,y3,y4,y5,y6,y7],_=>
   have g0:DataW.trod ec Tryd.prog W 0 sp false m 4 [c0]=some y0:=by simpa[cb]using hf 0 _ rfl
   obtain⟨b0,a0,d0⟩:=DataW.trod_bool Tryd.underlying4 g0
   have g1:DataW.trod ec Tryd.prog W 0 sp false m 3 [c1]=some y1:=by simpa[ci]using hf 1 _ rfl
   obtain⟨b1,a1,d1,_⟩:=DataW.trod_int Tryd.underlying3 g1
   have g2:DataW.trod ec Tryd.prog W 0 sp false m 3 [c2]=some y2:=by simpa[ci]using hf 2 _ rfl
   obtain⟨b2,a2,d2,_⟩:=DataW.trod_int Tryd.underlying3 g2
   have g3:DataW.trod ec Tryd.prog W 0 sp false m 3 [c3]=some y3:=by simpa[ci]using hf 3 _ rfl
   obtain⟨b3,a3,d3,_⟩:=DataW.trod_int Tryd.underlying3 g3
   have g4:DataW.trod ec Tryd.prog W 0 sp false m 3 [c4]=some y4:=by simpa[ci]using hf 4 _ rfl
   obtain⟨b4,a4,d4,_⟩:=DataW.trod_int Tryd.underlying3 g4
   have g5:DataW.trod ec Tryd.prog W 0 sp false m 4 [c5]=some y5:=by simpa[cb]using hf 5 _ rfl
   obtain⟨b5,a5,d5⟩:=DataW.trod_bool Tryd.underlying4 g5
   have g6:DataW.trod ec Tryd.prog W 0 sp false m 3 [c6]=some y6:=by simpa[ci]using hf 6 _ rfl
   obtain⟨b6,a6,d6,_⟩:=DataW.trod_int Tryd.underlying3 g6
   have g7:DataW.trod ec Tryd.prog W 0 sp false m 3 [c7]=some y7:=by simpa[ci]using hf 7 _ rfl
   obtain⟨b7,a7,d7,_⟩:=DataW.trod_int Tryd.underlying3 g7
   refine⟨(b0,b1,b2,b3,b4,b5,b6,b7),?_,?_⟩
   .cases a0;cases a1;cases a2;cases a3;cases a4;cases a5;cases a6;cases a7
    rfl
   .rw [hz]
    subst d0;subst d1;subst d2;subst d3;subst d4;subst d5;subst d6;subst d7
    rfl
set_option maxRecDepth 100000 in
theorem jnO {W:World} (h:laidMetH Tryd.prog jby W):GlobOk W (fun _=>False) (WS W):=by
 rw[MakeChecks.laidMetH_plain _ _ _ (by kernel_rfl)]at h
 obtain⟨ps,⟨g0,t0,cs0,f0,p0,q0,hg0,ht0,hv0,hd0,_⟩,_,_⟩:=h
 obtain rfl:=Option.some.inj (jhU.symm.trans hg0)
 obtain rfl:=Option.some.inj (jf9.symm.trans ht0)
 rcases Go.WideElems.open_map Tryd.underlying97 hd0 with⟨_,hx⟩|⟨bm,es,clock,m,rfl,hcs,hb,_,F,hx⟩
 .exact absurd (congrArg Prod.fst hx) (fun e=>by cases e)
 have hc:∀j,W.cell? ⟨0,j,none⟩=cs0[j]? :=World.var?_cell hg0 hv0
 have hcell:W.cell? ⟨0,0,none⟩=some (.map (some bm)):=by rw[hc,<-zaN,hcs];rfl
 have hlt:0<W.heap.size:=lt_of_cell (o:=0) hcell
 obtain⟨ps,e1,e2⟩:=jzS (f1:=fun e:MapEntry=>(e.key,e.val)) (g1:=fun x:Int×LSh=>(litV (.int .i64) x.1,rowV true shT x.2)) (f2:=WideElems.rg Tryd.prog 3 (elemAt (fun _=>()) Tryd.prog W 0 (fun _=>true) false m 95)) (g2:=jyh) es.toList (fun x hx=>by
  obtain⟨y,hy⟩:=F.reads x hx
  have k1:=rd_key hy
  obtain⟨z,hz,e⟩:=rd_val hy
  obtain⟨s,hs1,hs2⟩:=jDW hz
  rw[keyOf_int Tryd.underlying3]at k1
  unfold mapKey at k1
  rw[Tryd.underlying3]at k1
  have hk:∃n,x.key= .int .i64 n/\y.1= .int .i64 n:=by
   cases hkk:x.key<;>rw[hkk]at k1<;>simp at k1
   obtain⟨⟨rfl,_⟩,hk2⟩:=k1
   exact⟨_,rfl,hk2.symm⟩
  obtain⟨n,hk1,hk2⟩:=hk
  refine⟨(n,s),?_,?_⟩
  .show (x.key,x.val)=_
   rw[hk1,hs1]
   rfl
  .rw [rg_of hy]
   show y=_
   obtain⟨yk,yd⟩:=y
   dsimp only at hk2 e
   subst hk2;subst e
   rw[hs2]
   rfl)
 have hL:gm_shapes.map jyh=(es.toList.map (WideElems.rg Tryd.prog 3 (elemAt (fun _=>()) Tryd.prog W 0 (fun _=>true) false m 95))).foldr DataW.insert []:=
  DataW.map.inj (show DataW.map (gm_shapes.map jyh)=_ from congrArg Prod.fst hx)
 have hp:ps.Perm gm_shapes:=by
  have h1:=sorted_perm (es.toList.map (WideElems.rg Tryd.prog 3 (elemAt (fun _=>()) Tryd.prog W 0 (fun _=>true) false m 95)))
  rw[<-hL,e2]at h1
  have h2:=h1.symm.map jz0
  rwa[jzf,jzf]at h2
 intro g f hf
 have hg:g=0/\f= .map (.int .i64) shT true gm_shapes:=by
  unfold gtab lookG at hf
  cases hb:Nat.beq 0 g with
  |true=>
   rw[hb]at hf
   exact⟨(zby hb).symm,(Option.some.inj hf).symm⟩
  |false=>
   rw[hb]at hf
   cases hf
 obtain⟨rfl,rfl⟩:=hg
 exact⟨hlt,bm,es,clock,ps,hcell,hb,⟨e1,hp,fun k=>jCV hp (by decide) k⟩,fun h=>h⟩
theorem jsc {P:Program} {W W':World} {n:String} {g:Nat} {cs:Array Value} (hg:P.globalNamed n=some g) (h:W.var? P n=some cs) (hb:Below W.heap.size W W'):W'.var? P n=some cs:=by
 simp only[World.var?,hg,za]at h⊢
 have hlt:g<W.heap.size:=by
  cases hh:W.heap[g]? with
  |none=>rw[hh]at h;cases h
  |some o=>exact(zaU.1 hh).1
 rw[hb.block g hlt]
 exact h
end Go.Proofs.YtbjikaianmpngaaDoor
