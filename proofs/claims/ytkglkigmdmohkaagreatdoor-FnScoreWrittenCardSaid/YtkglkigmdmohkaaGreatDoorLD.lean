/- What is listed, told of memory: rows, two maps, tables of the library, its error values; a variable that holds some number by the world's shape. -/
import Derived.Test.YtkglkigmdmohkaaGreatDoorRd
import Derived.Test.YtkglkigmdmohkaaGreatDoorCards
import Derived.Test.YtkglkigmdmohkaaGreatDoorTie
import Derived.ProofKit
import Derived.Lib.LaidTab
import Derived.Lib.ItoaNum
import Derived.LaidMore
import Derived.Lay
import Derived.SevenTiedAt
import Derived.OpenShut
import Derived.Stop.Joined
import Derived.ChangeKeys
import Derived.Shelf.Vars
set_option linter.unusedSimpArgs false
set_option linter.unusedVariables false
namespace Go.Proofs.YtkglkigmdmohkaaGreatDoor
open Go.ChangeShapes Go.WideShapes Go.ChangeAt Go.WideMaps Go.WideElems Go.RowKit
abbrev jby :List (String×DataW Unit):=[("math/bits.deBruijn32tab",Rows.laid_math_bits_deBruijn32tab),("math/bits.deBruijn64tab",Rows.laid_math_bits_deBruijn64tab),("internal/strconv.uint64pow10",Rows.laid_internal_strconv_uint64pow10),("unicode/utf8.acceptRanges",Rows.laid_unicode_utf8_acceptRanges),("strconv.ErrRange",Rows.laid_strconv_ErrRange),("strconv.ErrSyntax",Rows.laid_strconv_ErrSyntax),("loop.example/fossick/impl.none",Rows.laid_loop_example_fossick_impl_none),("loop.example/fossick/impl.shapes",Rows.laid_loop_example_fossick_impl_shapes),("loop.example/fossick/impl.opNames",Rows.laid_loop_example_fossick_impl_opNames),("unicode/utf8.first",Rows.laid_unicode_utf8_first)]
theorem gOps :Tryz.prog.globalNamed "loop.example/fossick/impl.opNames" =some 0:=by kernel_rfl
theorem tOps :(Tryz.prog.globals[0]?).map (·.type)=some 89:=by kernel_rfl
theorem gTab :Tryz.prog.globalNamed "internal/strconv.uint64pow10" =some 6:=by kernel_rfl
theorem tTab :(Tryz.prog.globals[6]?).map (·.type)=some 237:=by kernel_rfl
theorem jhU :Tryz.prog.globalNamed "loop.example/fossick/impl.none" =some 2:=by kernel_rfl
theorem jf9 :(Tryz.prog.globals[2]?).map (·.type)=some 129:=by kernel_rfl
theorem gMap :Tryz.prog.globalNamed "loop.example/fossick/impl.shapes" =some 1:=by kernel_rfl
theorem tMap :(Tryz.prog.globals[1]?).map (·.type)=some 126:=by kernel_rfl
theorem jXN :Tryz.prog.globalNamed "strconv.ErrRange" =some 5:=by kernel_rfl
theorem jYf :(Tryz.prog.globals[5]?).map (·.type)=some 142:=by kernel_rfl
theorem jXO :Tryz.prog.globalNamed "strconv.ErrSyntax" =some 4:=by kernel_rfl
theorem jYc :(Tryz.prog.globals[4]?).map (·.type)=some 142:=by kernel_rfl
abbrev j40 :List String:=["math/bits.deBruijn32tab", "math/bits.deBruijn64tab", "internal/strconv.uint64pow10", "unicode/utf8.acceptRanges", "strconv.ErrRange", "strconv.ErrSyntax", "loop.example/fossick/impl.none", "unicode/utf8.first"]
noncomputable def witW (os:Os):World:=(World.doorLaid Tryz.prog 400 os).layVars Tryz.prog (jby.filter fun x=>j40.contains x.1)
noncomputable def witB (os:Os):List Nat:=(List.range (World.doorLaid Tryz.prog 400 os).heap.size).filter fun k=> !([9,10,6,8,5,4,2,7]:List Nat).contains k
theorem jqf (os:Os) (args:Array Value):laidMetH Tryz.prog jby ((witW os).forCall (fun _ _=>0) ⟨#[],args,[]⟩).memory:=by
 rw[MakeChecks.laidMetH_plain _ _ _ (by kernel_rfl)]
 have h:laidMet Tryz.prog jby (witW os):=laidMet_layVars (w0:=World.doorLaid Tryz.prog 400 os) j40 (witB os) rfl (by kernel_rfl) (by kernel_rfl) (LaidIn.of_run (witB os) 8 (by kernel_rfl) (by kernel_rfl) (by kernel_rfl) (by kernel_rfl))
 exact h.of_heap (by simp[World.memory,World.forCall,Input.heap])
theorem jCT {H:Type} {enc:TypeId×Value->H} {P:Program} {w:World} {spare:Nat->Bool} {n0 n1:String} {g0 g1:Nat} {t0 t1:TypeId} {cs0 cs1:Array Value} {f0 f1:Nat} {d0 d1:DataW H} {p0 p1:List MemPlace} (h1:P.globalNamed n0=some g0) (h2:(P.globals[g0]?).map (·.type)=some t0) (h3:w.var? P n0=some cs0)
  (h4:DataW.trod enc P w 0 spare true f0 t0 cs0.toList=some (d0,p0)) (k1:P.globalNamed n1=some g1) (k2:(P.globals[g1]?).map (·.type)=some t1) (k3:w.var? P n1=some cs1)
  (k4:DataW.trod enc P w 0 spare true f1 t1 cs1.toList=some (d1,p1)):DataW.TrodVars enc P w spare [n0,n1] [d0,d1] (MemPlace.row ⟨g0,0,none⟩ cs0.size++p0++(MemPlace.row ⟨g1,0,none⟩ cs1.size++p1)):=
 ⟨g0,t0,cs0,f0,p0,_,h1,h2,h3,h4,trodVars_mk1 k1 k2 k3 k4,rfl⟩
theorem jO6 {H:Type} {enc:TypeId×Value->H} {P:Program} {w:World} {spare:Nat->Bool} {n0 n1 n2:String} {gs:List (DataW H)} {ps:List MemPlace} (h:DataW.TrodVars enc P w spare [n0,n1,n2] gs ps):
  ∃g0 t0 cs0 f0 d0 p0 g1 t1 cs1 f1 d1 p1 g2 t2 cs2 f2 d2 p2,gs=[d0,d1,d2]/\P.globalNamed n0=some g0/\(P.globals[g0]?).map (·.type)=some t0/\w.var? P n0=some cs0/\DataW.trod enc P w 0 spare true f0 t0 cs0.toList=some (d0,p0)/\
   P.globalNamed n1=some g1/\(P.globals[g1]?).map (·.type)=some t1/\w.var? P n1=some cs1/\DataW.trod enc P w 0 spare true f1 t1 cs1.toList=some (d1,p1)/\
   P.globalNamed n2=some g2/\(P.globals[g2]?).map (·.type)=some t2/\w.var? P n2=some cs2/\DataW.trod enc P w 0 spare true f2 t2 cs2.toList=some (d2,p2)/\
   ps=MemPlace.row ⟨g0,0,none⟩ cs0.size++p0++(MemPlace.row ⟨g1,0,none⟩ cs1.size++p1++(MemPlace.row ⟨g2,0,none⟩ cs2.size++p2)):=by
 cases gs with
 |nil=>simp[DataW.TrodVars]at h
 |cons d ds=>
  obtain⟨g0,t0,cs0,f0,p0,q0,h1,h2,h3,h4,hs,e⟩:=h
  obtain⟨g1,t1,cs1,f1,d1,p1,g2,t2,cs2,f2,d2,p2,rfl,k1,k2,k3,k4,l1,l2,l3,l4,rfl⟩:=trodVars_two hs
  exact⟨g0,t0,cs0,f0,d,p0,g1,t1,cs1,f1,d1,p1,g2,t2,cs2,f2,d2,p2,rfl,h1,h2,h3,h4,k1,k2,k3,k4,l1,l2,l3,l4,e⟩
theorem jPd {H:Type} {enc:TypeId×Value->H} {P:Program} {w:World} {spare:Nat->Bool} {n0 n1 n2:String} {g0 g1 g2:Nat} {t0 t1 t2:TypeId} {cs0 cs1 cs2:Array Value} {f0 f1 f2:Nat} {d0 d1 d2:DataW H} {p0 p1 p2:List MemPlace} (h1:P.globalNamed n0=some g0) (h2:(P.globals[g0]?).map (·.type)=some t0) (h3:w.var? P n0=some cs0)
  (h4:DataW.trod enc P w 0 spare true f0 t0 cs0.toList=some (d0,p0)) (k1:P.globalNamed n1=some g1) (k2:(P.globals[g1]?).map (·.type)=some t1) (k3:w.var? P n1=some cs1)
  (k4:DataW.trod enc P w 0 spare true f1 t1 cs1.toList=some (d1,p1)) (l1:P.globalNamed n2=some g2) (l2:(P.globals[g2]?).map (·.type)=some t2) (l3:w.var? P n2=some cs2)
  (l4:DataW.trod enc P w 0 spare true f2 t2 cs2.toList=some (d2,p2)):DataW.TrodVars enc P w spare [n0,n1,n2] [d0,d1,d2] (MemPlace.row ⟨g0,0,none⟩ cs0.size++p0++(MemPlace.row ⟨g1,0,none⟩ cs1.size++p1++(MemPlace.row ⟨g2,0,none⟩ cs2.size++p2))):=
 ⟨g0,t0,cs0,f0,p0,_,h1,h2,h3,h4,jCT k1 k2 k3 k4 l1 l2 l3 l4,rfl⟩
abbrev shT :Tp:=.pair .bool (.pair (.int .i64) (.pair (.int .i64) (.pair (.int .i64) (.pair (.int .i64) (.pair .bool (.pair (.int .i64) (.int .i64)))))))
abbrev LSh :Type:=Bool×Int×Int×Int×Int×Bool×Int×Int
def jzw (x:LSh):DataW Unit:=.agg [.lit (.bool x.1),.lit (.int .i64 x.2.1),.lit (.int .i64 x.2.2.1),.lit (.int .i64 x.2.2.2.1),.lit (.int .i64 x.2.2.2.2.1),.lit (.bool x.2.2.2.2.2.1),.lit (.int .i64 x.2.2.2.2.2.2.1),.lit (.int .i64 x.2.2.2.2.2.2.2)]
def jyh (p:Int×LSh):Lit×DataW Unit:=(.int .i64 p.1,jzw p.2)
def jA2 :DataW Unit->LSh
 | .agg [.lit (.bool a),.lit (.int _ b),.lit (.int _ c),.lit (.int _ d),.lit (.int _ e),.lit (.bool f),.lit (.int _ g),.lit (.int _ h)]=>(a,b,c,d,e,f,g,h)
 |_=>(false,0,0,0,0,false,0,0)
def jz0 :Lit×DataW Unit->Int×LSh
 |(.int _ n,d)=>(n,jA2 d)
 |_=>(0,false,0,0,0,0,false,0,0)
theorem jzf (l:List (Int×LSh)):(l.map jyh).map jz0=l:=by
 rw[zbO]
 exact(za0 (fun p _=>rfl)).trans (List.map_id l)
theorem jzS {α β γ δ:Type} {f1:α->γ} {g1:β->γ} {f2:α->δ} {g2:β->δ}:∀l:List α,(∀x,x∈l->∃p,f1 x=g1 p/\f2 x=g2 p)->∃ps:List β,l.map f1=ps.map g1/\l.map f2=ps.map g2
 | [],_=>⟨[],rfl,rfl⟩
 |x::l,h=>by
  obtain⟨p,h1,h2⟩:=h x (by simp)
  obtain⟨ps,h3,h4⟩:=jzS l fun y hy=>h y (by simp[hy])
  exact⟨p::ps,by simp[h1,h3],by simp[h2,h4]⟩
theorem jzY {V:Type} (l:List (Int×V)) (k:Int) (v:V) (hd:l.Pairwise fun a b=>a.1≠b.1):((l.find? fun e=>decide (k=e.1)).map (·.2))=some v↔(k,v)∈l:=by
 induction l with
 |nil=>simp
 |cons e l ih=>
  obtain⟨h1,h2⟩:=zas.1 hd
  by_cases hk:k=e.1
  .subst hk
   simp only[List.find?,decide_true,zbn,zaE,zp]
   constructor
   .rintro rfl;exact .inl rfl
   .rintro (h|h)
    .rw [<-h]
    .exact absurd rfl (h1 (e.1,v) h)
  .simp only [List.find?,zd hk,zp]
   rw[ih h2]
   constructor
   .exact .inr
   .rintro (h|h)
    .exact absurd (by rw[<-h]) hk
    .exact h
theorem jCV {V:Type} {l l':List (Int×V)} (hp:l'.Perm l) (hd:l.Pairwise fun a b=>a.1≠b.1) (k:Int):((l'.find? fun e=>decide (k=e.1)).map (·.2))=((l.find? fun e=>decide (k=e.1)).map (·.2)):=by
 have hd':=(hp.pairwise_iff (fun h=>Ne.symm h)).2 hd
 apply Option.ext
 intro v
 rw[jzY l' k v hd',jzY l k v hd,hp.mem_iff]
set_option maxRecDepth 100000 in
theorem jDW {ec:TypeId×Value->Unit} {W:World} {sp:Nat->Bool} {n:Nat} {v:Value} {z:DataW Unit×List MemPlace} (h:elemAt ec Tryz.prog W 0 sp false n 124 v=some z):∃x:LSh,v=rowV true shT x/\z.1=jzw x:=by
 unfold elemAt at h
 split at h
 case isFalse=>cases h
 rename_i hf
 have hv:∃cs,v= .agg cs:=by
  unfold Value.formed at hf
  rw[Tryz.underlying124]at hf
  cases v<;>simp at hf
  exact⟨_,rfl⟩
 obtain⟨⟨l⟩,rfl⟩:=hv
 have h':DataW.trod ec Tryz.prog W 0 sp false n 124 l=some z:=h
 obtain⟨ys,m,_,hz,hl,hn,hf⟩:=DataW.trod_struct Tryz.underlying124 h'
 rw[show Tryz.prog.cellsOf 124=8 from by kernel_rfl]at hl
 have cb:Tryz.prog.cellsOf 4=1:=by kernel_rfl
 have ci:Tryz.prog.cellsOf 3=1:=by kernel_rfl
 match l,hl with
 | [c0,c1,c2,c3,c4,c5,c6,c7],_=>
  match ys,hn with
  | [y0,y1,y2,y3,y4,y5,y6,y7],_=>
   have g0:DataW.trod ec Tryz.prog W 0 sp false m 4 [c0]=some y0:=by simpa[cb]using hf 0 _ rfl
   obtain⟨b0,a0,d0⟩:=DataW.trod_bool Tryz.underlying4 g0
   have g1:DataW.trod ec Tryz.prog W 0 sp false m 3 [c1]=some y1:=by simpa[ci]using hf 1 _ rfl
   obtain⟨b1,a1,d1,_⟩:=DataW.trod_int Tryz.underlying3 g1
   have g2:DataW.trod ec Tryz.prog W 0 sp false m 3 [c2]=some y2:=by simpa[ci]using hf 2 _ rfl
   obtain⟨b2,a2,d2,_⟩:=DataW.trod_int Tryz.underlying3 g2
   have g3:DataW.trod ec Tryz.prog W 0 sp false m 3 [c3]=some y3:=by simpa[ci]using hf 3 _ rfl
   obtain⟨b3,a3,d3,_⟩:=DataW.trod_int Tryz.underlying3 g3
   have g4:DataW.trod ec Tryz.prog W 0 sp false m 3 [c4]=some y4:=by simpa[ci]using hf 4 _ rfl
   obtain⟨b4,a4,d4,_⟩:=DataW.trod_int Tryz.underlying3 g4
   have g5:DataW.trod ec Tryz.prog W 0 sp false m 4 [c5]=some y5:=by simpa[cb]using hf 5 _ rfl
   obtain⟨b5,a5,d5⟩:=DataW.trod_bool Tryz.underlying4 g5
   have g6:DataW.trod ec Tryz.prog W 0 sp false m 3 [c6]=some y6:=by simpa[ci]using hf 6 _ rfl
   obtain⟨b6,a6,d6,_⟩:=DataW.trod_int Tryz.underlying3 g6
   have g7:DataW.trod ec Tryz.prog W 0 sp false m 3 [c7]=some y7:=by simpa[ci]using hf 7 _ rfl
   obtain⟨b7,a7,d7,_⟩:=DataW.trod_int Tryz.underlying3 g7
   refine⟨(b0,b1,b2,b3,b4,b5,b6,b7),?_,?_⟩
   .cases a0;cases a1;cases a2;cases a3;cases a4;cases a5;cases a6;cases a7
    rfl
   .rw [hz]
    subst d0;subst d1;subst d2;subst d3;subst d4;subst d5;subst d6;subst d7
    rfl
set_option maxRecDepth 100000 in
theorem jDw {W:World} {cs0:Array Value} {f0:Nat} {p0:List MemPlace} (hv0:W.var? Tryz.prog "loop.example/fossick/impl.shapes" =some cs0) (hd0:DataW.trod (fun _=>()) Tryz.prog W 0 (fun _=>true) false f0 126 cs0.toList=some (Rows.laid_loop_example_fossick_impl_shapes,p0)):∃e:Nat×Array MapEntry×Nat,∀G:Ords,G 1=e->GFOk G W (fun _=>False) (WS W) 1 (.map (.int .i64) shT true gm_shapes):=by
 have hg0:=gMap
 rcases Go.WideElems.open_map Tryz.underlying126 hd0 with⟨_,hx⟩|⟨bm,es,clock,m,rfl,hcs,hb,_,F,hx⟩
 .exact absurd (congrArg Prod.fst hx) (fun e=>by cases e)
 have hc:∀j,W.cell? ⟨1,j,none⟩=cs0[j]? :=World.var?_cell hg0 hv0
 have hcell:W.cell? ⟨1,0,none⟩=some (.map (some bm)):=by rw[hc,<-zaN,hcs];rfl
 have hlt:1<W.heap.size:=lt_of_cell (o:=0) hcell
 obtain⟨ps,e1,e2⟩:=jzS (f1:=fun e:MapEntry=>(e.key,e.val)) (g1:=fun x:Int×LSh=>(litV (.int .i64) x.1,rowV true shT x.2)) (f2:=WideElems.rg Tryz.prog 3 (elemAt (fun _=>()) Tryz.prog W 0 (fun _=>true) false m 124)) (g2:=jyh) es.toList (fun x hx=>by
  obtain⟨y,hy⟩:=F.reads x hx
  have k1:=rd_key hy
  obtain⟨z,hz,e⟩:=rd_val hy
  obtain⟨s,hs1,hs2⟩:=jDW hz
  rw[keyOf_int Tryz.underlying3]at k1
  unfold mapKey at k1
  rw[Tryz.underlying3]at k1
  have hk:∃n,x.key= .int .i64 n/\y.1= .int .i64 n:=by
   cases hkk:x.key<;>rw[hkk]at k1<;>simp at k1
   obtain⟨⟨rfl,_⟩,hk2⟩:=k1
   exact⟨_,rfl,hk2.symm⟩
  obtain⟨n,hk1,hk2⟩:=hk
  refine⟨(n,s),?_,?_⟩
  .show (x.key,x.val)=_
   rw[hk1,hs1]
   rfl
  .rw [rg_of hy]
   show y=_
   obtain⟨yk,yd⟩:=y
   dsimp only at hk2 e
   subst hk2;subst e
   rw[hs2]
   rfl)
 have hL:gm_shapes.map jyh=(es.toList.map (WideElems.rg Tryz.prog 3 (elemAt (fun _=>()) Tryz.prog W 0 (fun _=>true) false m 124))).foldr DataW.insert []:=
  DataW.map.inj (show DataW.map (gm_shapes.map jyh)=_ from congrArg Prod.fst hx)
 have hp:ps.Perm gm_shapes:=by
  have h1:=sorted_perm (es.toList.map (WideElems.rg Tryz.prog 3 (elemAt (fun _=>()) Tryz.prog W 0 (fun _=>true) false m 124)))
  rw[<-hL,e2]at h1
  have h2:=h1.symm.map jz0
  rwa[jzf,jzf]at h2
 exact⟨(bm,es,clock),fun G hG=>⟨hlt,bm,es,clock,ps,hcell,hb,⟨e1,hp,fun k=>jCV hp (by decide) k⟩,(fun h=>h),hG,F.stamped⟩⟩
def jOq (p:Int×List UInt8):Lit×DataW Unit:=(.int .i64 p.1,.lit (.string p.2))
def jOA :Lit×DataW Unit->Int×List UInt8
 |(.int _ n,.lit (.string s))=>(n,s)
 |(.int _ n,_)=>(n,[])
 |_=>(0,[])
theorem jOG (l:List (Int×List UInt8)):(l.map jOq).map jOA=l:=by
 rw[zbO]
 exact(za0 (fun p _=>rfl)).trans (List.map_id l)
set_option maxRecDepth 100000 in
theorem jPm {ec:TypeId×Value->Unit} {W:World} {sp:Nat->Bool} {n:Nat} {v:Value} {z:DataW Unit×List MemPlace} (h:elemAt ec Tryz.prog W 0 sp false n 9 v=some z):∃x:List UInt8,v=rowV false .str x/\z.1= .lit (.string x):=by
 unfold elemAt at h
 split at h
 case isFalse=>cases h
 rename_i hf
 obtain⟨s',e,hz,_⟩:=DataW.trod_string Tryz.underlying9 h
 have hv:v= .string s':=by
  cases v
  case agg cs=>
   unfold Value.formed at hf
   rw[Tryz.underlying9]at hf
   simp at hf
  all_goals exact List.head_eq_of_cons_eq e
 subst hv
 subst hz
 exact⟨s'.data.toList,rfl,rfl⟩
set_option maxRecDepth 100000 in
theorem jO1 {W:World} {cs0:Array Value} {f0:Nat} {p0:List MemPlace} (hv0:W.var? Tryz.prog "loop.example/fossick/impl.opNames" =some cs0) (hd0:DataW.trod (fun _=>()) Tryz.prog W 0 (fun _=>true) false f0 89 cs0.toList=some (Rows.laid_loop_example_fossick_impl_opNames,p0)):∃e:Nat×Array MapEntry×Nat,∀G:Ords,G 0=e->GFOk G W (fun _=>False) (WS W) 0 (.map (.int .i64) .str false gm_opNames):=by
 have hg0:=gOps
 rcases Go.WideElems.open_map Tryz.underlying89 hd0 with⟨_,hx⟩|⟨bm,es,clock,m,rfl,hcs,hb,_,F,hx⟩
 .exact absurd (congrArg Prod.fst hx) (fun e=>by cases e)
 have hc:∀j,W.cell? ⟨0,j,none⟩=cs0[j]? :=World.var?_cell hg0 hv0
 have hcell:W.cell? ⟨0,0,none⟩=some (.map (some bm)):=by rw[hc,<-zaN,hcs];rfl
 have hlt:0<W.heap.size:=lt_of_cell (o:=0) hcell
 obtain⟨ps,e1,e2⟩:=jzS (f1:=fun e:MapEntry=>(e.key,e.val)) (g1:=fun x:Int×List UInt8=>(litV (.int .i64) x.1,rowV false .str x.2)) (f2:=WideElems.rg Tryz.prog 3 (elemAt (fun _=>()) Tryz.prog W 0 (fun _=>true) false m 9)) (g2:=jOq) es.toList (fun x hx=>by
  obtain⟨y,hy⟩:=F.reads x hx
  have k1:=rd_key hy
  obtain⟨z,hz,e⟩:=rd_val hy
  obtain⟨s,hs1,hs2⟩:=jPm hz
  rw[keyOf_int Tryz.underlying3]at k1
  unfold mapKey at k1
  rw[Tryz.underlying3]at k1
  have hk:∃n,x.key= .int .i64 n/\y.1= .int .i64 n:=by
   cases hkk:x.key<;>rw[hkk]at k1<;>simp at k1
   obtain⟨⟨rfl,_⟩,hk2⟩:=k1
   exact⟨_,rfl,hk2.symm⟩
  obtain⟨n,hk1,hk2⟩:=hk
  refine⟨(n,s),?_,?_⟩
  .show (x.key,x.val)=_
   rw[hk1,hs1]
   rfl
  .rw [rg_of hy]
   show y=_
   obtain⟨yk,yd⟩:=y
   dsimp only at hk2 e
   subst hk2;subst e
   rw[hs2]
   rfl)
 have hL:gm_opNames.map jOq=(es.toList.map (WideElems.rg Tryz.prog 3 (elemAt (fun _=>()) Tryz.prog W 0 (fun _=>true) false m 9))).foldr DataW.insert []:=
  DataW.map.inj (show DataW.map (gm_opNames.map jOq)=_ from congrArg Prod.fst hx)
 have hp:ps.Perm gm_opNames:=by
  have h1:=sorted_perm (es.toList.map (WideElems.rg Tryz.prog 3 (elemAt (fun _=>()) Tryz.prog W 0 (fun _=>true) false m 9)))
  rw[<-hL,e2]at h1
  have h2:=h1.symm.map jOA
  rwa[jOG,jOG]at h2
 exact⟨(bm,es,clock),fun G hG=>⟨hlt,bm,es,clock,ps,hcell,hb,⟨e1,hp,fun k=>jCV hp (by decide) k⟩,(fun h=>h),hG,F.stamped⟩⟩
theorem jOR {G:Ords} {W:World} {cs0:Array Value} {f0:Nat} {p0:List MemPlace} (hv0:W.var? Tryz.prog "internal/strconv.uint64pow10" =some cs0) (hd0:DataW.trod (fun _=>()) Tryz.prog W 0 (fun _=>true) false f0 237 cs0.toList=some (Rows.laid_internal_strconv_uint64pow10,p0)):GFOk G W (fun _=>False) (WS W) 6 (.tab .u64 Lib.pow10Tab):=by
 have h1:=Lib.cells_of_tab (zs:=Lib.pow10Tab) (k:=.u64) Tryz.underlying237 Tryz.underlying205 (by kernel_rfl) (by kernel_rfl) (show DataW.trod (fun _=>()) Tryz.prog W 0 (fun _=>true) false f0 237 cs0.toList=some (Lib.tabData .u64 Lib.pow10Tab,p0)from hd0)
 have e:cs0=(Lib.pow10Tab.map fun z=>Value.int .u64 z).toArray:=Array.ext' (by rw[h1])
 subst e
 unfold World.var? at hv0
 rw[gTab,za]at hv0
 split at hv0
 .rename_i a b hh
  cases Option.some.inj hv0
  exact⟨⟨_,_,hh⟩,fun h=>h⟩
 .cases hv0
theorem jCJ {G:Ords} {W:World} {cs0:Array Value} {f0:Nat} {p0:List MemPlace} (hv0:W.var? Tryz.prog "loop.example/fossick/impl.none" =some cs0) (hd0:DataW.trod (fun _=>()) Tryz.prog W 0 (fun _=>true) false f0 129 cs0.toList=some (Rows.laid_loop_example_fossick_impl_none,p0)):GFOk G W (fun _=>False) (WS W) 2 (.row (.pair (.int .i64) (.int .i64)) ((0:Int),(1:Int))):=by
 have hg0:=jhU
 obtain⟨y0,y1,n,hx,hl,h0,h1⟩:=trod_struct2 Tryz.underlying129 hd0
 rw[show Tryz.prog.cellsOf 129=2 from by kernel_rfl]at hl
 obtain⟨c0,c1,e⟩:=len2 hl
 rw[e]at h0 h1
 have ci:Tryz.prog.cellsOf 3=1:=by kernel_rfl
 obtain⟨k0,a0,b0,_⟩:=DataW.trod_int Tryz.underlying3 (show DataW.trod _ Tryz.prog W 0 _ false n 3 [c0]=some y0 by simpa[ci]using h0)
 obtain⟨k1,a1,b1,_⟩:=DataW.trod_int Tryz.underlying3 (show DataW.trod _ Tryz.prog W 0 _ false n 3 [c1]=some y1 by simpa[ci]using h1)
 subst b0;subst b1
 cases a0;cases a1
 have hx1:=congrArg Prod.fst hx
 cases(show(DataW.agg [.lit (.int .i64 0),.lit (.int .i64 1)]:DataW Unit)= .agg [.lit (.int .i64 k0),.lit (.int .i64 k1)]from hx1)
 have hc:∀j,W.cell? ⟨2,j,none⟩=cs0[j]? :=World.var?_cell hg0 hv0
 have hcs:∀j,cs0[j]? =[Value.int .i64 0,.int .i64 1][j]? :=fun j=>by rw[<-zaN,e]
 have hlt:2<W.heap.size:=lt_of_cell (o:=0) (v:=.int .i64 0) (by rw[hc,hcs];rfl)
 show CellsAt W (WS W) _ 0 _
 intro j c hj
 have hj':[PV.int .i64 0,PV.int .i64 1][j]? =some c:=hj
 refine⟨hlt,?_⟩
 match j,hj' with
 |0,hj'=>cases hj';exact⟨_,by rw[hc,hcs];rfl,.int _ _⟩
 |1,hj'=>cases hj';exact⟨_,by rw[hc,hcs];rfl,.int _ _⟩
 |j+2,hj'=>simp at hj'
theorem jXK {G:Ords} {W:World} {n:String} {g:Nat} {cs0:Array Value} {f0:Nat} {p0:List MemPlace} {nm:String} {d:DataW Unit} (hg:Tryz.prog.globalNamed n=some g) (hv0:W.var? Tryz.prog n=some cs0) (hd0:DataW.trod (fun _=>()) Tryz.prog W 0 (fun _=>true) false f0 142 cs0.toList=some (.iface nm d,p0)):GFOk G W (fun _=>False) (WS W) g (.cell isErrV):=by
 obtain⟨f1,u,v,hcs,_,_⟩:=iface_of_trod Tryz.underlying142 hd0
 have h0:W.cell? ⟨g,0,none⟩=some (.iface u v):=by
  have h:=World.var?_cell hg hv0 0
  rw[<-zaN,hcs]at h
  simpa using h
 exact⟨⟨_,h0,.inr ⟨u,v,rfl⟩⟩,World.block_lt_of_cell? _ _ h0,fun h=>h⟩
theorem jYD {G:Ords} {W:World} (hsh:W.ShapedOpen Tryz.prog):GFOk G W (fun _=>False) (WS W) 3 (.cell isIntV):=by
 obtain⟨m,hm⟩:=cell_of_shapedOpen_int (zero:= #[.int .i64 0]) (t:=3) (g:=3) hsh (of_decide_eq_true (by kernel_rfl)) (by kernel_rfl) rfl (by kernel_rfl) (by kernel_rfl) Tryz.underlying3
 exact⟨⟨_,hm,m,rfl⟩,World.block_lt_of_cell? _ _ hm,fun h=>h⟩
set_option maxRecDepth 100000 in
theorem jnO {W:World} (h:laidMetH Tryz.prog jby W) (hsh:W.ShapedOpen Tryz.prog):∃G:Ords,GlobOk G W (fun _=>False) (WS W):=by
 rw[MakeChecks.laidMetH_plain _ _ _ (by kernel_rfl)]at h
 obtain⟨ps,⟨_,_,_,_,_,_,_,_,_,_,⟨_,_,_,_,_,_,_,_,_,_,⟨g3,t3,cs3,f3,p3,q3,hg3,ht3,hv3,hd3,⟨_,_,_,_,_,_,_,_,_,_,⟨g4,t4,cs4,f4,p4,q4,hg4,ht4,hv4,hd4,⟨g5,t5,cs5,f5,p5,q5,hg5,ht5,hv5,hd5,⟨g0,t0,cs0,f0,p0,q0,hg0,ht0,hv0,hd0,⟨g1,t1,cs1,f1,p1,q1,hg1,ht1,hv1,hd1,⟨g2,t2,cs2,f2,p2,q2,hg2,ht2,hv2,hd2,⟨_,_,_,_,_,_,_,_,_,_,_,_⟩,_⟩,_⟩,_⟩,_⟩,_⟩,_⟩,_⟩,_⟩,_⟩,_⟩:=h
 obtain rfl:=Option.some.inj (jhU.symm.trans hg0)
 obtain rfl:=Option.some.inj (jf9.symm.trans ht0)
 obtain rfl:=Option.some.inj (gMap.symm.trans hg1)
 obtain rfl:=Option.some.inj (tMap.symm.trans ht1)
 obtain rfl:=Option.some.inj (gOps.symm.trans hg2)
 obtain rfl:=Option.some.inj (tOps.symm.trans ht2)
 obtain rfl:=Option.some.inj (gTab.symm.trans hg3)
 obtain rfl:=Option.some.inj (tTab.symm.trans ht3)
 obtain rfl:=Option.some.inj (jXN.symm.trans hg4)
 obtain rfl:=Option.some.inj (jYf.symm.trans ht4)
 obtain rfl:=Option.some.inj (jXO.symm.trans hg5)
 obtain rfl:=Option.some.inj (jYc.symm.trans ht5)
 obtain⟨e1,H1⟩:=jDw hv1 hd1
 obtain⟨e2,H2⟩:=jO1 hv2 hd2
 obtain⟨G,hG⟩:∃G:Ords,G=fun g=>bif Nat.beq g 1 then e1 else e2:=⟨_,rfl⟩
 refine⟨G,?_⟩
 have H0:=jCJ (G:=G) hv0 hd0
 have H1:=H1 G (by rw[hG];rfl)
 have H2:=H2 G (by rw[hG];rfl)
 have H3:=jOR (G:=G) hv3 hd3
 have H4:=jYD (G:=G) hsh
 have H5:=jXK (G:=G) jXO hv5 hd5
 have H6:=jXK (G:=G) jXN hv4 hd4
 intro g f hf
 have step:∀(k:Nat) (x:GF) (l:List (Nat×GF)),GFOk G W (fun _=>False) (WS W) k x->(lookG l g=some f->GFOk G W (fun _=>False) (WS W) g f)->lookG ((k,x)::l) g=some f->GFOk G W (fun _=>False) (WS W) g f:=fun k x l hx hl h=>by
  unfold lookG at h
  cases hb:Nat.beq k g with
  |true=>
   rw[hb]at h
   obtain rfl:=zby hb
   obtain rfl:=Option.some.inj h
   exact hx
  |false=>
   rw[hb]at h
   exact hl h
 exact step _ _ _ H0 (step _ _ _ H1 (step _ _ _ H2 (step _ _ _ H3 (step _ _ _ H4 (step _ _ _ H5 (step _ _ _ H6 fun h=>by cases h)))))) hf
theorem jsc {P:Program} {W W':World} {n:String} {g:Nat} {cs:Array Value} (hg:P.globalNamed n=some g) (h:W.var? P n=some cs) (hb:Below W.heap.size W W'):W'.var? P n=some cs:=by
 simp only[World.var?,hg,za]at h⊢
 have hlt:g<W.heap.size:=by
  cases hh:W.heap[g]? with
  |none=>rw[hh]at h;cases h
  |some o=>exact(zaU.1 hh).1
 rw[hb.block g hlt]
 exact h
theorem jXW {H:Type} {enc:TypeId×Value->H} {a:Assume} {C:Checked} {os:Os} {f:FuncId} {fn:Func} {s:ChangeSpec} {conds:List PathCond} {apart fresh handsOn again:Bool} {X:World->Array Value->Prop}
  (hX:∀(w w':World) (args:Array Value),w.heap=w'.heap->X w args->X w' args)
  (own:ownKnob C.prog.godebug=none) (started:os.Started) (noInit:C.prog.inits.idxOf? f=none) (hfn:C.prog.funcs[f]? =some fn)
  (witness:∃(w:World) (tape:Tape) (i:Input),w.os=os/\(w.forCall tape i).Shaped C.prog/\i.vars=[]/\Input.okWide C.prog (w.forCall tape i) .any w.heap.size f i/\
   ((s.pre enc C.prog fn conds apart (w.forCall tape i).memory i.args/\X (w.forCall tape i).memory i.args)/\sizedMet enc C.prog fn (OpenSpec.ofChange s) apart (w.forCall tape i).memory i.args)/\a.holds C.prog (lone (Frame.enter C.prog f i.args .normal) [] (w.forCall tape i)))
  (contract:∀(W:World) (base:Nat) (args:Array Value) (ds gs:List (DataW H)) (before:List MemPlace),
   (∀(j:Nat) t v,fn.params[j]? =some t->args[j]? =some v->Value.okWide C.prog W .any base t v)->
   DataW.Whole enc C.prog fn.params.toList s.vars apart W args.toList ds gs before->
   conds.all (PathCond.test C.prog ⟨fn.params.toList,ds,s.plain.varTypes C.prog,gs⟩)=true->
   (DataW.weightsEach C.prog (fn.params.toList++s.plain.varTypes C.prog) (ds++gs)).all (· <=reachBytes)=true->X W args->W.ShapedOpen C.prog->
   a.holds C.prog (lone (Frame.enter C.prog f args .normal) [] W)->
   Calls C.prog f args W fun e W'=>∃v,e= .returned v/\s.post enc C.prog fn apart fresh handsOn again W args v W'):
  ReturnsInHanded a C os f .any (fun w args=>(s.pre enc C.prog fn conds apart w args/\X w args)/\sizedMet enc C.prog fn (OpenSpec.ofChange s) apart w args) (s.post enc C.prog fn apart fresh handsOn again):=by
 refine returnsInHanded_of_calls own started noInit witness ?_
 intro w tape i _ hsh _ hok hpre hholds
 obtain⟨_,_,_,fn',hfn',_,_,_,_,hval⟩:=hok
 have e:fn'=fn:=Option.some.inj (hfn'.symm.trans hfn)
 subst e
 obtain⟨⟨⟨ds,gs,before,hw,hc⟩,hx⟩,hz⟩:=hpre
 have hw':=DataW.Whole.of_heap (w':=w.forCall tape i) (by rfl) hw
 refine(contract (w.forCall tape i) w.heap.size i.args ds gs before hval hw' hc (hz.weights hw) (hX _ _ _ (by rfl) hx) hsh hholds).mono fun e W' ⟨v,he,hp⟩=>?_
 subst he
 exact ChangeSpec.post_blind hp
end Go.Proofs.YtkglkigmdmohkaaGreatDoor
