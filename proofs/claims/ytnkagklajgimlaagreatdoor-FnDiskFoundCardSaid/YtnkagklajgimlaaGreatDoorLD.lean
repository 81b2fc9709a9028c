/- What is listed, told of memory: a row, maps, tables of the library, its error values; a variable that holds some number by the world's shape. -/
import Derived.Test.YtnkagklajgimlaaGreatDoorRd
import Derived.Test.YtnkagklajgimlaaGreatDoorCards
import Derived.Test.YtnkagklajgimlaaGreatDoorTie
import Derived.ProofKit
import Derived.Lib.LaidTab
import Derived.Lib.ItoaNum
import Derived.LaidMore
import Derived.Lay
import Derived.SevenTiedAt
import Derived.OpenShut
import Derived.Stop.Joined
import Derived.ChangeKeys
import Derived.Shelf.Vars
set_option linter.unusedSimpArgs false
set_option linter.unusedVariables false
namespace Go.Proofs.YtnkagklajgimlaaGreatDoor
open Go.ChangeShapes Go.WideShapes Go.ChangeAt Go.WideMaps Go.WideElems Go.RowKit
abbrev rZ :List (String×DataW Unit):=[("math/bits.deBruijn32tab",Rows.laid_math_bits_deBruijn32tab),("math/bits.deBruijn64tab",Rows.laid_math_bits_deBruijn64tab),("internal/strconv.uint64pow10",Rows.laid_internal_strconv_uint64pow10),("unicode/utf8.acceptRanges",Rows.laid_unicode_utf8_acceptRanges),("strconv.ErrRange",Rows.laid_strconv_ErrRange),("strconv.ErrSyntax",Rows.laid_strconv_ErrSyntax),("loop.example/fossick/impl.none",Rows.laid_loop_example_fossick_impl_none),("loop.example/fossick/impl.shapes",Rows.laid_loop_example_fossick_impl_shapes),("unicode/utf8.first",Rows.laid_unicode_utf8_first)]
theorem Lh :Tryz.prog.globalNamed "internal/strconv.uint64pow10" =some 2:=by kernel_rfl
theorem am4 :(Tryz.prog.globals[2]?).map (·.type)=some 325:=by kernel_rfl
theorem GQ :Tryz.prog.globalNamed "loop.example/fossick/impl.none" =some 6:=by kernel_rfl
theorem Ou :(Tryz.prog.globals[6]?).map (·.type)=some 292:=by kernel_rfl
theorem ES :Tryz.prog.globalNamed "loop.example/fossick/impl.shapes" =some 0:=by kernel_rfl
theorem Sd :(Tryz.prog.globals[0]?).map (·.type)=some 185:=by kernel_rfl
theorem N9 :Tryz.prog.globalNamed "strconv.ErrRange" =some 4:=by kernel_rfl
theorem aeC :(Tryz.prog.globals[4]?).map (·.type)=some 148:=by kernel_rfl
theorem Oa :Tryz.prog.globalNamed "strconv.ErrSyntax" =some 3:=by kernel_rfl
theorem aez :(Tryz.prog.globals[3]?).map (·.type)=some 148:=by kernel_rfl
abbrev MZ :List String:=["math/bits.deBruijn32tab", "math/bits.deBruijn64tab", "internal/strconv.uint64pow10", "unicode/utf8.acceptRanges", "strconv.ErrRange", "strconv.ErrSyntax", "loop.example/fossick/impl.none", "unicode/utf8.first"]
noncomputable def Js (os:Os):World:=(World.doorLaid Tryz.prog 400 os).layVars Tryz.prog (rZ.filter fun x=>MZ.contains x.1)
noncomputable def Ti (os:Os):List Nat:=(List.range (World.doorLaid Tryz.prog 400 os).heap.size).filter fun k=> !([7,8,2,10,4,3,6,9]:List Nat).contains k
theorem ahE (os:Os) (args:Array Value):laidMetH Tryz.prog rZ ((Js os).forCall (fun _ _=>0) ⟨#[],args,[]⟩).memory:=by
 rw[MakeChecks.laidMetH_plain _ _ _ (by kernel_rfl)]
 have h:laidMet Tryz.prog rZ (Js os):=laidMet_layVars (w0:=World.doorLaid Tryz.prog 400 os) MZ (Ti os) rfl (by kernel_rfl) (by kernel_rfl) (LaidIn.of_run (Ti os) 8 (by kernel_rfl) (by kernel_rfl) (by kernel_rfl) (by kernel_rfl))
 exact h.of_heap (by simp[World.memory,World.forCall,Input.heap])
theorem abk {H:Type} {enc:TypeId×Value->H} {P:Program} {w:World} {spare:Nat->Bool} {c d:String} {g0 g1:Nat} {t0 t1:TypeId} {a b:Array Value} {f0 f1:Nat} {d0 d1:DataW H} {e f:List MemPlace} (g:P.globalNamed c=some g0) (h:(P.globals[g0]?).map (·.type)=some t0) (i:w.var? P c=some a)
  (j:DataW.trod enc P w 0 spare true f0 t0 a.toList=some (d0,e)) (k:P.globalNamed d=some g1) (l:(P.globals[g1]?).map (·.type)=some t1) (o:w.var? P d=some b)
  (p:DataW.trod enc P w 0 spare true f1 t1 b.toList=some (d1,f)):DataW.TrodVars enc P w spare [c,d] [d0,d1] (MemPlace.row ⟨g0,0,none⟩ a.size++e++(MemPlace.row ⟨g1,0,none⟩ b.size++f)):=
 ⟨g0,t0,a,f0,e,_,g,h,i,j,trodVars_mk1 k l o p,rfl⟩
abbrev I9 :aH:=.pair .bool (.pair (.int .i64) (.pair (.int .i64) (.pair (.int .i64) (.pair (.int .i64) (.pair .bool (.pair (.int .i64) (.int .i64)))))))
abbrev qZ :Type:=Bool×Int×Int×Int×Int×Bool×Int×Int
def PL (x:qZ):DataW Unit:=.agg [.lit (.bool x.1),.lit (.int .i64 x.2.1),.lit (.int .i64 x.2.2.1),.lit (.int .i64 x.2.2.2.1),.lit (.int .i64 x.2.2.2.2.1),.lit (.bool x.2.2.2.2.2.1),.lit (.int .i64 x.2.2.2.2.2.2.1),.lit (.int .i64 x.2.2.2.2.2.2.2)]
def Bw (p:Int×qZ):Lit×DataW Unit:=(.int .i64 p.1,PL p.2)
def aaG :DataW Unit->qZ
 | .agg [.lit (.bool a),.lit (.int _ b),.lit (.int _ c),.lit (.int _ d),.lit (.int _ e),.lit (.bool f),.lit (.int _ g),.lit (.int _ h)]=>(a,b,c,d,e,f,g,h)
 |_=>(false,0,0,0,0,false,0,0)
def Po :Lit×DataW Unit->Int×qZ
 |(.int _ n,d)=>(n,aaG d)
 |_=>(0,false,0,0,0,0,false,0,0)
theorem PG (l:List (Int×qZ)):(l.map Bw).map Po=l:=by
 rw[ml]
 exact(mg (fun p _=>rfl)).trans (List.map_id l)
theorem PA {α β a b:Type} {f1:α->a} {g1:β->a} {f2:α->b} {g2:β->b}:∀l:List α,(∀x,x∈l->∃p,f1 x=g1 p/\f2 x=g2 p)->∃ps:List β,l.map f1=ps.map g1/\l.map f2=ps.map g2
 | [],_=>⟨[],rfl,rfl⟩
 |x::l,h=>by
  obtain⟨p,c,d⟩:=h x (by simp)
  obtain⟨ps,e,f⟩:=PA l fun y hy=>h y (by simp[hy])
  exact⟨p::ps,by simp[c,e],by simp[d,f]⟩
theorem PC {V:Type} (l:List (Int×V)) (k:Int) (v:V) (d:l.Pairwise fun a b=>a.1≠b.1):((l.find? fun e=>decide (k=e.1)).map (·.2))=some v↔(k,v)∈l:=by
 induction l with
 |nil=>simp
 |cons e l f=>
  obtain⟨g,i⟩:=ez.1 d
  by_cases c:k=e.1
  .subst c
   simp only[List.find?,decide_true,ou,ic,bm]
   constructor
   .rintro rfl;exact .inl rfl
   .rintro (h|h)
    .rw [<-h]
    .exact absurd rfl (g (e.1,v) h)
  .simp only [List.find?,ak c,bm]
   rw[f i]
   constructor
   .exact .inr
   .rintro (h|h)
    .exact absurd (by rw[<-h]) c
    .exact h
theorem abl {V:Type} {l c:List (Int×V)} (f:c.Perm l) (g:l.Pairwise fun a b=>a.1≠b.1) (k:Int):((c.find? fun e=>decide (k=e.1)).map (·.2))=((l.find? fun e=>decide (k=e.1)).map (·.2)):=by
 have d:=(f.pairwise_iff (fun h=>Ne.symm h)).2 g
 apply Option.ext
 intro v
 rw[PC c k v d,PC l k v g,f.mem_iff]
set_option maxRecDepth 100000 in
theorem abM {b:TypeId×Value->Unit} {W:World} {sp:Nat->Bool} {n:Nat} {v:Value} {z:DataW Unit×List MemPlace} (h:elemAt b Tryz.prog W 0 sp false n 183 v=some z):∃x:qZ,v=lx true I9 x/\z.1=PL x:=by
 unfold elemAt at h
 split at h
 case isFalse=>cases h
 rename_i a
 have e:∃cs,v= .agg cs:=by
  unfold Value.formed at a
  rw[Tryz.underlying183]at a
  cases v<;>simp at a
  exact⟨_,rfl⟩
 obtain⟨⟨l⟩,rfl⟩:=e
 have f:DataW.trod b Tryz.prog W 0 sp false n 183 l=some z:=h
 obtain⟨ys,m,_,g,c,i,a⟩:=DataW.trod_struct Tryz.underlying183 f
 rw[show Tryz.prog.cellsOf 183=8 from by kernel_rfl]at c
 have d:Tryz.prog.cellsOf 4=1:=by kernel_rfl
 have ci:Tryz.prog.cellsOf 3=1:=by kernel_rfl
 match l,c with
 | [c0,j,c2,c3,c4,c5,k,o],_=>
  match ys,i with
  | [p,r,s,t,u,y,A,B],_=>
   have g0:DataW.trod b Tryz.prog W 0 sp false m 4 [c0]=some p:=by simpa[d]using a 0 _ rfl
   obtain⟨C,a0,d0⟩:=DataW.trod_bool Tryz.underlying4 g0
   have g1:DataW.trod b Tryz.prog W 0 sp false m 3 [j]=some r:=by simpa[ci]using a 1 _ rfl
   obtain⟨ej,F,d1,_⟩:=DataW.trod_int Tryz.underlying3 g1
   have g2:DataW.trod b Tryz.prog W 0 sp false m 3 [c2]=some s:=by simpa[ci]using a 2 _ rfl
   obtain⟨ba,a2,d2,_⟩:=DataW.trod_int Tryz.underlying3 g2
   have g3:DataW.trod b Tryz.prog W 0 sp false m 3 [c3]=some t:=by simpa[ci]using a 3 _ rfl
   obtain⟨e0,a3,d3,_⟩:=DataW.trod_int Tryz.underlying3 g3
   have g4:DataW.trod b Tryz.prog W 0 sp false m 3 [c4]=some u:=by simpa[ci]using a 4 _ rfl
   obtain⟨G,a4,d4,_⟩:=DataW.trod_int Tryz.underlying3 g4
   have g5:DataW.trod b Tryz.prog W 0 sp false m 4 [c5]=some y:=by simpa[d]using a 5 _ rfl
   obtain⟨H,a5,d5⟩:=DataW.trod_bool Tryz.underlying4 g5
   have g6:DataW.trod b Tryz.prog W 0 sp false m 3 [k]=some A:=by simpa[ci]using a 6 _ rfl
   obtain⟨I,J,d6,_⟩:=DataW.trod_int Tryz.underlying3 g6
   have g7:DataW.trod b Tryz.prog W 0 sp false m 3 [o]=some B:=by simpa[ci]using a 7 _ rfl
   obtain⟨K,L,d7,_⟩:=DataW.trod_int Tryz.underlying3 g7
   refine⟨(C,ej,ba,e0,G,H,I,K),?_,?_⟩
   .cases a0;cases F;cases a2;cases a3;cases a4;cases a5;cases J;cases L
    rfl
   .rw [g]
    subst d0;subst d1;subst d2;subst d3;subst d4;subst d5;subst d6;subst d7
    rfl
set_option maxRecDepth 100000 in
theorem abZ {W:World} {c:Array Value} {f0:Nat} {H:List MemPlace} (g:W.var? Tryz.prog "loop.example/fossick/impl.shapes" =some c) (i:DataW.trod (fun _=>()) Tryz.prog W 0 (fun _=>true) false f0 185 c.toList=some (Rows.laid_loop_example_fossick_impl_shapes,H)):oC W (fun _=>False) (jd W) 0 (.map (.int .i64) I9 true fP):=by
 have l:=ES
 rcases Go.WideElems.open_map Tryz.underlying185 i with⟨_,f⟩|⟨B,es,clock,m,rfl,p,I,_,F,f⟩
 .exact absurd (congrArg Prod.fst f) (fun e=>by cases e)
 have J:∀j,W.cell? ⟨0,j,none⟩=c[j]? :=World.var?_cell l g
 have a:W.cell? ⟨0,0,none⟩=some (.map (some B)):=by rw[J,<-jY,p];rfl
 have r:0<W.heap.size:=lt_of_cell (o:=0) a
 obtain⟨ps,K,L⟩:=PA (f1:=fun e:MapEntry=>(e.key,e.val)) (g1:=fun x:Int×qZ=>(ix (.int .i64) x.1,lx true I9 x.2)) (f2:=WideElems.rg Tryz.prog 3 (elemAt (fun _=>()) Tryz.prog W 0 (fun _=>true) false m 183)) (g2:=Bw) es.toList (fun x f=>by
  obtain⟨y,hy⟩:=F.reads x f
  have d:=rd_key hy
  obtain⟨z,M,e⟩:=rd_val hy
  obtain⟨s,t,u⟩:=abM M
  rw[keyOf_int Tryz.underlying3]at d
  unfold mapKey at d
  rw[Tryz.underlying3]at d
  have O:∃n,x.key= .int .i64 n/\y.1= .int .i64 n:=by
   cases v:x.key<;>rw[v]at d<;>simp at d
   obtain⟨⟨rfl,_⟩,b⟩:=d
   exact⟨_,rfl,b.symm⟩
  obtain⟨n,A,b⟩:=O
  refine⟨(n,s),?_,?_⟩
  .show (x.key,x.val)=_
   rw[A,t]
   rfl
  .rw [rg_of hy]
   show y=_
   obtain⟨S,T⟩:=y
   dsimp only at b e
   subst b;subst e
   rw[u]
   rfl)
 have P:fP.map Bw=(es.toList.map (WideElems.rg Tryz.prog 3 (elemAt (fun _=>()) Tryz.prog W 0 (fun _=>true) false m 183))).foldr DataW.insert []:=
  DataW.map.inj (show DataW.map (fP.map Bw)=_ from congrArg Prod.fst f)
 have C:ps.Perm fP:=by
  have G:=sorted_perm (es.toList.map (WideElems.rg Tryz.prog 3 (elemAt (fun _=>()) Tryz.prog W 0 (fun _=>true) false m 183)))
  rw[<-P,L]at G
  have Q:=G.symm.map Po
  rwa[PG,PG]at Q
 exact⟨r,B,es,clock,ps,a,I,⟨K,C,fun k=>abl C (by decide) k⟩,fun h=>h⟩
theorem adQ {W:World} {d:Array Value} {f0:Nat} {g:List MemPlace} (c:W.var? Tryz.prog "internal/strconv.uint64pow10" =some d) (f:DataW.trod (fun _=>()) Tryz.prog W 0 (fun _=>true) false f0 325 d.toList=some (Rows.laid_internal_strconv_uint64pow10,g)):oC W (fun _=>False) (jd W) 2 (.gh .u64 Lib.pow10Tab):=by
 have i:=Lib.cells_of_tab (zs:=Lib.pow10Tab) (k:=.u64) Tryz.underlying325 Tryz.underlying255 (by kernel_rfl) (by kernel_rfl) (show DataW.trod (fun _=>()) Tryz.prog W 0 (fun _=>true) false f0 325 d.toList=some (Lib.tabData .u64 Lib.pow10Tab,g)from f)
 have e:d=(Lib.pow10Tab.map fun z=>Value.int .u64 z).toArray:=Array.ext' (by rw[i])
 subst e
 unfold World.var? at c
 rw[Lh,af]at c
 split at c
 .rename_i a b j
  cases Option.some.inj c
  exact⟨⟨_,_,j⟩,fun h=>h⟩
 .cases c
theorem abf {W:World} {b:Array Value} {f0:Nat} {t:List MemPlace} (f:W.var? Tryz.prog "loop.example/fossick/impl.none" =some b) (g:DataW.trod (fun _=>()) Tryz.prog W 0 (fun _=>true) false f0 292 b.toList=some (Rows.laid_loop_example_fossick_impl_none,t)):oC W (fun _=>False) (jd W) 6 (.row (.pair (.int .i64) (.int .i64)) ((0:Int),(1:Int))):=by
 have h:=GQ
 obtain⟨u,x,n,y,p,r,s⟩:=trod_struct2 Tryz.underlying292 g
 rw[show Tryz.prog.cellsOf 292=2 from by kernel_rfl]at p
 obtain⟨c0,z,e⟩:=aka p
 rw[e]at r s
 have ci:Tryz.prog.cellsOf 3=1:=by kernel_rfl
 obtain⟨A,a0,B,_⟩:=DataW.trod_int Tryz.underlying3 (show DataW.trod _ Tryz.prog W 0 _ false n 3 [c0]=some u by simpa[ci]using r)
 obtain⟨C,F,ej,_⟩:=DataW.trod_int Tryz.underlying3 (show DataW.trod _ Tryz.prog W 0 _ false n 3 [z]=some x by simpa[ci]using s)
 subst B;subst ej
 cases a0;cases F
 have i:=congrArg Prod.fst y
 cases(show(DataW.agg [.lit (.int .i64 0),.lit (.int .i64 1)]:DataW Unit)= .agg [.lit (.int .i64 A),.lit (.int .i64 C)]from i)
 have k:∀j,W.cell? ⟨6,j,none⟩=b[j]? :=World.var?_cell h f
 have d:∀j,b[j]? =[Value.int .i64 0,.int .i64 1][j]? :=fun j=>by rw[<-jY,e]
 have l:6<W.heap.size:=lt_of_cell (o:=0) (v:=.int .i64 0) (by rw[k,d];rfl)
 show j1 W (jd W) _ 0 _
 intro j c G
 have a:[b3.int .i64 0,b3.int .i64 1][j]? =some c:=G
 refine⟨l,?_⟩
 match j,a with
 |0,a=>cases a;exact⟨_,by rw[k,d];rfl,.int _ _⟩
 |1,a=>cases a;exact⟨_,by rw[k,d];rfl,.int _ _⟩
 |j+2,a=>simp at a
theorem N7 {W:World} {n:String} {g:Nat} {a:Array Value} {f0:Nat} {i:List MemPlace} {aW:String} {d:DataW Unit} (j:Tryz.prog.globalNamed n=some g) (b:W.var? Tryz.prog n=some a) (c:DataW.trod (fun _=>()) Tryz.prog W 0 (fun _=>true) false f0 148 a.toList=some (.iface aW d,i)):oC W (fun _=>False) (jd W) g (.cell rM):=by
 obtain⟨f1,u,v,e,_,_⟩:=iface_of_trod Tryz.underlying148 c
 have f:W.cell? ⟨g,0,none⟩=some (.iface u v):=by
  have h:=World.var?_cell j b 0
  rw[<-jY,e]at h
  simpa using h
 exact⟨⟨_,f,.inr ⟨u,v,rfl⟩⟩,World.block_lt_of_cell? _ _ f,fun h=>h⟩
theorem aen {W:World} (a:W.ShapedOpen Tryz.prog):oC W (fun _=>False) (jd W) 5 (.cell qj):=by
 obtain⟨m,hm⟩:=cell_of_shapedOpen_int (zero:= #[.int .i64 0]) (t:=3) (g:=5) a (of_decide_eq_true (by kernel_rfl)) (by kernel_rfl) rfl (by kernel_rfl) (by kernel_rfl) Tryz.underlying3
 exact⟨⟨_,hm,m,rfl⟩,World.block_lt_of_cell? _ _ hm,fun h=>h⟩
set_option maxRecDepth 100000 in
theorem agt {W:World} (h:laidMetH Tryz.prog rZ W) (a:W.ShapedOpen Tryz.prog):k2 W (fun _=>False) (jd W):=by
 rw[MakeChecks.laidMetH_plain _ _ _ (by kernel_rfl)]at h
 obtain⟨ps,⟨_,_,_,_,_,_,_,_,_,_,⟨_,_,_,_,_,_,_,_,_,_,⟨g3,t3,I,f3,Y,Z,b,c,d,e,⟨_,_,_,_,_,_,_,_,_,_,⟨g4,t4,J,f4,sf,oc,i,j,o,p,⟨g5,t5,K,f5,Im,uU,r,s,t,u,⟨g0,t0,L,f0,n8,als,v,y,z,A,⟨g1,t1,M,f1,kO,mX,B,C,F,G,⟨_,_,_,_,_,_,_,_,_,_,_,_⟩,_⟩,_⟩,_⟩,_⟩,_⟩,_⟩,_⟩,_⟩,_⟩:=h
 obtain rfl:=Option.some.inj (GQ.symm.trans v)
 obtain rfl:=Option.some.inj (Ou.symm.trans y)
 obtain rfl:=Option.some.inj (ES.symm.trans B)
 obtain rfl:=Option.some.inj (Sd.symm.trans C)
 obtain rfl:=Option.some.inj (Lh.symm.trans b)
 obtain rfl:=Option.some.inj (am4.symm.trans c)
 obtain rfl:=Option.some.inj (N9.symm.trans i)
 obtain rfl:=Option.some.inj (aeC.symm.trans j)
 obtain rfl:=Option.some.inj (Oa.symm.trans r)
 obtain rfl:=Option.some.inj (aez.symm.trans s)
 have O:=abf z A
 have H1:=abZ F G
 have P:=adQ d e
 have Q:=aen a
 have S:=N7 Oa t u
 have T:=N7 N9 o p
 intro g f U
 have step:∀(k:Nat) (x:s5) (l:List (Nat×s5)),oC W (fun _=>False) (jd W) k x->(kL l g=some f->oC W (fun _=>False) (jd W) g f)->kL ((k,x)::l) g=some f->oC W (fun _=>False) (jd W) g f:=fun k x l V X h=>by
  unfold kL at h
  cases H:Nat.beq k g with
  |true=>
   rw[H]at h
   obtain rfl:=yl H
   obtain rfl:=Option.some.inj h
   exact V
  |false=>
   rw[H]at h
   exact X h
 exact step _ _ _ O (step _ _ _ H1 (step _ _ _ P (step _ _ _ Q (step _ _ _ S (step _ _ _ T fun h=>by cases h))))) U
theorem Pa {P:Program} {W b:World} {n:String} {g:Nat} {cs:Array Value} (d:P.globalNamed n=some g) (h:W.var? P n=some cs) (e:Below W.heap.size W b):b.var? P n=some cs:=by
 simp only[World.var?,d,af]at h⊢
 have a:g<W.heap.size:=by
  cases c:W.heap[g]? with
  |none=>rw[c]at h;cases h
  |some o=>exact(qS.1 c).1
 rw[e.block g a]
 exact h
theorem aeg {H:Type} {enc:TypeId×Value->H} {a:Assume} {C:Checked} {os:Os} {f:FuncId} {fn:Func} {s:ChangeSpec} {conds:List PathCond} {apart fresh handsOn again:Bool} {X:World->Array Value->Prop}
  (y:∀(w w':World) (args:Array Value),w.heap=w'.heap->X w args->X w' args)
  (own:ownKnob C.prog.godebug=none) (started:os.Started) (c:C.prog.inits.idxOf? f=none) (l:C.prog.funcs[f]? =some fn)
  (witness:∃(w:World) (tape:Tape) (i:Input),w.os=os/\(w.forCall tape i).Shaped C.prog/\i.vars=[]/\Input.okWide C.prog (w.forCall tape i) .any w.heap.size f i/\
   ((s.pre enc C.prog fn conds apart (w.forCall tape i).memory i.args/\X (w.forCall tape i).memory i.args)/\sizedMet enc C.prog fn (OpenSpec.ofChange s) apart (w.forCall tape i).memory i.args)/\a.holds C.prog (lone (Frame.enter C.prog f i.args .normal) [] (w.forCall tape i)))
  (b:∀(W:World) (base:Nat) (args:Array Value) (ds gs:List (DataW H)) (before:List MemPlace),
   (∀(j:Nat) t v,fn.params[j]? =some t->args[j]? =some v->Value.okWide C.prog W .any base t v)->
   DataW.Whole enc C.prog fn.params.toList s.vars apart W args.toList ds gs before->
   conds.all (PathCond.test C.prog ⟨fn.params.toList,ds,s.plain.varTypes C.prog,gs⟩)=true->
   (DataW.weightsEach C.prog (fn.params.toList++s.plain.varTypes C.prog) (ds++gs)).all (· <=reachBytes)=true->X W args->W.ShapedOpen C.prog->
   a.holds C.prog (lone (Frame.enter C.prog f args .normal) [] W)->
   Calls C.prog f args W fun e x=>∃v,e= .returned v/\s.post enc C.prog fn apart fresh handsOn again W args v x):
  ReturnsInHanded a C os f .any (fun w args=>(s.pre enc C.prog fn conds apart w args/\X w args)/\sizedMet enc C.prog fn (OpenSpec.ofChange s) apart w args) (s.post enc C.prog fn apart fresh handsOn again):=by
 refine returnsInHanded_of_calls own started c witness ?_
 intro w tape i _ o _ p g d
 obtain⟨_,_,_,r,h,_,_,_,_,k⟩:=p
 have e:r=fn:=Option.some.inj (h.symm.trans l)
 subst e
 obtain⟨⟨⟨ds,gs,before,hw,z⟩,A⟩,B⟩:=g
 have u:=DataW.Whole.of_heap (w':=w.forCall tape i) (by rfl) hw
 refine(b (w.forCall tape i) w.heap.size i.args ds gs before k u z (B.weights hw) (y _ _ _ (by rfl) A) o d).mono fun e x ⟨v,he,F⟩=>?_
 subst he
 exact ChangeSpec.post_blind F
end Go.Proofs.YtnkagklajgimlaaGreatDoor
