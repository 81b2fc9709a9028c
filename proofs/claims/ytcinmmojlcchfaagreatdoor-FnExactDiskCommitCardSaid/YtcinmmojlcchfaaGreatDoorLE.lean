/- What is listed, told of memory: a table of the library, its error values; and a variable that holds some number by the world's shape. -/
import Derived.Test.YtcinmmojlcchfaaGreatDoorRd
import Derived.Test.YtcinmmojlcchfaaGreatDoorCards
import Derived.Test.YtcinmmojlcchfaaGreatDoorTie
import Derived.ProofKit
import Derived.Lib.LaidTab
import Derived.Lib.ItoaNum
import Derived.LaidMore
import Derived.Lay
import Derived.SevenTiedAt
import Derived.OpenShut
import Derived.Stop.Joined
import Derived.ChangeKeys
import Derived.Shelf.Vars
set_option linter.unusedSimpArgs false
set_option linter.unusedVariables false
namespace Go.Proofs.YtcinmmojlcchfaaGreatDoor
open Go.ChangeShapes Go.WideShapes Go.ChangeAt Go.WideMaps Go.WideElems Go.RowKit
abbrev jby :List (String×DataW Unit):=[("math/bits.deBruijn32tab",Rows.laid_math_bits_deBruijn32tab),("math/bits.deBruijn64tab",Rows.laid_math_bits_deBruijn64tab),("internal/strconv.uint64pow10",Rows.laid_internal_strconv_uint64pow10),("strconv.ErrRange",Rows.laid_strconv_ErrRange),("strconv.ErrSyntax",Rows.laid_strconv_ErrSyntax)]
theorem gTab :Tryz.prog.globalNamed "internal/strconv.uint64pow10" =some 3:=by kernel_rfl
theorem tTab :(Tryz.prog.globals[3]?).map (·.type)=some 332:=by kernel_rfl
theorem jXN :Tryz.prog.globalNamed "strconv.ErrRange" =some 1:=by kernel_rfl
theorem jYf :(Tryz.prog.globals[1]?).map (·.type)=some 88:=by kernel_rfl
theorem jXO :Tryz.prog.globalNamed "strconv.ErrSyntax" =some 0:=by kernel_rfl
theorem jYc :(Tryz.prog.globals[0]?).map (·.type)=some 88:=by kernel_rfl
theorem jqf (os:Os) (args:Array Value):laidMetH Tryz.prog jby ((World.laidAll Tryz.prog os jby).forCall (fun _ _=>0) ⟨#[],args,[]⟩).memory:=by
 rw[MakeChecks.laidMetH_plain _ _ _ (by kernel_rfl)]
 exact laidMet_laidAll _ (by kernel_rfl) (by kernel_rfl)
theorem jOR {W:World} {cs0:Array Value} {f0:Nat} {p0:List MemPlace} (hv0:W.var? Tryz.prog "internal/strconv.uint64pow10" =some cs0) (hd0:DataW.trod (fun _=>()) Tryz.prog W 0 (fun _=>true) false f0 332 cs0.toList=some (Rows.laid_internal_strconv_uint64pow10,p0)):GFOk W (fun _=>False) (WS W) 3 (.tab .u64 Lib.pow10Tab):=by
 have h1:=Lib.cells_of_tab (zs:=Lib.pow10Tab) (k:=.u64) Tryz.underlying332 Tryz.underlying271 (by kernel_rfl) (by kernel_rfl) (show DataW.trod (fun _=>()) Tryz.prog W 0 (fun _=>true) false f0 332 cs0.toList=some (Lib.tabData .u64 Lib.pow10Tab,p0)from hd0)
 have e:cs0=(Lib.pow10Tab.map fun z=>Value.int .u64 z).toArray:=Array.ext' (by rw[h1])
 subst e
 unfold World.var? at hv0
 rw[gTab,za]at hv0
 split at hv0
 .rename_i a b hh
  cases Option.some.inj hv0
  exact⟨⟨_,_,hh⟩,fun h=>h⟩
 .cases hv0
theorem jXK {W:World} {n:String} {g:Nat} {cs0:Array Value} {f0:Nat} {p0:List MemPlace} {nm:String} {d:DataW Unit} (hg:Tryz.prog.globalNamed n=some g) (hv0:W.var? Tryz.prog n=some cs0) (hd0:DataW.trod (fun _=>()) Tryz.prog W 0 (fun _=>true) false f0 88 cs0.toList=some (.iface nm d,p0)):GFOk W (fun _=>False) (WS W) g (.cell isErrV):=by
 obtain⟨f1,u,v,hcs,_,_⟩:=iface_of_trod Tryz.underlying88 hd0
 have h0:W.cell? ⟨g,0,none⟩=some (.iface u v):=by
  have h:=World.var?_cell hg hv0 0
  rw[<-zaN,hcs]at h
  simpa using h
 exact⟨⟨_,h0,.inr ⟨u,v,rfl⟩⟩,World.block_lt_of_cell? _ _ h0,fun h=>h⟩
theorem jYD {W:World} (hsh:W.ShapedOpen Tryz.prog):GFOk W (fun _=>False) (WS W) 2 (.cell isIntV):=by
 obtain⟨m,hm⟩:=cell_of_shapedOpen_int (zero:= #[.int .i64 0]) (t:=3) (g:=2) hsh (of_decide_eq_true (by kernel_rfl)) (by kernel_rfl) rfl (by kernel_rfl) (by kernel_rfl) Tryz.underlying3
 exact⟨⟨_,hm,m,rfl⟩,World.block_lt_of_cell? _ _ hm,fun h=>h⟩
theorem jnO {W:World} (h:laidMetH Tryz.prog jby W) (hsh:W.ShapedOpen Tryz.prog):GlobOk W (fun _=>False) (WS W):=by
 rw[MakeChecks.laidMetH_plain _ _ _ (by kernel_rfl)]at h
 obtain⟨ps,⟨_,_,_,_,_,_,_,_,_,_,⟨_,_,_,_,_,_,_,_,_,_,⟨g2,t2,cs2,f2,p2,q2,hg2,ht2,hv2,hd2,⟨g4,t4,cs4,f4,p4,q4,hg4,ht4,hv4,hd4,⟨g5,t5,cs5,f5,p5,q5,hg5,ht5,hv5,hd5,_,_⟩,_⟩,_⟩,_⟩,_⟩,_,_⟩:=h
 obtain rfl:=Option.some.inj (gTab.symm.trans hg2)
 obtain rfl:=Option.some.inj (tTab.symm.trans ht2)
 obtain rfl:=Option.some.inj (jXN.symm.trans hg4)
 obtain rfl:=Option.some.inj (jYf.symm.trans ht4)
 obtain rfl:=Option.some.inj (jXO.symm.trans hg5)
 obtain rfl:=Option.some.inj (jYc.symm.trans ht5)
 have H0:=jOR hv2 hd2
 have H1:=jYD hsh
 have H2:=jXK jXO hv5 hd5
 have H3:=jXK jXN hv4 hd4
 intro g f hf
 have step:∀(k:Nat) (x:GF) (l:List (Nat×GF)),GFOk W (fun _=>False) (WS W) k x->(lookG l g=some f->GFOk W (fun _=>False) (WS W) g f)->lookG ((k,x)::l) g=some f->GFOk W (fun _=>False) (WS W) g f:=fun k x l hx hl h=>by
  unfold lookG at h
  cases hb:Nat.beq k g with
  |true=>
   rw[hb]at h
   obtain rfl:=zby hb
   obtain rfl:=Option.some.inj h
   exact hx
  |false=>
   rw[hb]at h
   exact hl h
 exact step _ _ _ H0 (step _ _ _ H1 (step _ _ _ H2 (step _ _ _ H3 fun h=>by cases h))) hf
theorem jXW {H:Type} {enc:TypeId×Value->H} {a:Assume} {C:Checked} {os:Os} {f:FuncId} {fn:Func} {s:ChangeSpec} {conds:List PathCond} {apart fresh handsOn again:Bool} {X:World->Array Value->Prop}
  (hX:∀(w w':World) (args:Array Value),w.heap=w'.heap->X w args->X w' args)
  (own:ownKnob C.prog.godebug=none) (started:os.Started) (noInit:C.prog.inits.idxOf? f=none) (hfn:C.prog.funcs[f]? =some fn)
  (witness:∃(w:World) (tape:Tape) (i:Input),w.os=os/\(w.forCall tape i).Shaped C.prog/\i.vars=[]/\Input.okWide C.prog (w.forCall tape i) .any w.heap.size f i/\
   ((s.pre enc C.prog fn conds apart (w.forCall tape i).memory i.args/\X (w.forCall tape i).memory i.args)/\sizedMet enc C.prog fn (OpenSpec.ofChange s) apart (w.forCall tape i).memory i.args)/\a.holds C.prog (lone (Frame.enter C.prog f i.args .normal) [] (w.forCall tape i)))
  (contract:∀(W:World) (base:Nat) (args:Array Value) (ds gs:List (DataW H)) (before:List MemPlace),
   (∀(j:Nat) t v,fn.params[j]? =some t->args[j]? =some v->Value.okWide C.prog W .any base t v)->
   DataW.Whole enc C.prog fn.params.toList s.vars apart W args.toList ds gs before->
   conds.all (PathCond.test C.prog ⟨fn.params.toList,ds,s.plain.varTypes C.prog,gs⟩)=true->
   (DataW.weightsEach C.prog (fn.params.toList++s.plain.varTypes C.prog) (ds++gs)).all (· <=reachBytes)=true->X W args->W.ShapedOpen C.prog->
   a.holds C.prog (lone (Frame.enter C.prog f args .normal) [] W)->
   Calls C.prog f args W fun e W'=>∃v,e= .returned v/\s.post enc C.prog fn apart fresh handsOn again W args v W'):
  ReturnsInHanded a C os f .any (fun w args=>(s.pre enc C.prog fn conds apart w args/\X w args)/\sizedMet enc C.prog fn (OpenSpec.ofChange s) apart w args) (s.post enc C.prog fn apart fresh handsOn again):=by
 refine returnsInHanded_of_calls own started noInit witness ?_
 intro w tape i _ hsh _ hok hpre hholds
 obtain⟨_,_,_,fn',hfn',_,_,_,_,hval⟩:=hok
 have e:fn'=fn:=Option.some.inj (hfn'.symm.trans hfn)
 subst e
 obtain⟨⟨⟨ds,gs,before,hw,hc⟩,hx⟩,hz⟩:=hpre
 have hw':=DataW.Whole.of_heap (w':=w.forCall tape i) (by rfl) hw
 refine(contract (w.forCall tape i) w.heap.size i.args ds gs before hval hw' hc (hz.weights hw) (hX _ _ _ (by rfl) hx) hsh hholds).mono fun e W' ⟨v,he,hp⟩=>?_
 subst he
 exact ChangeSpec.post_blind hp
end Go.Proofs.YtcinmmojlcchfaaGreatDoor
