/- How the laws' struct types are read. -/
import Derived.Test.YtabhgjdikeipdaaGreatDoorKY
set_option linter.unusedSimpArgs false
set_option linter.unusedVariables false
namespace Go.Proofs.YtabhgjdikeipdaaGreatDoor
open Go.RowKit
theorem RdC.app {a b:Tp} {w:World} {cs es:List Value} {x:a.D} {y:b.D} {p:Blk} (h1:RdC a w cs x p) (h2:RdC b w es y p):RdC (.pair a b) w (cs++es) (x,y) p:=by
 refine⟨⟨h1.1,h2.1⟩,?_,fun j e hj=>?_⟩
 .have e1:=h1.2.1;have e2:=h2.2.1
  show(cs++es).length=a.w+b.w
  rw[zam]
  omega
 .have e1:(enc a x).length=cs.length:=by rw[enc_len,<-h1.2.1]
  have e2:enc (.pair a b) (x,y)=enc a x++enc b y:=by rw[enc]
  rw[e2]at hj
  by_cases hl:j<cs.length
  .rw [zay (by omega)]at hj
   obtain⟨u,hu,hr⟩:=h1.2.2 j e hj
   exact⟨u,by rw[zay hl];exact hu,hr⟩
  .rw [zaz (by omega),e1]at hj
   obtain⟨u,hu,hr⟩:=h2.2.2 (j-cs.length) e hj
   exact⟨u,by rw[zaz (by omega)];exact hu,hr⟩
section
variable {H : Type} {enc : TypeId × Value -> H} {w : World} {spare : Nat -> Bool} {held : Bool}
theorem jpJ {fuel:Nat} {cs:List Value} {x:DataW H×List MemPlace} (h:DataW.trod enc Tryz.prog w 0 spare held fuel 288 cs=some x):∃d,RdC (.pair (.sl .str) .str) w cs d (fun _=>True):=by
 obtain⟨ys,n,_,_,hl,hn,hf⟩:=DataW.trod_struct Tryz.underlying288 h
 rw[show Tryz.prog.cellsOf 288=2 from by kernel_rfl]at hl
 obtain⟨c0,c1,rfl⟩:=len2 hl
 have f0:=hf 0 _ rfl
 rw[zc (by rw[hn];decide)]at f0
 obtain⟨y0,g0⟩:∃y,DataW.trod enc Tryz.prog w 0 spare held n 23 [c0]=some y:=⟨_,by simpa[show Tryz.prog.cellsOf 23=1 from by kernel_rfl]using f0⟩
 obtain⟨x0,r0⟩:=jH (r:=.str) (by decide) Tryz.underlying23 (by kernel_rfl) (fun n cs y hy _=>jN Tryz.underlying9 hy) g0
 have f1:=hf 1 _ rfl
 rw[zc (by rw[hn];decide)]at f1
 obtain⟨y1,g1⟩:∃y,DataW.trod enc Tryz.prog w 0 spare held n 9 [c1]=some y:=⟨_,by simpa[show Tryz.prog.cellsOf 9=1 from by kernel_rfl]using f1⟩
 obtain⟨x1,r1⟩:=jN Tryz.underlying9 g1
 exact⟨_,r0.cons r1⟩
theorem jkp {fuel:Nat} {cs:List Value} {x:DataW H×List MemPlace} (h:DataW.trod enc Tryz.prog w 0 spare held fuel 64 cs=some x):∃d,RdC (.pair (.sl .str) (.sl (.pair (.sl .str) .str))) w cs d (fun _=>True):=by
 obtain⟨ys,n,_,_,hl,hn,hf⟩:=DataW.trod_struct Tryz.underlying64 h
 rw[show Tryz.prog.cellsOf 64=2 from by kernel_rfl]at hl
 obtain⟨c0,c1,rfl⟩:=len2 hl
 have f0:=hf 0 _ rfl
 rw[zc (by rw[hn];decide)]at f0
 obtain⟨y0,g0⟩:∃y,DataW.trod enc Tryz.prog w 0 spare held n 23 [c0]=some y:=⟨_,by simpa[show Tryz.prog.cellsOf 23=1 from by kernel_rfl]using f0⟩
 obtain⟨x0,r0⟩:=jH (r:=.str) (by decide) Tryz.underlying23 (by kernel_rfl) (fun n cs y hy _=>jN Tryz.underlying9 hy) g0
 have f1:=hf 1 _ rfl
 rw[zc (by rw[hn];decide)]at f1
 obtain⟨y1,g1⟩:∃y,DataW.trod enc Tryz.prog w 0 spare held n 62 [c1]=some y:=⟨_,by simpa[show Tryz.prog.cellsOf 62=1 from by kernel_rfl]using f1⟩
 obtain⟨x1,r1⟩:=jH (r:=(.pair (.sl .str) .str)) (by decide) Tryz.underlying62 (by kernel_rfl) (fun n cs y hy _=>jpJ hy) g1
 exact⟨_,r0.cons r1⟩
theorem jmT {fuel:Nat} {cs:List Value} {x:DataW H×List MemPlace} (h:DataW.trod enc Tryz.prog w 0 spare held fuel 399 cs=some x):∃d,RdC (.pair .str .str) w cs d (fun _=>True):=by
 obtain⟨ys,n,_,_,hl,hn,hf⟩:=DataW.trod_struct Tryz.underlying399 h
 rw[show Tryz.prog.cellsOf 399=2 from by kernel_rfl]at hl
 obtain⟨c0,c1,rfl⟩:=len2 hl
 have f0:=hf 0 _ rfl
 rw[zc (by rw[hn];decide)]at f0
 obtain⟨y0,g0⟩:∃y,DataW.trod enc Tryz.prog w 0 spare held n 9 [c0]=some y:=⟨_,by simpa[show Tryz.prog.cellsOf 9=1 from by kernel_rfl]using f0⟩
 obtain⟨x0,r0⟩:=jN Tryz.underlying9 g0
 have f1:=hf 1 _ rfl
 rw[zc (by rw[hn];decide)]at f1
 obtain⟨y1,g1⟩:∃y,DataW.trod enc Tryz.prog w 0 spare held n 9 [c1]=some y:=⟨_,by simpa[show Tryz.prog.cellsOf 9=1 from by kernel_rfl]using f1⟩
 obtain⟨x1,r1⟩:=jN Tryz.underlying9 g1
 exact⟨_,r0.cons r1⟩
theorem jk8 {fuel:Nat} {cs:List Value} {x:DataW H×List MemPlace} (h:DataW.trod enc Tryz.prog w 0 spare held fuel 401 cs=some x):∃d,RdC (.pair .str (.int .i64)) w cs d (fun _=>True):=by
 obtain⟨ys,n,_,_,hl,hn,hf⟩:=DataW.trod_struct Tryz.underlying401 h
 rw[show Tryz.prog.cellsOf 401=2 from by kernel_rfl]at hl
 obtain⟨c0,c1,rfl⟩:=len2 hl
 have f0:=hf 0 _ rfl
 rw[zc (by rw[hn];decide)]at f0
 obtain⟨y0,g0⟩:∃y,DataW.trod enc Tryz.prog w 0 spare held n 9 [c0]=some y:=⟨_,by simpa[show Tryz.prog.cellsOf 9=1 from by kernel_rfl]using f0⟩
 obtain⟨x0,r0⟩:=jN Tryz.underlying9 g0
 have f1:=hf 1 _ rfl
 rw[zc (by rw[hn];decide)]at f1
 obtain⟨y1,g1⟩:∃y,DataW.trod enc Tryz.prog w 0 spare held n 3 [c1]=some y:=⟨_,by simpa[show Tryz.prog.cellsOf 3=1 from by kernel_rfl]using f1⟩
 obtain⟨x1,r1⟩:=jay Tryz.underlying3 g1
 exact⟨_,r0.cons r1⟩
theorem jpL {fuel:Nat} {cs:List Value} {x:DataW H×List MemPlace} (h:DataW.trod enc Tryz.prog w 0 spare held fuel 376 cs=some x):∃d,RdC (.pair (.int .i64) (.pair (.sl (.pair .str .str)) (.sl (.pair .str (.int .i64))))) w cs d (fun _=>True):=by
 obtain⟨ys,n,_,_,hl,hn,hf⟩:=DataW.trod_struct Tryz.underlying376 h
 rw[show Tryz.prog.cellsOf 376=3 from by kernel_rfl]at hl
 obtain⟨c0,c1,c2,rfl⟩:=len3 hl
 have f0:=hf 0 _ rfl
 rw[zc (by rw[hn];decide)]at f0
 obtain⟨y0,g0⟩:∃y,DataW.trod enc Tryz.prog w 0 spare held n 3 [c0]=some y:=⟨_,by simpa[show Tryz.prog.cellsOf 3=1 from by kernel_rfl]using f0⟩
 obtain⟨x0,r0⟩:=jay Tryz.underlying3 g0
 have f1:=hf 1 _ rfl
 rw[zc (by rw[hn];decide)]at f1
 obtain⟨y1,g1⟩:∃y,DataW.trod enc Tryz.prog w 0 spare held n 373 [c1]=some y:=⟨_,by simpa[show Tryz.prog.cellsOf 373=1 from by kernel_rfl]using f1⟩
 obtain⟨x1,r1⟩:=jH (r:=(.pair .str .str)) (by decide) Tryz.underlying373 (by kernel_rfl) (fun n cs y hy _=>jmT hy) g1
 have f2:=hf 2 _ rfl
 rw[zc (by rw[hn];decide)]at f2
 obtain⟨y2,g2⟩:∃y,DataW.trod enc Tryz.prog w 0 spare held n 374 [c2]=some y:=⟨_,by simpa[show Tryz.prog.cellsOf 374=1 from by kernel_rfl]using f2⟩
 obtain⟨x2,r2⟩:=jH (r:=(.pair .str (.int .i64))) (by decide) Tryz.underlying374 (by kernel_rfl) (fun n cs y hy _=>jk8 hy) g2
 exact⟨_,r0.cons (r1.cons r2)⟩
theorem jlN {fuel:Nat} {cs:List Value} {x:DataW H×List MemPlace} (h:DataW.trod enc Tryz.prog w 0 spare held fuel 403 cs=some x):∃d,RdC (.pair (.int .i64) (.sl (.int .i64))) w cs d (fun _=>True):=by
 obtain⟨ys,n,_,_,hl,hn,hf⟩:=DataW.trod_struct Tryz.underlying403 h
 rw[show Tryz.prog.cellsOf 403=2 from by kernel_rfl]at hl
 obtain⟨c0,c1,rfl⟩:=len2 hl
 have f0:=hf 0 _ rfl
 rw[zc (by rw[hn];decide)]at f0
 obtain⟨y0,g0⟩:∃y,DataW.trod enc Tryz.prog w 0 spare held n 3 [c0]=some y:=⟨_,by simpa[show Tryz.prog.cellsOf 3=1 from by kernel_rfl]using f0⟩
 obtain⟨x0,r0⟩:=jay Tryz.underlying3 g0
 have f1:=hf 1 _ rfl
 rw[zc (by rw[hn];decide)]at f1
 obtain⟨y1,g1⟩:∃y,DataW.trod enc Tryz.prog w 0 spare held n 89 [c1]=some y:=⟨_,by simpa[show Tryz.prog.cellsOf 89=1 from by kernel_rfl]using f1⟩
 obtain⟨x1,r1⟩:=jH (r:=(.int .i64)) (by decide) Tryz.underlying89 (by kernel_rfl) (fun n cs y hy _=>jay Tryz.underlying3 hy) g1
 exact⟨_,r0.cons r1⟩
theorem jps {fuel:Nat} {cs:List Value} {x:DataW H×List MemPlace} (h:DataW.trod enc Tryz.prog w 0 spare held fuel 380 cs=some x):∃d,RdC (.pair .str (.pair .str (.sl (.pair (.int .i64) (.sl (.int .i64)))))) w cs d (fun _=>True):=by
 obtain⟨ys,n,_,_,hl,hn,hf⟩:=DataW.trod_struct Tryz.underlying380 h
 rw[show Tryz.prog.cellsOf 380=3 from by kernel_rfl]at hl
 obtain⟨c0,c1,c2,rfl⟩:=len3 hl
 have f0:=hf 0 _ rfl
 rw[zc (by rw[hn];decide)]at f0
 obtain⟨y0,g0⟩:∃y,DataW.trod enc Tryz.prog w 0 spare held n 9 [c0]=some y:=⟨_,by simpa[show Tryz.prog.cellsOf 9=1 from by kernel_rfl]using f0⟩
 obtain⟨x0,r0⟩:=jN Tryz.underlying9 g0
 have f1:=hf 1 _ rfl
 rw[zc (by rw[hn];decide)]at f1
 obtain⟨y1,g1⟩:∃y,DataW.trod enc Tryz.prog w 0 spare held n 9 [c1]=some y:=⟨_,by simpa[show Tryz.prog.cellsOf 9=1 from by kernel_rfl]using f1⟩
 obtain⟨x1,r1⟩:=jN Tryz.underlying9 g1
 have f2:=hf 2 _ rfl
 rw[zc (by rw[hn];decide)]at f2
 obtain⟨y2,g2⟩:∃y,DataW.trod enc Tryz.prog w 0 spare held n 378 [c2]=some y:=⟨_,by simpa[show Tryz.prog.cellsOf 378=1 from by kernel_rfl]using f2⟩
 obtain⟨x2,r2⟩:=jH (r:=(.pair (.int .i64) (.sl (.int .i64)))) (by decide) Tryz.underlying378 (by kernel_rfl) (fun n cs y hy _=>jlN hy) g2
 exact⟨_,r0.cons (r1.cons r2)⟩
theorem jo2 {fuel:Nat} {cs:List Value} {x:DataW H×List MemPlace} (h:DataW.trod enc Tryz.prog w 0 spare held fuel 219 cs=some x):∃d,RdC (.pair (.sl (.pair (.int .i64) (.pair (.sl (.pair .str .str)) (.sl (.pair .str (.int .i64)))))) (.sl (.pair .str (.pair .str (.sl (.pair (.int .i64) (.sl (.int .i64)))))))) w cs d (fun _=>True):=by
 obtain⟨ys,n,_,_,hl,hn,hf⟩:=DataW.trod_struct Tryz.underlying219 h
 rw[show Tryz.prog.cellsOf 219=2 from by kernel_rfl]at hl
 obtain⟨c0,c1,rfl⟩:=len2 hl
 have f0:=hf 0 _ rfl
 rw[zc (by rw[hn];decide)]at f0
 obtain⟨y0,g0⟩:∃y,DataW.trod enc Tryz.prog w 0 spare held n 216 [c0]=some y:=⟨_,by simpa[show Tryz.prog.cellsOf 216=1 from by kernel_rfl]using f0⟩
 obtain⟨x0,r0⟩:=jH (r:=(.pair (.int .i64) (.pair (.sl (.pair .str .str)) (.sl (.pair .str (.int .i64)))))) (by decide) Tryz.underlying216 (by kernel_rfl) (fun n cs y hy _=>jpL hy) g0
 have f1:=hf 1 _ rfl
 rw[zc (by rw[hn];decide)]at f1
 obtain⟨y1,g1⟩:∃y,DataW.trod enc Tryz.prog w 0 spare held n 217 [c1]=some y:=⟨_,by simpa[show Tryz.prog.cellsOf 217=1 from by kernel_rfl]using f1⟩
 obtain⟨x1,r1⟩:=jH (r:=(.pair .str (.pair .str (.sl (.pair (.int .i64) (.sl (.int .i64))))))) (by decide) Tryz.underlying217 (by kernel_rfl) (fun n cs y hy _=>jps hy) g1
 exact⟨_,r0.cons r1⟩
theorem jId {fuel:Nat} {cs:List Value} {x:DataW H×List MemPlace} (h:DataW.trod enc Tryz.prog w 0 spare held fuel 221 cs=some x):∃d,RdC (.pair (.pair (.sl (.pair (.int .i64) (.pair (.sl (.pair .str .str)) (.sl (.pair .str (.int .i64)))))) (.sl (.pair .str (.pair .str (.sl (.pair (.int .i64) (.sl (.int .i64)))))))) (.sl (.int .i64))) w cs d (fun _=>True):=by
 obtain⟨ys,n,_,_,hl,hn,hf⟩:=DataW.trod_struct Tryz.underlying221 h
 rw[show Tryz.prog.cellsOf 221=3 from by kernel_rfl]at hl
 obtain⟨c0,c1,c2,rfl⟩:=len3 hl
 have f0:=hf 0 _ rfl
 rw[zc (by rw[hn];decide)]at f0
 obtain⟨y0,g0⟩:∃y,DataW.trod enc Tryz.prog w 0 spare held n 219 [c0,c1]=some y:=⟨_,by simpa[show Tryz.prog.cellsOf 219=2 from by kernel_rfl]using f0⟩
 obtain⟨x0,r0⟩:=jo2 g0
 have f1:=hf 1 _ rfl
 rw[zc (by rw[hn];decide)]at f1
 obtain⟨y1,g1⟩:∃y,DataW.trod enc Tryz.prog w 0 spare held n 89 [c2]=some y:=⟨_,by simpa[show Tryz.prog.cellsOf 89=1 from by kernel_rfl]using f1⟩
 obtain⟨x1,r1⟩:=jH (r:=(.int .i64)) (by decide) Tryz.underlying89 (by kernel_rfl) (fun n cs y hy _=>jay Tryz.underlying3 hy) g1
 exact⟨_,r0.app r1⟩
theorem jIM {fuel:Nat} {cs:List Value} {x:DataW H×List MemPlace} (h:DataW.trod enc Tryz.prog w 0 spare held fuel 67 cs=some x):∃d,RdC (.pair (.pair (.sl .str) (.sl (.pair (.sl .str) .str))) (.sl (.pair (.pair (.sl (.pair (.int .i64) (.pair (.sl (.pair .str .str)) (.sl (.pair .str (.int .i64)))))) (.sl (.pair .str (.pair .str (.sl (.pair (.int .i64) (.sl (.int .i64)))))))) (.sl (.int .i64))))) w cs d (fun _=>True):=by
 obtain⟨ys,n,_,_,hl,hn,hf⟩:=DataW.trod_struct Tryz.underlying67 h
 rw[show Tryz.prog.cellsOf 67=3 from by kernel_rfl]at hl
 obtain⟨c0,c1,c2,rfl⟩:=len3 hl
 have f0:=hf 0 _ rfl
 rw[zc (by rw[hn];decide)]at f0
 obtain⟨y0,g0⟩:∃y,DataW.trod enc Tryz.prog w 0 spare held n 64 [c0,c1]=some y:=⟨_,by simpa[show Tryz.prog.cellsOf 64=2 from by kernel_rfl]using f0⟩
 obtain⟨x0,r0⟩:=jkp g0
 have f1:=hf 1 _ rfl
 rw[zc (by rw[hn];decide)]at f1
 obtain⟨y1,g1⟩:∃y,DataW.trod enc Tryz.prog w 0 spare held n 65 [c2]=some y:=⟨_,by simpa[show Tryz.prog.cellsOf 65=1 from by kernel_rfl]using f1⟩
 obtain⟨x1,r1⟩:=jH (r:=(.pair (.pair (.sl (.pair (.int .i64) (.pair (.sl (.pair .str .str)) (.sl (.pair .str (.int .i64)))))) (.sl (.pair .str (.pair .str (.sl (.pair (.int .i64) (.sl (.int .i64)))))))) (.sl (.int .i64)))) (by decide) Tryz.underlying65 (by kernel_rfl) (fun n cs y hy _=>jId hy) g1
 exact⟨_,r0.app r1⟩
theorem jEE {fuel:Nat} {cs:List Value} {x:DataW H×List MemPlace} (h:DataW.trod enc Tryz.prog w 0 spare held fuel 344 cs=some x):∃d,RdC (.pair (.int .i64) (.int .i64)) w cs d (fun _=>True):=by
 obtain⟨ys,n,_,_,hl,hn,hf⟩:=DataW.trod_struct Tryz.underlying344 h
 rw[show Tryz.prog.cellsOf 344=2 from by kernel_rfl]at hl
 obtain⟨c0,c1,rfl⟩:=len2 hl
 have f0:=hf 0 _ rfl
 rw[zc (by rw[hn];decide)]at f0
 obtain⟨y0,g0⟩:∃y,DataW.trod enc Tryz.prog w 0 spare held n 3 [c0]=some y:=⟨_,by simpa[show Tryz.prog.cellsOf 3=1 from by kernel_rfl]using f0⟩
 obtain⟨x0,r0⟩:=jay Tryz.underlying3 g0
 have f1:=hf 1 _ rfl
 rw[zc (by rw[hn];decide)]at f1
 obtain⟨y1,g1⟩:∃y,DataW.trod enc Tryz.prog w 0 spare held n 3 [c1]=some y:=⟨_,by simpa[show Tryz.prog.cellsOf 3=1 from by kernel_rfl]using f1⟩
 obtain⟨x1,r1⟩:=jay Tryz.underlying3 g1
 exact⟨_,r0.cons r1⟩
theorem jQh {fuel:Nat} {cs:List Value} {x:DataW H×List MemPlace} (h:DataW.trod enc Tryz.prog w 0 spare held fuel 213 cs=some x):∃d,RdC (.pair .str (.sl (.pair (.int .i64) (.int .i64)))) w cs d (fun _=>True):=by
 obtain⟨ys,n,_,_,hl,hn,hf⟩:=DataW.trod_struct Tryz.underlying213 h
 rw[show Tryz.prog.cellsOf 213=2 from by kernel_rfl]at hl
 obtain⟨c0,c1,rfl⟩:=len2 hl
 have f0:=hf 0 _ rfl
 rw[zc (by rw[hn];decide)]at f0
 obtain⟨y0,g0⟩:∃y,DataW.trod enc Tryz.prog w 0 spare held n 9 [c0]=some y:=⟨_,by simpa[show Tryz.prog.cellsOf 9=1 from by kernel_rfl]using f0⟩
 obtain⟨x0,r0⟩:=jN Tryz.underlying9 g0
 have f1:=hf 1 _ rfl
 rw[zc (by rw[hn];decide)]at f1
 obtain⟨y1,g1⟩:∃y,DataW.trod enc Tryz.prog w 0 spare held n 211 [c1]=some y:=⟨_,by simpa[show Tryz.prog.cellsOf 211=1 from by kernel_rfl]using f1⟩
 obtain⟨x1,r1⟩:=jH (r:=(.pair (.int .i64) (.int .i64))) (by decide) Tryz.underlying211 (by kernel_rfl) (fun n cs y hy _=>jEE hy) g1
 exact⟨_,r0.cons r1⟩
theorem jQr {fuel:Nat} {cs:List Value} {x:DataW H×List MemPlace} (h:DataW.trod enc Tryz.prog w 0 spare held fuel 61 cs=some x):∃d,RdC (.pair (.int .i64) (.pair (.int .i64) (.sl (.pair .str (.sl (.pair (.int .i64) (.int .i64))))))) w cs d (fun _=>True):=by
 obtain⟨ys,n,_,_,hl,hn,hf⟩:=DataW.trod_struct Tryz.underlying61 h
 rw[show Tryz.prog.cellsOf 61=3 from by kernel_rfl]at hl
 obtain⟨c0,c1,c2,rfl⟩:=len3 hl
 have f0:=hf 0 _ rfl
 rw[zc (by rw[hn];decide)]at f0
 obtain⟨y0,g0⟩:∃y,DataW.trod enc Tryz.prog w 0 spare held n 3 [c0]=some y:=⟨_,by simpa[show Tryz.prog.cellsOf 3=1 from by kernel_rfl]using f0⟩
 obtain⟨x0,r0⟩:=jay Tryz.underlying3 g0
 have f1:=hf 1 _ rfl
 rw[zc (by rw[hn];decide)]at f1
 obtain⟨y1,g1⟩:∃y,DataW.trod enc Tryz.prog w 0 spare held n 3 [c1]=some y:=⟨_,by simpa[show Tryz.prog.cellsOf 3=1 from by kernel_rfl]using f1⟩
 obtain⟨x1,r1⟩:=jay Tryz.underlying3 g1
 have f2:=hf 2 _ rfl
 rw[zc (by rw[hn];decide)]at f2
 obtain⟨y2,g2⟩:∃y,DataW.trod enc Tryz.prog w 0 spare held n 59 [c2]=some y:=⟨_,by simpa[show Tryz.prog.cellsOf 59=1 from by kernel_rfl]using f2⟩
 obtain⟨x2,r2⟩:=jH (r:=(.pair .str (.sl (.pair (.int .i64) (.int .i64))))) (by decide) Tryz.underlying59 (by kernel_rfl) (fun n cs y hy _=>jQh hy) g2
 exact⟨_,r0.cons (r1.cons r2)⟩
theorem jBR {H:Type} {ec:TypeId×Value->H} {P:Program} {w:World} {spare:Nat->Bool} {held:Bool} {fuel:Nat} {t e:TypeId} {cs:List Value} {x:DataW H×List MemPlace} {α:Type} {m:Nat} {C:CRep α} (hm0:0<m) (ht:P.underlying t=some (.slice e)) (hm:P.cellsOf e=m)
  (hel:∀(n:Nat) (cs:List Value) (y:DataW H×List MemPlace),n<fuel->DataW.trod ec P w 0 spare held n e cs=some y->cs.length=m->∃d:α,C w cs d (fun _=>True))
  (h:DataW.trod ec P w 0 spare held fuel t cs=some x):∃v xs,cs=[v]/\SRep m C w v xs (fun _=>True):=by
 rcases DataW.trod_slice ht h with⟨rfl,_⟩|⟨a,len,cap,elems,rest,n,hfu,rfl,_,_,hl,hcm,hlen,he,_⟩
 .exact ⟨_,[],rfl,SRep.nil _ _ _ _⟩
 .rw [hm]at he
  obtain⟨xs,hxl,hx⟩:=choose_list (fun i (d:α)=>∃cs',w.cells? 0 (a.add (i*m)) m=some cs'/\C w cs' d (fun _=>True)) len (fun i hi=>by
   have h1:=he i hi
   rw[zc (by omega)]at h1
   obtain⟨cs',h2,h3⟩:=zaw.1 h1
   obtain⟨d,hd⟩:=hel n cs' _ (by omega) h3 (World.cells?_some h2).2.1
   exact⟨d,cs',h2,hd⟩)
  refine⟨_,xs,rfl,some a,cap,by rw[hxl],by simp only[maxLen]at hcm;exact⟨by omega,by omega⟩,fun i d hd=>?_⟩
  obtain⟨cs',h1,h2⟩:=hx i d hd
  obtain⟨_,hn,hc⟩:=World.cells?_some h1
  have hsome:∀j c,cs'[j]? =some c->w.cell? (a.add (i*m+j))=some c:=by
   intro j c hj
   obtain⟨hj1,rfl⟩:=zh.1 hj
   rw[<-Addr.add_add]
   exact(hc j (by omega)).trans hj
  obtain⟨b,o,rfl⟩:∃b o,a=⟨b,o,none⟩:=by
   have hi:i<len:=by have:=(zh.1 hd).1;omega
   obtain⟨cs0,k1,_⟩:=hx 0 (xs[0]'(by omega)) (by simp)
   obtain⟨_,kn,kc⟩:=World.cells?_some k1
   have h0:=kc 0 hm0
   rw[zc (by omega),Addr.add_add]at h0
   obtain⟨b,o,sp⟩:=a
   cases sp with
   |none=>exact⟨b,o,rfl⟩
   |some sp=>
    exfalso
    simp only[World.cell?,Addr.add,Nat.zero_mul,zbz,if_true]at h0
    split at h0
    .simp at h0
    .cases h0
  have hb:b<w.heap.size:=by
   have h0:=hsome 0 (cs'[0]'(by omega)) (by simp)
   rw[add_at]at h0
   exact lt_of_cell h0
  exact⟨b,o,cs',rfl,trivial,hb,hn,fun j c hj=>by rw[zbv,<-add_at];exact hsome j c hj,h2⟩
theorem jAX {H:Type} {ec:TypeId×Value->H} {P:Program} {w:World} {spare:Nat->Bool} {held:Bool} {r:Tp} {fuel:Nat} {t e:TypeId} {cs:List Value} {x:DataW H×List MemPlace} (hm0:0<r.w) (ht:P.underlying t=some (.slice e)) (hm:P.cellsOf e=r.w)
  (hel:∀(n:Nat) (cs:List Value) (y:DataW H×List MemPlace),n<fuel->DataW.trod ec P w 0 spare held n e cs=some y->cs.length=r.w->∃d,RdC r w cs d (fun _=>True))
  (h:DataW.trod ec P w 0 spare held fuel t cs=some x):∃d,RdC (.sl r) w cs d (fun _=>True):=by
 obtain⟨v,xs,rfl,hs⟩:=jBR (C:=RdC r) hm0 ht hm hel h
 have hr:Rep w (WS w) v (.sl (xs.map (Go.Proofs.YtabhgjdikeipdaaGreatDoor.enc r))):=jsW (fun b o _ hb=>hb) (fun cs x hc=>⟨by rw[enc_len,hc.2.1],hc.2.2⟩) hs
 obtain⟨a,cap,_,hl,hat⟩:=hs
 refine⟨xs,⟨hl.1,fun y hy=>?_⟩,rfl,fun j c hj=>?_⟩
 .obtain ⟨i,hi,rfl⟩:=zav.1 hy
  obtain⟨_,_,_,_,_,_,_,_,hc⟩:=hat i xs[i] (zc hi)
  exact hc.1
 .match j,hj with
  |0,hj=>cases hj;exact⟨_,rfl,hr⟩
theorem jCB :∀(fuel:Nat) {cs:List Value} {x:DataW H×List MemPlace},DataW.trod enc Tryz.prog w 0 spare held fuel 70 cs=some x->∃d,RdC .q w cs d (fun _=>True):=by
 intro fuel
 induction fuel using Nat.strongRecOn with
 |_ fuel ih=>
 intro cs x h
 obtain⟨ys,n,hfu,_,hl,hn,hf⟩:=DataW.trod_struct Tryz.underlying70 h
 rw[show Tryz.prog.cellsOf 70=6 from by kernel_rfl]at hl
 obtain⟨c0,c1,c2,c3,c4,c5,rfl⟩:=len6 hl
 have f0:=hf 0 _ rfl
 rw[zc (by rw[hn];decide)]at f0
 obtain⟨y0,g0⟩:∃y,DataW.trod enc Tryz.prog w 0 spare held n 3 [c0]=some y:=⟨_,by simpa[show Tryz.prog.cellsOf 3=1 from by kernel_rfl]using f0⟩
 obtain⟨x0,r0⟩:=jay Tryz.underlying3 g0
 have f1:=hf 1 _ rfl
 rw[zc (by rw[hn];decide)]at f1
 obtain⟨y1,g1⟩:∃y,DataW.trod enc Tryz.prog w 0 spare held n 9 [c1]=some y:=⟨_,by simpa[show Tryz.prog.cellsOf 9=1 from by kernel_rfl]using f1⟩
 obtain⟨x1,r1⟩:=jN Tryz.underlying9 g1
 have f2:=hf 2 _ rfl
 rw[zc (by rw[hn];decide)]at f2
 obtain⟨y2,g2⟩:∃y,DataW.trod enc Tryz.prog w 0 spare held n 23 [c2]=some y:=⟨_,by simpa[show Tryz.prog.cellsOf 23=1 from by kernel_rfl]using f2⟩
 obtain⟨x2,r2⟩:=jH (r:=.str) (by decide) Tryz.underlying23 (by kernel_rfl) (fun n cs y hy _=>jN Tryz.underlying9 hy) g2
 have f3:=hf 3 _ rfl
 rw[zc (by rw[hn];decide)]at f3
 obtain⟨y3,g3⟩:∃y,DataW.trod enc Tryz.prog w 0 spare held n 3 [c3]=some y:=⟨_,by simpa[show Tryz.prog.cellsOf 3=1 from by kernel_rfl]using f3⟩
 obtain⟨x3,r3⟩:=jay Tryz.underlying3 g3
 have f4:=hf 4 _ rfl
 rw[zc (by rw[hn];decide)]at f4
 obtain⟨y4,g4⟩:∃y,DataW.trod enc Tryz.prog w 0 spare held n 3 [c4]=some y:=⟨_,by simpa[show Tryz.prog.cellsOf 3=1 from by kernel_rfl]using f4⟩
 obtain⟨x4,r4⟩:=jay Tryz.underlying3 g4
 have f5:=hf 5 _ rfl
 rw[zc (by rw[hn];decide)]at f5
 obtain⟨y5,g5⟩:∃y,DataW.trod enc Tryz.prog w 0 spare held n 68 [c5]=some y:=⟨_,by simpa[show Tryz.prog.cellsOf 68=1 from by kernel_rfl]using f5⟩
 obtain⟨x5,r5⟩:=jAX (r:=.q) (by decide) Tryz.underlying68 (by kernel_rfl) (fun m cs y hm hy _=>ih m (by omega) hy) g5
 obtain⟨o,_,hc⟩:=r0.cons (r1.cons (r2.cons (r3.cons (r4.cons r5))))
 refine⟨.mk x0 x1 x2 x3 x4 x5,?_,rfl,fun j c hj=>hc j c ?_⟩
 .obtain ⟨o0,o1,o2,o3,o4,o5⟩:=o
  exact OkQ.mk o0 o1 o2.1 o2.2 o3 o4 o5.1 o5.2
 .rw [<-hj]
  congr 1
  show _=encQ _
  simp only[encQ,encQs_eq]
  rfl
theorem jA6 {fuel:Nat} {cs:List Value} {x:DataW H×List MemPlace} (h:DataW.trod enc Tryz.prog w 0 spare held fuel 70 cs=some x):∃d,RdC (.pair (.int .i64) (.pair .str (.pair (.sl .str) (.pair (.int .i64) (.pair (.int .i64) (.sl .q)))))) w cs d (fun _=>True):=by
 obtain⟨ys,n,_,_,hl,hn,hf⟩:=DataW.trod_struct Tryz.underlying70 h
 rw[show Tryz.prog.cellsOf 70=6 from by kernel_rfl]at hl
 obtain⟨c0,c1,c2,c3,c4,c5,rfl⟩:=len6 hl
 have f0:=hf 0 _ rfl
 rw[zc (by rw[hn];decide)]at f0
 obtain⟨y0,g0⟩:∃y,DataW.trod enc Tryz.prog w 0 spare held n 3 [c0]=some y:=⟨_,by simpa[show Tryz.prog.cellsOf 3=1 from by kernel_rfl]using f0⟩
 obtain⟨x0,r0⟩:=jay Tryz.underlying3 g0
 have f1:=hf 1 _ rfl
 rw[zc (by rw[hn];decide)]at f1
 obtain⟨y1,g1⟩:∃y,DataW.trod enc Tryz.prog w 0 spare held n 9 [c1]=some y:=⟨_,by simpa[show Tryz.prog.cellsOf 9=1 from by kernel_rfl]using f1⟩
 obtain⟨x1,r1⟩:=jN Tryz.underlying9 g1
 have f2:=hf 2 _ rfl
 rw[zc (by rw[hn];decide)]at f2
 obtain⟨y2,g2⟩:∃y,DataW.trod enc Tryz.prog w 0 spare held n 23 [c2]=some y:=⟨_,by simpa[show Tryz.prog.cellsOf 23=1 from by kernel_rfl]using f2⟩
 obtain⟨x2,r2⟩:=jH (r:=.str) (by decide) Tryz.underlying23 (by kernel_rfl) (fun n cs y hy _=>jN Tryz.underlying9 hy) g2
 have f3:=hf 3 _ rfl
 rw[zc (by rw[hn];decide)]at f3
 obtain⟨y3,g3⟩:∃y,DataW.trod enc Tryz.prog w 0 spare held n 3 [c3]=some y:=⟨_,by simpa[show Tryz.prog.cellsOf 3=1 from by kernel_rfl]using f3⟩
 obtain⟨x3,r3⟩:=jay Tryz.underlying3 g3
 have f4:=hf 4 _ rfl
 rw[zc (by rw[hn];decide)]at f4
 obtain⟨y4,g4⟩:∃y,DataW.trod enc Tryz.prog w 0 spare held n 3 [c4]=some y:=⟨_,by simpa[show Tryz.prog.cellsOf 3=1 from by kernel_rfl]using f4⟩
 obtain⟨x4,r4⟩:=jay Tryz.underlying3 g4
 have f5:=hf 5 _ rfl
 rw[zc (by rw[hn];decide)]at f5
 obtain⟨y5,g5⟩:∃y,DataW.trod enc Tryz.prog w 0 spare held n 68 [c5]=some y:=⟨_,by simpa[show Tryz.prog.cellsOf 68=1 from by kernel_rfl]using f5⟩
 obtain⟨x5,r5⟩:=jH (r:=.q) (by decide) Tryz.underlying68 (by kernel_rfl) (fun n cs y hy _=>jCB _ hy) g5
 exact⟨_,r0.cons (r1.cons (r2.cons (r3.cons (r4.cons r5))))⟩
end
end Go.Proofs.YtabhgjdikeipdaaGreatDoor
