/- How the laws' struct types are read. -/
import Derived.Test.YtcinmmojlcchfaaGreatDoorKY
set_option linter.unusedSimpArgs false
set_option linter.unusedVariables false
namespace Go.Proofs.YtcinmmojlcchfaaGreatDoor
open Go.RowKit
theorem RdC.app {a b:Tp} {w:World} {cs es:List Value} {x:a.D} {y:b.D} {p:Blk} (h1:RdC a w cs x p) (h2:RdC b w es y p):RdC (.pair a b) w (cs++es) (x,y) p:=by
 refine⟨⟨h1.1,h2.1⟩,?_,fun j e hj=>?_⟩
 .have e1:=h1.2.1;have e2:=h2.2.1
  show(cs++es).length=a.w+b.w
  rw[zam]
  omega
 .have e1:(enc a x).length=cs.length:=by rw[enc_len,<-h1.2.1]
  have e2:enc (.pair a b) (x,y)=enc a x++enc b y:=by rw[enc]
  rw[e2]at hj
  by_cases hl:j<cs.length
  .rw [zay (by omega)]at hj
   obtain⟨u,hu,hr⟩:=h1.2.2 j e hj
   exact⟨u,by rw[zay hl];exact hu,hr⟩
  .rw [zaz (by omega),e1]at hj
   obtain⟨u,hu,hr⟩:=h2.2.2 (j-cs.length) e hj
   exact⟨u,by rw[zaz (by omega)];exact hu,hr⟩
section
variable {H : Type} {enc : TypeId × Value -> H} {w : World} {spare : Nat -> Bool} {held : Bool}
theorem jpJ {fuel:Nat} {cs:List Value} {x:DataW H×List MemPlace} (h:DataW.trod enc Tryz.prog w 0 spare held fuel 141 cs=some x):∃d,RdC (.pair (.sl .str) .str) w cs d (fun _=>True):=by
 obtain⟨ys,n,_,_,hl,hn,hf⟩:=DataW.trod_struct Tryz.underlying141 h
 rw[show Tryz.prog.cellsOf 141=2 from by kernel_rfl]at hl
 obtain⟨c0,c1,rfl⟩:=len2 hl
 have f0:=hf 0 _ rfl
 rw[zc (by rw[hn];decide)]at f0
 obtain⟨y0,g0⟩:∃y,DataW.trod enc Tryz.prog w 0 spare held n 22 [c0]=some y:=⟨_,by simpa[show Tryz.prog.cellsOf 22=1 from by kernel_rfl]using f0⟩
 obtain⟨x0,r0⟩:=jH (r:=.str) (by decide) Tryz.underlying22 (by kernel_rfl) (fun n cs y hy _=>jN Tryz.underlying9 hy) g0
 have f1:=hf 1 _ rfl
 rw[zc (by rw[hn];decide)]at f1
 obtain⟨y1,g1⟩:∃y,DataW.trod enc Tryz.prog w 0 spare held n 9 [c1]=some y:=⟨_,by simpa[show Tryz.prog.cellsOf 9=1 from by kernel_rfl]using f1⟩
 obtain⟨x1,r1⟩:=jN Tryz.underlying9 g1
 exact⟨_,r0.cons r1⟩
theorem jkp {fuel:Nat} {cs:List Value} {x:DataW H×List MemPlace} (h:DataW.trod enc Tryz.prog w 0 spare held fuel 25 cs=some x):∃d,RdC (.pair (.sl .str) (.sl (.pair (.sl .str) .str))) w cs d (fun _=>True):=by
 obtain⟨ys,n,_,_,hl,hn,hf⟩:=DataW.trod_struct Tryz.underlying25 h
 rw[show Tryz.prog.cellsOf 25=2 from by kernel_rfl]at hl
 obtain⟨c0,c1,rfl⟩:=len2 hl
 have f0:=hf 0 _ rfl
 rw[zc (by rw[hn];decide)]at f0
 obtain⟨y0,g0⟩:∃y,DataW.trod enc Tryz.prog w 0 spare held n 22 [c0]=some y:=⟨_,by simpa[show Tryz.prog.cellsOf 22=1 from by kernel_rfl]using f0⟩
 obtain⟨x0,r0⟩:=jH (r:=.str) (by decide) Tryz.underlying22 (by kernel_rfl) (fun n cs y hy _=>jN Tryz.underlying9 hy) g0
 have f1:=hf 1 _ rfl
 rw[zc (by rw[hn];decide)]at f1
 obtain⟨y1,g1⟩:∃y,DataW.trod enc Tryz.prog w 0 spare held n 23 [c1]=some y:=⟨_,by simpa[show Tryz.prog.cellsOf 23=1 from by kernel_rfl]using f1⟩
 obtain⟨x1,r1⟩:=jH (r:=(.pair (.sl .str) .str)) (by decide) Tryz.underlying23 (by kernel_rfl) (fun n cs y hy _=>jpJ hy) g1
 exact⟨_,r0.cons r1⟩
theorem jmT {fuel:Nat} {cs:List Value} {x:DataW H×List MemPlace} (h:DataW.trod enc Tryz.prog w 0 spare held fuel 369 cs=some x):∃d,RdC (.pair .str .str) w cs d (fun _=>True):=by
 obtain⟨ys,n,_,_,hl,hn,hf⟩:=DataW.trod_struct Tryz.underlying369 h
 rw[show Tryz.prog.cellsOf 369=2 from by kernel_rfl]at hl
 obtain⟨c0,c1,rfl⟩:=len2 hl
 have f0:=hf 0 _ rfl
 rw[zc (by rw[hn];decide)]at f0
 obtain⟨y0,g0⟩:∃y,DataW.trod enc Tryz.prog w 0 spare held n 9 [c0]=some y:=⟨_,by simpa[show Tryz.prog.cellsOf 9=1 from by kernel_rfl]using f0⟩
 obtain⟨x0,r0⟩:=jN Tryz.underlying9 g0
 have f1:=hf 1 _ rfl
 rw[zc (by rw[hn];decide)]at f1
 obtain⟨y1,g1⟩:∃y,DataW.trod enc Tryz.prog w 0 spare held n 9 [c1]=some y:=⟨_,by simpa[show Tryz.prog.cellsOf 9=1 from by kernel_rfl]using f1⟩
 obtain⟨x1,r1⟩:=jN Tryz.underlying9 g1
 exact⟨_,r0.cons r1⟩
theorem jk8 {fuel:Nat} {cs:List Value} {x:DataW H×List MemPlace} (h:DataW.trod enc Tryz.prog w 0 spare held fuel 371 cs=some x):∃d,RdC (.pair .str (.int .i64)) w cs d (fun _=>True):=by
 obtain⟨ys,n,_,_,hl,hn,hf⟩:=DataW.trod_struct Tryz.underlying371 h
 rw[show Tryz.prog.cellsOf 371=2 from by kernel_rfl]at hl
 obtain⟨c0,c1,rfl⟩:=len2 hl
 have f0:=hf 0 _ rfl
 rw[zc (by rw[hn];decide)]at f0
 obtain⟨y0,g0⟩:∃y,DataW.trod enc Tryz.prog w 0 spare held n 9 [c0]=some y:=⟨_,by simpa[show Tryz.prog.cellsOf 9=1 from by kernel_rfl]using f0⟩
 obtain⟨x0,r0⟩:=jN Tryz.underlying9 g0
 have f1:=hf 1 _ rfl
 rw[zc (by rw[hn];decide)]at f1
 obtain⟨y1,g1⟩:∃y,DataW.trod enc Tryz.prog w 0 spare held n 3 [c1]=some y:=⟨_,by simpa[show Tryz.prog.cellsOf 3=1 from by kernel_rfl]using f1⟩
 obtain⟨x1,r1⟩:=jay Tryz.underlying3 g1
 exact⟨_,r0.cons r1⟩
theorem jpL {fuel:Nat} {cs:List Value} {x:DataW H×List MemPlace} (h:DataW.trod enc Tryz.prog w 0 spare held fuel 340 cs=some x):∃d,RdC (.pair (.int .i64) (.pair (.sl (.pair .str .str)) (.sl (.pair .str (.int .i64))))) w cs d (fun _=>True):=by
 obtain⟨ys,n,_,_,hl,hn,hf⟩:=DataW.trod_struct Tryz.underlying340 h
 rw[show Tryz.prog.cellsOf 340=3 from by kernel_rfl]at hl
 obtain⟨c0,c1,c2,rfl⟩:=len3 hl
 have f0:=hf 0 _ rfl
 rw[zc (by rw[hn];decide)]at f0
 obtain⟨y0,g0⟩:∃y,DataW.trod enc Tryz.prog w 0 spare held n 3 [c0]=some y:=⟨_,by simpa[show Tryz.prog.cellsOf 3=1 from by kernel_rfl]using f0⟩
 obtain⟨x0,r0⟩:=jay Tryz.underlying3 g0
 have f1:=hf 1 _ rfl
 rw[zc (by rw[hn];decide)]at f1
 obtain⟨y1,g1⟩:∃y,DataW.trod enc Tryz.prog w 0 spare held n 337 [c1]=some y:=⟨_,by simpa[show Tryz.prog.cellsOf 337=1 from by kernel_rfl]using f1⟩
 obtain⟨x1,r1⟩:=jH (r:=(.pair .str .str)) (by decide) Tryz.underlying337 (by kernel_rfl) (fun n cs y hy _=>jmT hy) g1
 have f2:=hf 2 _ rfl
 rw[zc (by rw[hn];decide)]at f2
 obtain⟨y2,g2⟩:∃y,DataW.trod enc Tryz.prog w 0 spare held n 338 [c2]=some y:=⟨_,by simpa[show Tryz.prog.cellsOf 338=1 from by kernel_rfl]using f2⟩
 obtain⟨x2,r2⟩:=jH (r:=(.pair .str (.int .i64))) (by decide) Tryz.underlying338 (by kernel_rfl) (fun n cs y hy _=>jk8 hy) g2
 exact⟨_,r0.cons (r1.cons r2)⟩
theorem jlN {fuel:Nat} {cs:List Value} {x:DataW H×List MemPlace} (h:DataW.trod enc Tryz.prog w 0 spare held fuel 373 cs=some x):∃d,RdC (.pair (.int .i64) (.sl (.int .i64))) w cs d (fun _=>True):=by
 obtain⟨ys,n,_,_,hl,hn,hf⟩:=DataW.trod_struct Tryz.underlying373 h
 rw[show Tryz.prog.cellsOf 373=2 from by kernel_rfl]at hl
 obtain⟨c0,c1,rfl⟩:=len2 hl
 have f0:=hf 0 _ rfl
 rw[zc (by rw[hn];decide)]at f0
 obtain⟨y0,g0⟩:∃y,DataW.trod enc Tryz.prog w 0 spare held n 3 [c0]=some y:=⟨_,by simpa[show Tryz.prog.cellsOf 3=1 from by kernel_rfl]using f0⟩
 obtain⟨x0,r0⟩:=jay Tryz.underlying3 g0
 have f1:=hf 1 _ rfl
 rw[zc (by rw[hn];decide)]at f1
 obtain⟨y1,g1⟩:∃y,DataW.trod enc Tryz.prog w 0 spare held n 31 [c1]=some y:=⟨_,by simpa[show Tryz.prog.cellsOf 31=1 from by kernel_rfl]using f1⟩
 obtain⟨x1,r1⟩:=jH (r:=(.int .i64)) (by decide) Tryz.underlying31 (by kernel_rfl) (fun n cs y hy _=>jay Tryz.underlying3 hy) g1
 exact⟨_,r0.cons r1⟩
theorem jps {fuel:Nat} {cs:List Value} {x:DataW H×List MemPlace} (h:DataW.trod enc Tryz.prog w 0 spare held fuel 344 cs=some x):∃d,RdC (.pair .str (.pair .str (.sl (.pair (.int .i64) (.sl (.int .i64)))))) w cs d (fun _=>True):=by
 obtain⟨ys,n,_,_,hl,hn,hf⟩:=DataW.trod_struct Tryz.underlying344 h
 rw[show Tryz.prog.cellsOf 344=3 from by kernel_rfl]at hl
 obtain⟨c0,c1,c2,rfl⟩:=len3 hl
 have f0:=hf 0 _ rfl
 rw[zc (by rw[hn];decide)]at f0
 obtain⟨y0,g0⟩:∃y,DataW.trod enc Tryz.prog w 0 spare held n 9 [c0]=some y:=⟨_,by simpa[show Tryz.prog.cellsOf 9=1 from by kernel_rfl]using f0⟩
 obtain⟨x0,r0⟩:=jN Tryz.underlying9 g0
 have f1:=hf 1 _ rfl
 rw[zc (by rw[hn];decide)]at f1
 obtain⟨y1,g1⟩:∃y,DataW.trod enc Tryz.prog w 0 spare held n 9 [c1]=some y:=⟨_,by simpa[show Tryz.prog.cellsOf 9=1 from by kernel_rfl]using f1⟩
 obtain⟨x1,r1⟩:=jN Tryz.underlying9 g1
 have f2:=hf 2 _ rfl
 rw[zc (by rw[hn];decide)]at f2
 obtain⟨y2,g2⟩:∃y,DataW.trod enc Tryz.prog w 0 spare held n 342 [c2]=some y:=⟨_,by simpa[show Tryz.prog.cellsOf 342=1 from by kernel_rfl]using f2⟩
 obtain⟨x2,r2⟩:=jH (r:=(.pair (.int .i64) (.sl (.int .i64)))) (by decide) Tryz.underlying342 (by kernel_rfl) (fun n cs y hy _=>jlN hy) g2
 exact⟨_,r0.cons (r1.cons r2)⟩
theorem jo2 {fuel:Nat} {cs:List Value} {x:DataW H×List MemPlace} (h:DataW.trod enc Tryz.prog w 0 spare held fuel 211 cs=some x):∃d,RdC (.pair (.sl (.pair (.int .i64) (.pair (.sl (.pair .str .str)) (.sl (.pair .str (.int .i64)))))) (.sl (.pair .str (.pair .str (.sl (.pair (.int .i64) (.sl (.int .i64)))))))) w cs d (fun _=>True):=by
 obtain⟨ys,n,_,_,hl,hn,hf⟩:=DataW.trod_struct Tryz.underlying211 h
 rw[show Tryz.prog.cellsOf 211=2 from by kernel_rfl]at hl
 obtain⟨c0,c1,rfl⟩:=len2 hl
 have f0:=hf 0 _ rfl
 rw[zc (by rw[hn];decide)]at f0
 obtain⟨y0,g0⟩:∃y,DataW.trod enc Tryz.prog w 0 spare held n 208 [c0]=some y:=⟨_,by simpa[show Tryz.prog.cellsOf 208=1 from by kernel_rfl]using f0⟩
 obtain⟨x0,r0⟩:=jH (r:=(.pair (.int .i64) (.pair (.sl (.pair .str .str)) (.sl (.pair .str (.int .i64)))))) (by decide) Tryz.underlying208 (by kernel_rfl) (fun n cs y hy _=>jpL hy) g0
 have f1:=hf 1 _ rfl
 rw[zc (by rw[hn];decide)]at f1
 obtain⟨y1,g1⟩:∃y,DataW.trod enc Tryz.prog w 0 spare held n 209 [c1]=some y:=⟨_,by simpa[show Tryz.prog.cellsOf 209=1 from by kernel_rfl]using f1⟩
 obtain⟨x1,r1⟩:=jH (r:=(.pair .str (.pair .str (.sl (.pair (.int .i64) (.sl (.int .i64))))))) (by decide) Tryz.underlying209 (by kernel_rfl) (fun n cs y hy _=>jps hy) g1
 exact⟨_,r0.cons r1⟩
theorem jId {fuel:Nat} {cs:List Value} {x:DataW H×List MemPlace} (h:DataW.trod enc Tryz.prog w 0 spare held fuel 213 cs=some x):∃d,RdC (.pair (.pair (.sl (.pair (.int .i64) (.pair (.sl (.pair .str .str)) (.sl (.pair .str (.int .i64)))))) (.sl (.pair .str (.pair .str (.sl (.pair (.int .i64) (.sl (.int .i64)))))))) (.sl (.int .i64))) w cs d (fun _=>True):=by
 obtain⟨ys,n,_,_,hl,hn,hf⟩:=DataW.trod_struct Tryz.underlying213 h
 rw[show Tryz.prog.cellsOf 213=3 from by kernel_rfl]at hl
 obtain⟨c0,c1,c2,rfl⟩:=len3 hl
 have f0:=hf 0 _ rfl
 rw[zc (by rw[hn];decide)]at f0
 obtain⟨y0,g0⟩:∃y,DataW.trod enc Tryz.prog w 0 spare held n 211 [c0,c1]=some y:=⟨_,by simpa[show Tryz.prog.cellsOf 211=2 from by kernel_rfl]using f0⟩
 obtain⟨x0,r0⟩:=jo2 g0
 have f1:=hf 1 _ rfl
 rw[zc (by rw[hn];decide)]at f1
 obtain⟨y1,g1⟩:∃y,DataW.trod enc Tryz.prog w 0 spare held n 31 [c2]=some y:=⟨_,by simpa[show Tryz.prog.cellsOf 31=1 from by kernel_rfl]using f1⟩
 obtain⟨x1,r1⟩:=jH (r:=(.int .i64)) (by decide) Tryz.underlying31 (by kernel_rfl) (fun n cs y hy _=>jay Tryz.underlying3 hy) g1
 exact⟨_,r0.app r1⟩
theorem jIM {fuel:Nat} {cs:List Value} {x:DataW H×List MemPlace} (h:DataW.trod enc Tryz.prog w 0 spare held fuel 75 cs=some x):∃d,RdC (.pair (.pair (.sl .str) (.sl (.pair (.sl .str) .str))) (.sl (.pair (.pair (.sl (.pair (.int .i64) (.pair (.sl (.pair .str .str)) (.sl (.pair .str (.int .i64)))))) (.sl (.pair .str (.pair .str (.sl (.pair (.int .i64) (.sl (.int .i64)))))))) (.sl (.int .i64))))) w cs d (fun _=>True):=by
 obtain⟨ys,n,_,_,hl,hn,hf⟩:=DataW.trod_struct Tryz.underlying75 h
 rw[show Tryz.prog.cellsOf 75=3 from by kernel_rfl]at hl
 obtain⟨c0,c1,c2,rfl⟩:=len3 hl
 have f0:=hf 0 _ rfl
 rw[zc (by rw[hn];decide)]at f0
 obtain⟨y0,g0⟩:∃y,DataW.trod enc Tryz.prog w 0 spare held n 25 [c0,c1]=some y:=⟨_,by simpa[show Tryz.prog.cellsOf 25=2 from by kernel_rfl]using f0⟩
 obtain⟨x0,r0⟩:=jkp g0
 have f1:=hf 1 _ rfl
 rw[zc (by rw[hn];decide)]at f1
 obtain⟨y1,g1⟩:∃y,DataW.trod enc Tryz.prog w 0 spare held n 73 [c2]=some y:=⟨_,by simpa[show Tryz.prog.cellsOf 73=1 from by kernel_rfl]using f1⟩
 obtain⟨x1,r1⟩:=jH (r:=(.pair (.pair (.sl (.pair (.int .i64) (.pair (.sl (.pair .str .str)) (.sl (.pair .str (.int .i64)))))) (.sl (.pair .str (.pair .str (.sl (.pair (.int .i64) (.sl (.int .i64)))))))) (.sl (.int .i64)))) (by decide) Tryz.underlying73 (by kernel_rfl) (fun n cs y hy _=>jId hy) g1
 exact⟨_,r0.app r1⟩
theorem jZW {fuel:Nat} {cs:List Value} {x:DataW H×List MemPlace} (h:DataW.trod enc Tryz.prog w 0 spare held fuel 196 cs=some x):∃d,RdC (.pair .str .str) w cs d (fun _=>True):=by
 obtain⟨ys,n,_,_,hl,hn,hf⟩:=DataW.trod_struct Tryz.underlying196 h
 rw[show Tryz.prog.cellsOf 196=2 from by kernel_rfl]at hl
 obtain⟨c0,c1,rfl⟩:=len2 hl
 have f0:=hf 0 _ rfl
 rw[zc (by rw[hn];decide)]at f0
 obtain⟨y0,g0⟩:∃y,DataW.trod enc Tryz.prog w 0 spare held n 9 [c0]=some y:=⟨_,by simpa[show Tryz.prog.cellsOf 9=1 from by kernel_rfl]using f0⟩
 obtain⟨x0,r0⟩:=jN Tryz.underlying9 g0
 have f1:=hf 1 _ rfl
 rw[zc (by rw[hn];decide)]at f1
 obtain⟨y1,g1⟩:∃y,DataW.trod enc Tryz.prog w 0 spare held n 9 [c1]=some y:=⟨_,by simpa[show Tryz.prog.cellsOf 9=1 from by kernel_rfl]using f1⟩
 obtain⟨x1,r1⟩:=jN Tryz.underlying9 g1
 exact⟨_,r0.cons r1⟩
theorem jZ0 {fuel:Nat} {cs:List Value} {x:DataW H×List MemPlace} (h:DataW.trod enc Tryz.prog w 0 spare held fuel 62 cs=some x):∃d,RdC (.sl (.pair .str .str)) w cs d (fun _=>True):=by
 obtain⟨ys,n,_,_,hl,hn,hf⟩:=DataW.trod_struct Tryz.underlying62 h
 rw[show Tryz.prog.cellsOf 62=1 from by kernel_rfl]at hl
 obtain⟨c0,rfl⟩:=len1 hl
 have f0:=hf 0 _ rfl
 rw[zc (by rw[hn];decide)]at f0
 obtain⟨y0,g0⟩:∃y,DataW.trod enc Tryz.prog w 0 spare held n 60 [c0]=some y:=⟨_,by simpa[show Tryz.prog.cellsOf 60=1 from by kernel_rfl]using f0⟩
 obtain⟨x0,r0⟩:=jH (r:=(.pair .str .str)) (by decide) Tryz.underlying60 (by kernel_rfl) (fun n cs y hy _=>jZW hy) g0
 exact⟨_,r0⟩
end
end Go.Proofs.YtcinmmojlcchfaaGreatDoor
