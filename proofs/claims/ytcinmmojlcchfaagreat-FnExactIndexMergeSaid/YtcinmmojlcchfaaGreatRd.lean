/- How the laws' struct types are read. -/
import Derived.Test.YtcinmmojlcchfaaGreatKY
set_option linter.unusedSimpArgs false
set_option linter.unusedVariables false
namespace Go.Proofs.YtcinmmojlcchfaaGreat
open Go.RowKit
theorem RdC.app {a b:Tp} {w:World} {cs es:List Value} {x:a.D} {y:b.D} {p:Blk} (h1:RdC a w cs x p) (h2:RdC b w es y p):RdC (.pair a b) w (cs++es) (x,y) p:=by
 refine⟨⟨h1.1,h2.1⟩,?_,fun j e hj=>?_⟩
 .have e1:=h1.2.1;have e2:=h2.2.1
  show(cs++es).length=a.w+b.w
  rw[zam]
  omega
 .have e1:(enc a x).length=cs.length:=by rw[enc_len,<-h1.2.1]
  have e2:enc (.pair a b) (x,y)=enc a x++enc b y:=by rw[enc]
  rw[e2]at hj
  by_cases hl:j<cs.length
  .rw [zay (by omega)]at hj
   obtain⟨u,hu,hr⟩:=h1.2.2 j e hj
   exact⟨u,by rw[zay hl];exact hu,hr⟩
  .rw [zaz (by omega),e1]at hj
   obtain⟨u,hu,hr⟩:=h2.2.2 (j-cs.length) e hj
   exact⟨u,by rw[zaz (by omega)];exact hu,hr⟩
section
variable {H : Type} {enc : TypeId × Value -> H} {w : World} {spare : Nat -> Bool} {held : Bool}
theorem jpJ {fuel:Nat} {cs:List Value} {x:DataW H×List MemPlace} (h:DataW.trod enc Tryz.prog w 0 spare held fuel 122 cs=some x):∃d,RdC (.pair (.sl .str) .str) w cs d (fun _=>True):=by
 obtain⟨ys,n,_,_,hl,hn,hf⟩:=DataW.trod_struct Tryz.underlying122 h
 rw[show Tryz.prog.cellsOf 122=2 from by kernel_rfl]at hl
 obtain⟨c0,c1,rfl⟩:=len2 hl
 have f0:=hf 0 _ rfl
 rw[zc (by rw[hn];decide)]at f0
 obtain⟨y0,g0⟩:∃y,DataW.trod enc Tryz.prog w 0 spare held n 22 [c0]=some y:=⟨_,by simpa[show Tryz.prog.cellsOf 22=1 from by kernel_rfl]using f0⟩
 obtain⟨x0,r0⟩:=jH (r:=.str) (by decide) Tryz.underlying22 (by kernel_rfl) (fun n cs y hy _=>jN Tryz.underlying9 hy) g0
 have f1:=hf 1 _ rfl
 rw[zc (by rw[hn];decide)]at f1
 obtain⟨y1,g1⟩:∃y,DataW.trod enc Tryz.prog w 0 spare held n 9 [c1]=some y:=⟨_,by simpa[show Tryz.prog.cellsOf 9=1 from by kernel_rfl]using f1⟩
 obtain⟨x1,r1⟩:=jN Tryz.underlying9 g1
 exact⟨_,r0.cons r1⟩
theorem jkp {fuel:Nat} {cs:List Value} {x:DataW H×List MemPlace} (h:DataW.trod enc Tryz.prog w 0 spare held fuel 25 cs=some x):∃d,RdC (.pair (.sl .str) (.sl (.pair (.sl .str) .str))) w cs d (fun _=>True):=by
 obtain⟨ys,n,_,_,hl,hn,hf⟩:=DataW.trod_struct Tryz.underlying25 h
 rw[show Tryz.prog.cellsOf 25=2 from by kernel_rfl]at hl
 obtain⟨c0,c1,rfl⟩:=len2 hl
 have f0:=hf 0 _ rfl
 rw[zc (by rw[hn];decide)]at f0
 obtain⟨y0,g0⟩:∃y,DataW.trod enc Tryz.prog w 0 spare held n 22 [c0]=some y:=⟨_,by simpa[show Tryz.prog.cellsOf 22=1 from by kernel_rfl]using f0⟩
 obtain⟨x0,r0⟩:=jH (r:=.str) (by decide) Tryz.underlying22 (by kernel_rfl) (fun n cs y hy _=>jN Tryz.underlying9 hy) g0
 have f1:=hf 1 _ rfl
 rw[zc (by rw[hn];decide)]at f1
 obtain⟨y1,g1⟩:∃y,DataW.trod enc Tryz.prog w 0 spare held n 23 [c1]=some y:=⟨_,by simpa[show Tryz.prog.cellsOf 23=1 from by kernel_rfl]using f1⟩
 obtain⟨x1,r1⟩:=jH (r:=(.pair (.sl .str) .str)) (by decide) Tryz.underlying23 (by kernel_rfl) (fun n cs y hy _=>jpJ hy) g1
 exact⟨_,r0.cons r1⟩
theorem jmT {fuel:Nat} {cs:List Value} {x:DataW H×List MemPlace} (h:DataW.trod enc Tryz.prog w 0 spare held fuel 235 cs=some x):∃d,RdC (.pair .str .str) w cs d (fun _=>True):=by
 obtain⟨ys,n,_,_,hl,hn,hf⟩:=DataW.trod_struct Tryz.underlying235 h
 rw[show Tryz.prog.cellsOf 235=2 from by kernel_rfl]at hl
 obtain⟨c0,c1,rfl⟩:=len2 hl
 have f0:=hf 0 _ rfl
 rw[zc (by rw[hn];decide)]at f0
 obtain⟨y0,g0⟩:∃y,DataW.trod enc Tryz.prog w 0 spare held n 9 [c0]=some y:=⟨_,by simpa[show Tryz.prog.cellsOf 9=1 from by kernel_rfl]using f0⟩
 obtain⟨x0,r0⟩:=jN Tryz.underlying9 g0
 have f1:=hf 1 _ rfl
 rw[zc (by rw[hn];decide)]at f1
 obtain⟨y1,g1⟩:∃y,DataW.trod enc Tryz.prog w 0 spare held n 9 [c1]=some y:=⟨_,by simpa[show Tryz.prog.cellsOf 9=1 from by kernel_rfl]using f1⟩
 obtain⟨x1,r1⟩:=jN Tryz.underlying9 g1
 exact⟨_,r0.cons r1⟩
theorem jk8 {fuel:Nat} {cs:List Value} {x:DataW H×List MemPlace} (h:DataW.trod enc Tryz.prog w 0 spare held fuel 237 cs=some x):∃d,RdC (.pair .str (.int .i64)) w cs d (fun _=>True):=by
 obtain⟨ys,n,_,_,hl,hn,hf⟩:=DataW.trod_struct Tryz.underlying237 h
 rw[show Tryz.prog.cellsOf 237=2 from by kernel_rfl]at hl
 obtain⟨c0,c1,rfl⟩:=len2 hl
 have f0:=hf 0 _ rfl
 rw[zc (by rw[hn];decide)]at f0
 obtain⟨y0,g0⟩:∃y,DataW.trod enc Tryz.prog w 0 spare held n 9 [c0]=some y:=⟨_,by simpa[show Tryz.prog.cellsOf 9=1 from by kernel_rfl]using f0⟩
 obtain⟨x0,r0⟩:=jN Tryz.underlying9 g0
 have f1:=hf 1 _ rfl
 rw[zc (by rw[hn];decide)]at f1
 obtain⟨y1,g1⟩:∃y,DataW.trod enc Tryz.prog w 0 spare held n 3 [c1]=some y:=⟨_,by simpa[show Tryz.prog.cellsOf 3=1 from by kernel_rfl]using f1⟩
 obtain⟨x1,r1⟩:=jay Tryz.underlying3 g1
 exact⟨_,r0.cons r1⟩
theorem jpL {fuel:Nat} {cs:List Value} {x:DataW H×List MemPlace} (h:DataW.trod enc Tryz.prog w 0 spare held fuel 201 cs=some x):∃d,RdC (.pair (.int .i64) (.pair (.sl (.pair .str .str)) (.sl (.pair .str (.int .i64))))) w cs d (fun _=>True):=by
 obtain⟨ys,n,_,_,hl,hn,hf⟩:=DataW.trod_struct Tryz.underlying201 h
 rw[show Tryz.prog.cellsOf 201=3 from by kernel_rfl]at hl
 obtain⟨c0,c1,c2,rfl⟩:=len3 hl
 have f0:=hf 0 _ rfl
 rw[zc (by rw[hn];decide)]at f0
 obtain⟨y0,g0⟩:∃y,DataW.trod enc Tryz.prog w 0 spare held n 3 [c0]=some y:=⟨_,by simpa[show Tryz.prog.cellsOf 3=1 from by kernel_rfl]using f0⟩
 obtain⟨x0,r0⟩:=jay Tryz.underlying3 g0
 have f1:=hf 1 _ rfl
 rw[zc (by rw[hn];decide)]at f1
 obtain⟨y1,g1⟩:∃y,DataW.trod enc Tryz.prog w 0 spare held n 198 [c1]=some y:=⟨_,by simpa[show Tryz.prog.cellsOf 198=1 from by kernel_rfl]using f1⟩
 obtain⟨x1,r1⟩:=jH (r:=(.pair .str .str)) (by decide) Tryz.underlying198 (by kernel_rfl) (fun n cs y hy _=>jmT hy) g1
 have f2:=hf 2 _ rfl
 rw[zc (by rw[hn];decide)]at f2
 obtain⟨y2,g2⟩:∃y,DataW.trod enc Tryz.prog w 0 spare held n 199 [c2]=some y:=⟨_,by simpa[show Tryz.prog.cellsOf 199=1 from by kernel_rfl]using f2⟩
 obtain⟨x2,r2⟩:=jH (r:=(.pair .str (.int .i64))) (by decide) Tryz.underlying199 (by kernel_rfl) (fun n cs y hy _=>jk8 hy) g2
 exact⟨_,r0.cons (r1.cons r2)⟩
theorem jlN {fuel:Nat} {cs:List Value} {x:DataW H×List MemPlace} (h:DataW.trod enc Tryz.prog w 0 spare held fuel 239 cs=some x):∃d,RdC (.pair (.int .i64) (.sl (.int .i64))) w cs d (fun _=>True):=by
 obtain⟨ys,n,_,_,hl,hn,hf⟩:=DataW.trod_struct Tryz.underlying239 h
 rw[show Tryz.prog.cellsOf 239=2 from by kernel_rfl]at hl
 obtain⟨c0,c1,rfl⟩:=len2 hl
 have f0:=hf 0 _ rfl
 rw[zc (by rw[hn];decide)]at f0
 obtain⟨y0,g0⟩:∃y,DataW.trod enc Tryz.prog w 0 spare held n 3 [c0]=some y:=⟨_,by simpa[show Tryz.prog.cellsOf 3=1 from by kernel_rfl]using f0⟩
 obtain⟨x0,r0⟩:=jay Tryz.underlying3 g0
 have f1:=hf 1 _ rfl
 rw[zc (by rw[hn];decide)]at f1
 obtain⟨y1,g1⟩:∃y,DataW.trod enc Tryz.prog w 0 spare held n 53 [c1]=some y:=⟨_,by simpa[show Tryz.prog.cellsOf 53=1 from by kernel_rfl]using f1⟩
 obtain⟨x1,r1⟩:=jH (r:=(.int .i64)) (by decide) Tryz.underlying53 (by kernel_rfl) (fun n cs y hy _=>jay Tryz.underlying3 hy) g1
 exact⟨_,r0.cons r1⟩
theorem jps {fuel:Nat} {cs:List Value} {x:DataW H×List MemPlace} (h:DataW.trod enc Tryz.prog w 0 spare held fuel 205 cs=some x):∃d,RdC (.pair .str (.pair .str (.sl (.pair (.int .i64) (.sl (.int .i64)))))) w cs d (fun _=>True):=by
 obtain⟨ys,n,_,_,hl,hn,hf⟩:=DataW.trod_struct Tryz.underlying205 h
 rw[show Tryz.prog.cellsOf 205=3 from by kernel_rfl]at hl
 obtain⟨c0,c1,c2,rfl⟩:=len3 hl
 have f0:=hf 0 _ rfl
 rw[zc (by rw[hn];decide)]at f0
 obtain⟨y0,g0⟩:∃y,DataW.trod enc Tryz.prog w 0 spare held n 9 [c0]=some y:=⟨_,by simpa[show Tryz.prog.cellsOf 9=1 from by kernel_rfl]using f0⟩
 obtain⟨x0,r0⟩:=jN Tryz.underlying9 g0
 have f1:=hf 1 _ rfl
 rw[zc (by rw[hn];decide)]at f1
 obtain⟨y1,g1⟩:∃y,DataW.trod enc Tryz.prog w 0 spare held n 9 [c1]=some y:=⟨_,by simpa[show Tryz.prog.cellsOf 9=1 from by kernel_rfl]using f1⟩
 obtain⟨x1,r1⟩:=jN Tryz.underlying9 g1
 have f2:=hf 2 _ rfl
 rw[zc (by rw[hn];decide)]at f2
 obtain⟨y2,g2⟩:∃y,DataW.trod enc Tryz.prog w 0 spare held n 203 [c2]=some y:=⟨_,by simpa[show Tryz.prog.cellsOf 203=1 from by kernel_rfl]using f2⟩
 obtain⟨x2,r2⟩:=jH (r:=(.pair (.int .i64) (.sl (.int .i64)))) (by decide) Tryz.underlying203 (by kernel_rfl) (fun n cs y hy _=>jlN hy) g2
 exact⟨_,r0.cons (r1.cons r2)⟩
theorem jo2 {fuel:Nat} {cs:List Value} {x:DataW H×List MemPlace} (h:DataW.trod enc Tryz.prog w 0 spare held fuel 69 cs=some x):∃d,RdC (.pair (.sl (.pair (.int .i64) (.pair (.sl (.pair .str .str)) (.sl (.pair .str (.int .i64)))))) (.sl (.pair .str (.pair .str (.sl (.pair (.int .i64) (.sl (.int .i64)))))))) w cs d (fun _=>True):=by
 obtain⟨ys,n,_,_,hl,hn,hf⟩:=DataW.trod_struct Tryz.underlying69 h
 rw[show Tryz.prog.cellsOf 69=2 from by kernel_rfl]at hl
 obtain⟨c0,c1,rfl⟩:=len2 hl
 have f0:=hf 0 _ rfl
 rw[zc (by rw[hn];decide)]at f0
 obtain⟨y0,g0⟩:∃y,DataW.trod enc Tryz.prog w 0 spare held n 66 [c0]=some y:=⟨_,by simpa[show Tryz.prog.cellsOf 66=1 from by kernel_rfl]using f0⟩
 obtain⟨x0,r0⟩:=jH (r:=(.pair (.int .i64) (.pair (.sl (.pair .str .str)) (.sl (.pair .str (.int .i64)))))) (by decide) Tryz.underlying66 (by kernel_rfl) (fun n cs y hy _=>jpL hy) g0
 have f1:=hf 1 _ rfl
 rw[zc (by rw[hn];decide)]at f1
 obtain⟨y1,g1⟩:∃y,DataW.trod enc Tryz.prog w 0 spare held n 67 [c1]=some y:=⟨_,by simpa[show Tryz.prog.cellsOf 67=1 from by kernel_rfl]using f1⟩
 obtain⟨x1,r1⟩:=jH (r:=(.pair .str (.pair .str (.sl (.pair (.int .i64) (.sl (.int .i64))))))) (by decide) Tryz.underlying67 (by kernel_rfl) (fun n cs y hy _=>jps hy) g1
 exact⟨_,r0.cons r1⟩
theorem jId {fuel:Nat} {cs:List Value} {x:DataW H×List MemPlace} (h:DataW.trod enc Tryz.prog w 0 spare held fuel 71 cs=some x):∃d,RdC (.pair (.pair (.sl (.pair (.int .i64) (.pair (.sl (.pair .str .str)) (.sl (.pair .str (.int .i64)))))) (.sl (.pair .str (.pair .str (.sl (.pair (.int .i64) (.sl (.int .i64)))))))) (.sl (.int .i64))) w cs d (fun _=>True):=by
 obtain⟨ys,n,_,_,hl,hn,hf⟩:=DataW.trod_struct Tryz.underlying71 h
 rw[show Tryz.prog.cellsOf 71=3 from by kernel_rfl]at hl
 obtain⟨c0,c1,c2,rfl⟩:=len3 hl
 have f0:=hf 0 _ rfl
 rw[zc (by rw[hn];decide)]at f0
 obtain⟨y0,g0⟩:∃y,DataW.trod enc Tryz.prog w 0 spare held n 69 [c0,c1]=some y:=⟨_,by simpa[show Tryz.prog.cellsOf 69=2 from by kernel_rfl]using f0⟩
 obtain⟨x0,r0⟩:=jo2 g0
 have f1:=hf 1 _ rfl
 rw[zc (by rw[hn];decide)]at f1
 obtain⟨y1,g1⟩:∃y,DataW.trod enc Tryz.prog w 0 spare held n 53 [c2]=some y:=⟨_,by simpa[show Tryz.prog.cellsOf 53=1 from by kernel_rfl]using f1⟩
 obtain⟨x1,r1⟩:=jH (r:=(.int .i64)) (by decide) Tryz.underlying53 (by kernel_rfl) (fun n cs y hy _=>jay Tryz.underlying3 hy) g1
 exact⟨_,r0.app r1⟩
theorem jIM {fuel:Nat} {cs:List Value} {x:DataW H×List MemPlace} (h:DataW.trod enc Tryz.prog w 0 spare held fuel 28 cs=some x):∃d,RdC (.pair (.pair (.sl .str) (.sl (.pair (.sl .str) .str))) (.sl (.pair (.pair (.sl (.pair (.int .i64) (.pair (.sl (.pair .str .str)) (.sl (.pair .str (.int .i64)))))) (.sl (.pair .str (.pair .str (.sl (.pair (.int .i64) (.sl (.int .i64)))))))) (.sl (.int .i64))))) w cs d (fun _=>True):=by
 obtain⟨ys,n,_,_,hl,hn,hf⟩:=DataW.trod_struct Tryz.underlying28 h
 rw[show Tryz.prog.cellsOf 28=3 from by kernel_rfl]at hl
 obtain⟨c0,c1,c2,rfl⟩:=len3 hl
 have f0:=hf 0 _ rfl
 rw[zc (by rw[hn];decide)]at f0
 obtain⟨y0,g0⟩:∃y,DataW.trod enc Tryz.prog w 0 spare held n 25 [c0,c1]=some y:=⟨_,by simpa[show Tryz.prog.cellsOf 25=2 from by kernel_rfl]using f0⟩
 obtain⟨x0,r0⟩:=jkp g0
 have f1:=hf 1 _ rfl
 rw[zc (by rw[hn];decide)]at f1
 obtain⟨y1,g1⟩:∃y,DataW.trod enc Tryz.prog w 0 spare held n 26 [c2]=some y:=⟨_,by simpa[show Tryz.prog.cellsOf 26=1 from by kernel_rfl]using f1⟩
 obtain⟨x1,r1⟩:=jH (r:=(.pair (.pair (.sl (.pair (.int .i64) (.pair (.sl (.pair .str .str)) (.sl (.pair .str (.int .i64)))))) (.sl (.pair .str (.pair .str (.sl (.pair (.int .i64) (.sl (.int .i64)))))))) (.sl (.int .i64)))) (by decide) Tryz.underlying26 (by kernel_rfl) (fun n cs y hy _=>jId hy) g1
 exact⟨_,r0.app r1⟩
end
end Go.Proofs.YtcinmmojlcchfaaGreat
