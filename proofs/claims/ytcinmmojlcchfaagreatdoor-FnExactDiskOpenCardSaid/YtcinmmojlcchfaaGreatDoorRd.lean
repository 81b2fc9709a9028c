/- How the laws' struct types are read. -/
import Derived.Test.YtcinmmojlcchfaaGreatDoorKY
set_option linter.unusedSimpArgs false
set_option linter.unusedVariables false
namespace Go.Proofs.YtcinmmojlcchfaaGreatDoor
open Go.RowKit
section
variable {H : Type} {enc : TypeId × Value -> H} {w : World} {spare : Nat -> Bool} {held : Bool}
theorem jpJ {fuel:Nat} {cs:List Value} {x:DataW H×List MemPlace} (h:DataW.trod enc Tryz.prog w 0 spare held fuel 141 cs=some x):∃d,RdC (.pair (.sl .str) .str) w cs d (fun _=>True):=by
 obtain⟨ys,n,_,_,hl,hn,hf⟩:=DataW.trod_struct Tryz.underlying141 h
 rw[show Tryz.prog.cellsOf 141=2 from by kernel_rfl]at hl
 obtain⟨c0,c1,rfl⟩:=len2 hl
 have f0:=hf 0 _ rfl
 rw[zc (by rw[hn];decide)]at f0
 obtain⟨y0,g0⟩:∃y,DataW.trod enc Tryz.prog w 0 spare held n 22 [c0]=some y:=⟨_,by simpa[show Tryz.prog.cellsOf 22=1 from by kernel_rfl]using f0⟩
 obtain⟨x0,r0⟩:=jH (r:=.str) (by decide) Tryz.underlying22 (by kernel_rfl) (fun n cs y hy _=>jN Tryz.underlying9 hy) g0
 have f1:=hf 1 _ rfl
 rw[zc (by rw[hn];decide)]at f1
 obtain⟨y1,g1⟩:∃y,DataW.trod enc Tryz.prog w 0 spare held n 9 [c1]=some y:=⟨_,by simpa[show Tryz.prog.cellsOf 9=1 from by kernel_rfl]using f1⟩
 obtain⟨x1,r1⟩:=jN Tryz.underlying9 g1
 exact⟨_,r0.cons r1⟩
theorem jkp {fuel:Nat} {cs:List Value} {x:DataW H×List MemPlace} (h:DataW.trod enc Tryz.prog w 0 spare held fuel 25 cs=some x):∃d,RdC (.pair (.sl .str) (.sl (.pair (.sl .str) .str))) w cs d (fun _=>True):=by
 obtain⟨ys,n,_,_,hl,hn,hf⟩:=DataW.trod_struct Tryz.underlying25 h
 rw[show Tryz.prog.cellsOf 25=2 from by kernel_rfl]at hl
 obtain⟨c0,c1,rfl⟩:=len2 hl
 have f0:=hf 0 _ rfl
 rw[zc (by rw[hn];decide)]at f0
 obtain⟨y0,g0⟩:∃y,DataW.trod enc Tryz.prog w 0 spare held n 22 [c0]=some y:=⟨_,by simpa[show Tryz.prog.cellsOf 22=1 from by kernel_rfl]using f0⟩
 obtain⟨x0,r0⟩:=jH (r:=.str) (by decide) Tryz.underlying22 (by kernel_rfl) (fun n cs y hy _=>jN Tryz.underlying9 hy) g0
 have f1:=hf 1 _ rfl
 rw[zc (by rw[hn];decide)]at f1
 obtain⟨y1,g1⟩:∃y,DataW.trod enc Tryz.prog w 0 spare held n 23 [c1]=some y:=⟨_,by simpa[show Tryz.prog.cellsOf 23=1 from by kernel_rfl]using f1⟩
 obtain⟨x1,r1⟩:=jH (r:=(.pair (.sl .str) .str)) (by decide) Tryz.underlying23 (by kernel_rfl) (fun n cs y hy _=>jpJ hy) g1
 exact⟨_,r0.cons r1⟩
theorem jZW {fuel:Nat} {cs:List Value} {x:DataW H×List MemPlace} (h:DataW.trod enc Tryz.prog w 0 spare held fuel 196 cs=some x):∃d,RdC (.pair .str .str) w cs d (fun _=>True):=by
 obtain⟨ys,n,_,_,hl,hn,hf⟩:=DataW.trod_struct Tryz.underlying196 h
 rw[show Tryz.prog.cellsOf 196=2 from by kernel_rfl]at hl
 obtain⟨c0,c1,rfl⟩:=len2 hl
 have f0:=hf 0 _ rfl
 rw[zc (by rw[hn];decide)]at f0
 obtain⟨y0,g0⟩:∃y,DataW.trod enc Tryz.prog w 0 spare held n 9 [c0]=some y:=⟨_,by simpa[show Tryz.prog.cellsOf 9=1 from by kernel_rfl]using f0⟩
 obtain⟨x0,r0⟩:=jN Tryz.underlying9 g0
 have f1:=hf 1 _ rfl
 rw[zc (by rw[hn];decide)]at f1
 obtain⟨y1,g1⟩:∃y,DataW.trod enc Tryz.prog w 0 spare held n 9 [c1]=some y:=⟨_,by simpa[show Tryz.prog.cellsOf 9=1 from by kernel_rfl]using f1⟩
 obtain⟨x1,r1⟩:=jN Tryz.underlying9 g1
 exact⟨_,r0.cons r1⟩
theorem jZ0 {fuel:Nat} {cs:List Value} {x:DataW H×List MemPlace} (h:DataW.trod enc Tryz.prog w 0 spare held fuel 62 cs=some x):∃d,RdC (.sl (.pair .str .str)) w cs d (fun _=>True):=by
 obtain⟨ys,n,_,_,hl,hn,hf⟩:=DataW.trod_struct Tryz.underlying62 h
 rw[show Tryz.prog.cellsOf 62=1 from by kernel_rfl]at hl
 obtain⟨c0,rfl⟩:=len1 hl
 have f0:=hf 0 _ rfl
 rw[zc (by rw[hn];decide)]at f0
 obtain⟨y0,g0⟩:∃y,DataW.trod enc Tryz.prog w 0 spare held n 60 [c0]=some y:=⟨_,by simpa[show Tryz.prog.cellsOf 60=1 from by kernel_rfl]using f0⟩
 obtain⟨x0,r0⟩:=jH (r:=(.pair .str .str)) (by decide) Tryz.underlying60 (by kernel_rfl) (fun n cs y hy _=>jZW hy) g0
 exact⟨_,r0⟩
end
end Go.Proofs.YtcinmmojlcchfaaGreatDoor
