import Derived.Test.YtfgcmhhacfkhcaaGreatDoorG1A
set_option linter.unusedVariables false
set_option linter.unusedSimpArgs false
namespace Go.Proofs.YtfgcmhhacfkhcaaGreatDoor
open Go.RowKit Go.Proofs.Tryz
variable (N : Nat)
open Option renaming bind -> oB
def jnV : Sh := ⟨.mtk 800000 Y7 156 false :: .dead :: pI :: pI :: .clo 100 [] :: dz 5 (pI :: dz 71 []), []⟩
def jmo : Sh := ⟨.mtk 800000 Y7 156 false :: .dead :: pI :: pI :: .clo 100 [] :: dz 5 (pI :: pI :: dz 70 []), []⟩
def jdy (a : List Z1) (b : Int) (c : Int) (e : Int) (d : Unit) : Option ((List Z1)) := siftG (cmp105 N) N a b c e d
 
theorem jqE : mK 286 (bX [.mtk 800000 Y7 156 false, pI, pI, pI, .clo 100 []] [.tup [], .mtk 800000 Y7 156 false] (c5A (jdy N))) :=
 mO (fC (jaf N) ja) func286 rfl N (.seq .no (.block (.loop jnV (.block (.seq .no (.seq .no (.meet jmo .no .no))))))) _ (rs := [800000])
def jmY : Sh := ⟨.mtk 800000 Y7 156 false :: .dead :: .dead :: .clo 100 [] :: dz 4 (pI :: pI :: pI :: pI :: dz 48 []), []⟩
def jq3 : Sh := ⟨.mtk 800000 Y7 156 false :: .dead :: .dead :: .clo 100 [] :: dz 4 (pI :: pI :: .dead :: .dead :: pI :: dz 47 []), []⟩
def jaC (a : List Z1) (b : Int) (c : Int) (d : Unit) : Option ((List Z1)) := heapG (cmp105 N) N a b c d
 
theorem jqz : mK 236 (bX [.mtk 800000 Y7 156 false, pI, pI, .clo 100 []] [.tup [], .mtk 800000 Y7 156 false] (c4A (jaC N))) :=
 mO (fC (jqE N) ja) func236 rfl N (.seq .no (.seq .no (.seq .no (.seq (.seq .no (.block (.loop jmY .no))) (.seq .no (.block (.loop jq3 .no))))))) _ (rs := [800000])
def jkH : Sh := ⟨.mtk 800000 Y7 156 false :: pI :: dz 6 (pI :: .box 9 0 :: .pv (.int .u64) :: pI :: dz 55 []), [(9, false, [.pv (.int .u64)])]⟩
def jmx : Sh := ⟨.mtk 800000 Y7 156 false :: pI :: dz 6 (pI :: .box 9 0 :: .pv (.int .u64) :: pI :: pI :: dz 54 []), [(9, false, [.pv (.int .u64)])]⟩
def jez (a : List Z1) (b : Int) (c : Int) (d : Unit) : Option ((List Z1)) := breakG N a b c d
 
theorem jlO : mK 237 (bX [.mtk 800000 Y7 156 false, pI, pI, .clo 100 []] [.tup [], .mtk 800000 Y7 156 false] (c4A (jez N))) :=
 mO (fC (jhv N) (fC (jet N) ja)) func237 rfl N (.seq .no (.seq .no (.cond (.seq .no (.seq .no (.seq .no (.block (.loop jkH (.seq .no (.seq (.block (.seq .no (.meet jmx .no .no))) .no))))))) .no))) _ (rs := [800000])
def jcG (a : List Z1) (b : Int) (c : Int) (e : Unit) (d : Int) : Option (Int × Int × (List Z1) × Int) := order2G (cmp105 N) N a b c e d
 
theorem jrN : mK 330 ⟨⟨[.mtk 800000 Y7 156 false, pI, pI, .box 900003 0, .clo 100 []], [(900003, false, [pI])]⟩, ⟨[.tup [pI, pI], .mtk 800000 Y7 156 false], [(900003, false, [pI])]⟩, c5A (jcG N)⟩ :=
 mO (fC (jaf N) ja) func330 rfl N .no _ (rs := [900003, 800000])
def jdE (a : List Z1) (d : Int) (c : Int) (b : Int) (f : Unit) (e : Int) : Option (Int × (List Z1) × Int) := medianG (cmp105 N) N a d c b f e
 
theorem jfr : mK 290 ⟨⟨[.mtk 800000 Y7 156 false, pI, pI, pI, .box 900004 0, .clo 100 []], [(900004, false, [pI])]⟩, ⟨[pI, .mtk 800000 Y7 156 false], [(900004, false, [pI])]⟩, c6A (jdE N)⟩ :=
 mO (fC (jrN N) ja) func290 rfl N .no _ (rs := [900004, 800000])
def jca (a : List Z1) (b : Int) (d : Unit) (c : Int) : Option (Int × (List Z1) × Int) := medianAdjacentG (cmp105 N) N a b d c
 
theorem jko : mK 289 ⟨⟨[.mtk 800000 Y7 156 false, pI, .box 900002 0, .clo 100 []], [(900002, false, [pI])]⟩, ⟨[pI, .mtk 800000 Y7 156 false], [(900002, false, [pI])]⟩, c4A (jca N)⟩ :=
 mO (fC (jfr N) ja) func289 rfl N .no _ (rs := [900002, 800000])
def jnR : Sh := ⟨.mtk 800000 Y7 156 false :: .dead :: .dead :: .clo 100 [] :: dz 7 (.box 11 0 :: pI :: pI :: pI :: dz 48 []), [(11, false, [pI])]⟩
def jrt : Sh := ⟨.mtk 800000 Y7 156 false :: dz 10 (.box 11 0 :: .dead :: pI :: dz 49 []), [(11, false, [pI])]⟩
def jjM (a : List Z1) (b : Int) (c : Int) (d : Unit) : Option (Int × Int × (List Z1)) := choosePivotG (cmp105 N) N a b c d
 
theorem joO : mK 238 (bX [.mtk 800000 Y7 156 false, pI, pI, .clo 100 []] [.tup [pI, pI], .mtk 800000 Y7 156 false] (c4A (jjM N))) :=
 mO (fC (jko N) (fC (jfr N) ja)) func238 rfl N (.seq .no (.seq .no (.seq .no (.seq .no (.seq .no (.seq .no (.meet jrt (.seq .no (.cond (.meet jnR .no .no) .no)) .no))))))) _ (rs := [800000])
def jpl : Sh := ⟨.mtk 800000 Y7 156 false :: dz 7 (pI :: pI :: dz 24 []), []⟩
def jeV (a : List Z1) (b : Int) (c : Int) (d : Unit) : Option ((List Z1)) := reverseRangeG N a b c d
 
theorem jma : mK 239 (bX [.mtk 800000 Y7 156 false, pI, pI, .clo 100 []] [.tup [], .mtk 800000 Y7 156 false] (c4A (jeV N))) :=
 mO ja func239 rfl N (.seq .no (.seq .no (.block (.loop jpl .no)))) _ (rs := [800000])
def jn3 : Sh := ⟨.mtk 800000 Y7 156 false :: pI :: pI :: .clo 100 [] :: dz 5 (pI :: pI :: dz 130 []), []⟩
def jsj : Sh := ⟨.mtk 800000 Y7 156 false :: pI :: pI :: .clo 100 [] :: dz 5 (pI :: pI :: pI :: dz 129 []), []⟩
def jnQ : Sh := ⟨.mtk 800000 Y7 156 false :: pI :: pI :: .clo 100 [] :: dz 5 (pI :: pI :: .dead :: pI :: dz 128 []), []⟩
def jhb (a : List Z1) (b : Int) (c : Int) (d : Unit) : Option (Bool × (List Z1)) := pisG (cmp105 N) N a b c d
 
theorem jnw : mK 240 (bX [.mtk 800000 Y7 156 false, pI, pI, .clo 100 []] [pB, .mtk 800000 Y7 156 false] (c4A (jhb N))) :=
 mO (fC (jaf N) ja) func240 rfl N (.seq .no (.seq .no (.seq (.seq .no (.block (.loop jn3 (.seq .no (.seq (.block (.seq (.block (.loop jn3 .no)) (.seq .no (.seq .no (.seq .no (.meet jn3 (.seq .no (.cond (.seq .no (.block (.loop jsj .no))) .no)) (.seq .no (.cond (.seq .no (.block (.loop jnQ .no))) .no)))))))) .no))))) .no))) _ (rs := [800000])
def jnv : Sh := ⟨.mtk 800000 Y7 156 false :: pI :: .dead :: .dead :: .clo 100 [] :: dz 6 (pI :: pI :: dz 77 []), []⟩
def jbG (a : List Z1) (b : Int) (c : Int) (e : Int) (d : Unit) : Option (Int × (List Z1)) := peqG (cmp105 N) N a b c e d
 
theorem jp1 : mK 241 (bX [.mtk 800000 Y7 156 false, pI, pI, pI, .clo 100 []] [pI, .mtk 800000 Y7 156 false] (c5A (jbG N))) :=
 mO (fC (jaf N) ja) func241 rfl N (.seq .no (.seq .no (.seq .no (.seq (.block (.loop jnv (.block (.seq (.block (.loop jnv .no)) (.seq (.block (.loop jnv .no)) .no))))) .no)))) _ (rs := [800000])
def jru : Sh := ⟨.mtk 800000 Y7 156 false :: pI :: .dead :: .dead :: .clo 100 [] :: dz 7 (pI :: pI :: dz 164 []), []⟩
def jcT (a : List Z1) (b : Int) (c : Int) (e : Int) (d : Unit) : Option (Int × Bool × (List Z1)) := partG (cmp105 N) N a b c e d
 
theorem jrO : mK 242 (bX [.mtk 800000 Y7 156 false, pI, pI, pI, .clo 100 []] [.tup [pI, pB], .mtk 800000 Y7 156 false] (c5A (jcT N))) :=
 mO (fC (jaf N) ja) func242 rfl N (.seq .no (.seq .no (.seq .no (.seq (.block (.loop jru .no)) (.seq (.block (.loop jru .no)) (.seq .no (.seq .no (.seq .no (.seq .no (.seq (.block (.loop jru (.block (.seq (.block (.loop jru .no)) (.seq (.block (.loop jru .no)) .no))))) .no)))))))))) _ (rs := [800000])
def jmM : Sh := ⟨.mtk 800000 Y7 156 false :: pI :: pI :: pI :: .clo 100 [] :: dz 5 (pB :: pB :: dz 136 []), []⟩
def jnd : Sh := ⟨.mtk 800000 Y7 156 false :: pI :: pI :: pI :: .clo 100 [] :: dz 5 (pB :: pB :: pI :: pI :: dz 134 []), []⟩
def jmi : Sh := ⟨.mtk 800000 Y7 156 false :: pI :: pI :: pI :: .clo 100 [] :: dz 5 (pB :: pB :: pI :: pI :: pI :: dz 133 []), []⟩
def js7 : Sh := ⟨.mtk 800000 Y7 156 false :: pI :: pI :: pI :: .clo 100 [] :: dz 5 (pB :: pB :: pI :: dz 135 []), []⟩
def jK (N D : Nat) (f : List Z1) (b a limit : Int) (h : Unit) : Option ((List Z1)) := pdqG (cmp105 N) (fun c b a d => heapG (cmp105 N) N c b a d) (fun c b a e d => peqG (cmp105 N) N c b a e d) N D f b a limit h
 
def jcj (N D : Nat) : Model := ⟨⟨[.mtk 800000 Y7 156 false, pI, pI, pI, .clo 100 []], []⟩, ⟨[.tup [], .mtk 800000 Y7 156 false], []⟩, c5A (jK N D)⟩
theorem jrm (N D : Nat) (ih : mK 175 (jcj N D)) : mK 175 (jcj N (D + 1)) :=
 mO (fC ih (fC (jqw N) (fC (jqz N) (fC (jlO N) (fC (joO N) (fC (jma N) (fC (jnw N) (fC (jaf N) (fC (jp1 N) (fC (jrO N) ja)))))))))) func175 rfl N (.seq .no (.seq .no (.block (.loop jmM (.block (.seq .no (.seq .no (.seq .no (.meet js7 .no (.seq .no (.meet jmi .no (.meet jnd .no .no)))))))))))) (jcj N (D + 1)) (rs := [800000])
theorem jix (N : Nat) : ∀ D, mK 175 (jcj N D)
 | 0 => modelOk_none ⟨_, func175, by decide, by kernel_rfl⟩ _ (fun a => rfl)
 | D + 1 => jrm N D (jix N D)
def k_slices_SortFunc_105_m (a : List Z1) (d : Unit) : Option ((List Z1)) :=
 (oB (k_math_bits_Len_m N (IntKind.u64.wrap (a.length : Int))) fun c => oB (jK N N a 0 (a.length : Int) c ()) fun b => some b)
theorem jtu : mK 99 (bX [.mtk 800000 Y7 156 false, .clo 100 []] [.tup [], .mtk 800000 Y7 156 false] (c2A (k_slices_SortFunc_105_m N))) :=
 mO (fC (jda N) (fC (jix N N) ja)) func99 rfl N .no _ (rs := [800000])
def jmK : Sh := ⟨.dead :: .dead :: .box 2 0 :: .dead :: .box 4 0 :: .box 5 0 :: dz 19 (.pv Y4 :: pI :: pI :: dz 32 []), [(2, false, [.pv (.sl .str), .pv Y17]), (4, false, [.nils, .nils]), (5, false, [.pv Y4, .tre 700501 Y7 156])]⟩
def jor : Sh := ⟨.dead :: .dead :: .box 2 0 :: .dead :: .box 4 0 :: .box 5 0 :: .dead :: .box 7 0 :: dz 17 (.pv Y4 :: pI :: pI :: dz 4 (.pv Y20 :: pI :: pI :: dz 25 [])), [(2, false, [.pv (.sl .str), .pv Y17]), (4, false, [.nils, .nils]), (5, false, [.pv Y4, .tre 700501 Y7 156]), (7, false, [pI, .pv Y20, .pv Y16])]⟩
def jnj : Sh := ⟨.dead :: .dead :: .box 2 0 :: .dead :: .box 4 0 :: .box 5 0 :: .dead :: .box 7 0 :: .dead :: .box 9 0 :: dz 15 (.pv Y4 :: pI :: pI :: dz 4 (.pv Y20 :: pI :: pI :: dz 6 (.own 600041 Y18 151 true :: pI :: pI :: dz 16 []))), [(2, false, [.pv (.sl .str), .pv Y17]), (4, false, [.nils, .nils]), (5, false, [.pv Y4, .tre 700501 Y7 156]), (7, false, [pI, .pv Y20, .pv Y16]), (9, false, [pS, pS])]⟩
def i_SegOf_m (c : List Z2) (c2 : List Z3) (docs : List Z0) : Option ((List Z0) × (List Z1)) :=
 (oB (jaj N c c2) fun r => bif !r then some (([] : List Z0), ([] : List Z1)) else oB (jbf N docs) fun r2 => bif !r2 then some (([] : List Z0), ([] : List Z1)) else oB (jbV N docs) fun r3 => iter (fun go (t25, t26, t27, c3, c4, s, s2) => bif decide (t27 < t26) then oB (idx t25 t27) fun e => (iter (fun go2 (t252, t262, t272, t32, t33, t34, c5, c6, s3, s4, d, d2, d3) => bif decide (t34 < t33) then oB (idx t32 t34) fun e2 => (oB (jbw N c5 c6 e2.2) fun r4 => iter (fun go3 (t253, t263, t273, t322, t332, t342, t41, t42, t43, c7, c8, s5, s6, d4, d5, d6, f, f2) => bif decide (t43 < t42) then oB (idx t41 t43) fun e3 => (oB (i_Seg_put_m N f e3.1 e3.2 d4 s5 s6) fun r5 => if fits (t43 + 1) then go3 (t253, t263, t273, t322, t332, t342, t41, t42, (t43 + 1), c7, c8, r5.1, r5.2, d4, d5, d6, f, f2) else none) else if fits (t342 + 1) then go2 (t253, t263, t273, t322, t332, (t342 + 1), c7, c8, s5, s6, d4, d5, d6) else none) N (t252, t262, t272, t32, t33, t34, r4, (r4.length : Int), (0 : Int), c5, c6, s3, s4, d, d2, d3, e2.1, e2.2)) else if fits (t272 + 1) then go (t252, t262, (t272 + 1), c5, c6, s3, s4) else none) N (t25, t26, t27, e.2.1, (e.2.1.length : Int), (0 : Int), c3, c4, s, s2, e.1, e.2.1, e.2.2)) else oB (k_slices_SortFunc_105_m N s2 ()) fun r6 => some (s, r6)) N (docs, (docs.length : Int), (0 : Int), c, c2, r3, ([] : List Z1)))
theorem jqC : mK 31 (bX [.agg [.pv (.sl .str), .pv Y17], .pv Y4] [.agg [.pv Y4, .own 1 Y7 156 false]] (c3A (i_SegOf_m N))) :=
 mO (fC (jdX N) (fC (jjU N) (fC (joC N) (fC (jgO N) (fC (jky N) (fC (jtu N) ja)))))) func31 rfl N (.seq .no (.seq .no (.seq .no (.seq (.seq .no (.block (.loop jmK (.seq .no (.seq .no (.seq (.block (.seq .no (.seq .no (.block (.loop jor (.seq .no (.seq .no (.seq (.block (.seq .no (.seq .no (.block (.loop jnj .no))))) .no)))))))) .no)))))) .no)))) _ (wr := [23]) (dw := [23, 57])
def jqv : Sh := ⟨.dead :: pI :: .dead :: .dead :: .box 4 0 :: dz 6 (.pv Y4 :: pI :: pI :: dz 10 []), [(4, false, [pI, .nils, .nils])]⟩
def i_Seg_doc_m (d : (List Z0) × (List Z1)) (h : Int) : Option (Int × Z14 × Z8 × Bool) :=
 (iter (fun k (f, c, e, a, i) => bif decide (a < e) then oB (idx c a) fun b => (bif decide (b.1 = f) then some (b.1, b.2.1, b.2.2, true) else if fits (a + 1) then k (f, c, e, (a + 1), i) else none) else some (0, ([] : Z15), ([] : Z9), false)) N (h, d.1, (d.1.length : Int), (0 : Int), (0 : Int)))
theorem jlU : mK 159 (bX [.ptr Y3, pI] [.tup [.agg [pI, .pv Y20, .pv Y16], pB]] (c2A (i_Seg_doc_m N))) :=
 mO ja func159 rfl N (.seq .no (.seq (.seq .no (.block (.loop jqv .no))) .no)) _
def jtB : Sh := ⟨.pv Y22 :: .pv Y22 :: dz 10 (pI :: pI :: dz 12 []), []⟩
def jbX (b : List Int) (e : List Int) : Z7 :=
 (bif !decide ((b.length : Int) = (e.length : Int)) then some false else iter (fun k (d, f, c, a) => bif decide (a < c) then oB (idx d a) fun j => (oB (idx f a) fun h => bif !decide (j = h) then some false else if fits (a + 1) then k (d, f, c, (a + 1)) else none) else some true) N (b, e, (b.length : Int), (0 : Int)))
theorem jqi : mK 250 (bX [.pv Y22, .pv Y22] [pB] (c2A (jbX N))) :=
 mO ja func250 rfl N (.seq .no (.seq .no (.seq (.seq .no (.block (.loop jtB .no))) .no))) _
def jcp (c : Int) (d : List Int) (b : Int) (a : List Int) : Z7 :=
 (bif decide (c = b) then oB (jbX N d a) fun e => (some e) else some false)
theorem jth : mK 187 (bX [.agg [pI, .pv Y22], .agg [pI, .pv Y22]] [pB] (c4A (jcp N))) :=
 mO (fC (jqi N) ja) func187 rfl N .no _
def jlX : Sh := ⟨.dead :: .pv Y13 :: .clo 187 [] :: dz 12 (.pv Y13 :: pI :: pI :: dz 14 []), []⟩
def jb6 (b : Z4) (e : Z4) (m : Unit) : Z7 :=
 (bif !decide ((b.length : Int) = (e.length : Int)) then some false else iter (fun l (i, n, f, d, a) => bif decide (a < d) then oB (idx f a) fun h => (oB (idx i a) fun c => oB (jcp N h.1 h.2 c.1 c.2) fun j => bif !j then some false else if fits (a + 1) then l (i, (), f, d, (a + 1)) else none) else some true) N (e, (), b, (b.length : Int), (0 : Int)))
theorem jnG : mK 186 (bX [.pv Y13, .pv Y13, .clo 187 []] [pB] (c3A (jb6 N))) :=
 mO (fC (jth N) ja) func186 rfl N (.seq .no (.seq .no (.seq (.seq .no (.block (.loop jlX .no))) .no))) _
def jcz (f : List UInt8) (b : List UInt8) (e : Z4) (a : List UInt8) (h : List UInt8) (c : Z4) : Z7 :=
 (bif decide (f = a) then bif decide (b = h) then oB (jb6 N e c ()) fun d => (some d) else (some false) else some false)
theorem jp4 : mK 115 (bX [.agg [pS, pS, .pv Y13], .agg [pS, pS, .pv Y13]] [pB] (c6A (jcz N))) :=
 mO (fC (jnG N) ja) func115 rfl N .no _
def jlD : Sh := ⟨.dead :: .pv Y6 :: .clo 115 [] :: dz 12 (.pv Y6 :: pI :: pI :: dz 14 []), []⟩
def jcn (c : List Z1) (f : List Z1) (m : Unit) : Z7 :=
 (bif !decide ((c.length : Int) = (f.length : Int)) then some false else iter (fun l (i, n, h, e, a) => bif decide (a < e) then oB (idx h a) fun d => (oB (idx i a) fun b => oB (jcz N d.1 d.2.1 d.2.2 b.1 b.2.1 b.2.2) fun j => bif !j then some false else if fits (a + 1) then l (i, (), h, e, (a + 1)) else none) else some true) N (f, (), c, (c.length : Int), (0 : Int)))
theorem jsa : mK 114 (bX [.pv Y6, .pv Y6, .clo 115 []] [pB] (c3A (jcn N))) :=
 mO (fC (jp4 N) ja) func114 rfl N (.seq .no (.seq .no (.seq (.seq .no (.block (.loop jlD .no))) .no))) _
def i_SegOk_m (a : List Z2) (c : List Z3) (b : List Z0) (h : List Z1) : Z7 :=
 (oB (jaj N a c) fun f => bif !f then some false else oB (jbf N b) fun d => bif !d then some false else oB (i_SegOf_m N a c b) fun i => oB (jcn N i.2 h ()) fun e => some e)
theorem joa : mK 37 (bX [.agg [.pv (.sl .str), .pv Y17], .agg [.pv Y4, .pv Y6]] [pB] (c4A (i_SegOk_m N))) :=
 mO (fC (jdX N) (fC (jjU N) (fC (jqC N) (fC (jsa N) ja)))) func37 rfl N .no _
def jyc (e : List Z2) (d : List Z3) (b : List UInt8) : Option (Z2) :=
 (oB (jO N b) fun f => bif !f then some ([] : List UInt8) else oB (jbw N e d b) fun a => bif decide ((a.length : Int) = 0) then some ([] : List UInt8) else oB (idx a 0) fun c => some c.1)
theorem jBn : mK 224 (bX [.agg [.pv (.sl .str), .pv Y17], pS] [pS] (c3A (jyc N))) :=
 mO (fC (jcM N) (fC (jgO N) ja)) func224 rfl N .no _
def jnu : Sh := ⟨.dead :: pS :: pS :: dz 9 (.pv Y6 :: pI :: pI :: dz 16 []), []⟩
def i_Seg_posts_m (h : (List Z0) × (List Z1)) (l : List UInt8) (j : List UInt8) : Option (Z13) :=
 (iter (fun i (f, e, b, c, a) => bif decide (a < c) then oB (idx b a) fun d => (bif decide (d.1 = f) then bif decide (d.2.1 = e) then some d.2.2 else (if fits (a + 1) then i (f, e, b, c, (a + 1)) else none) else if fits (a + 1) then i (f, e, b, c, (a + 1)) else none) else some ([] : Z4)) N (l, j, h.2, (h.2.length : Int), (0 : Int)))
theorem jcq : mK 280 (bX [.ptr Y3, pS, pS] [.pv Y13] (c3A (i_Seg_posts_m N))) :=
 mO ja func280 rfl N (.seq .no (.seq (.seq .no (.block (.loop jnu .no))) .no)) _
def jni : Sh := ⟨dz 3 (pI :: dz 12 (.pv Y13 :: pI :: pI :: dz 10 [])), []⟩
def i_scorer_places_m (j : ((List Z2) × (List Z3)) × (List Z0) × (List Z1)) (l : List UInt8) (i : List UInt8) (h : Int) : Option ((List Int)) :=
 (oB (i_Seg_posts_m N j.2 l i) fun c => iter (fun m (e, b, d, a) => bif decide (a < d) then oB (idx b a) fun f => (bif decide (f.1 = e) then some f.2 else if fits (a + 1) then m (e, b, d, (a + 1)) else none) else some ([] : List Int)) N (h, c, (c.length : Int), (0 : Int)))
theorem jrB : mK 229 (bX [.ptr Y0, pS, pS, pI] [.pv Y22] (c4A (i_scorer_places_m N))) :=
 mO (fC (jcq N) ja) func229 rfl N (.seq .no (.seq (.seq .no (.block (.loop jni .no))) .no)) _
def jmV : Sh := ⟨.dead :: pS :: dz 8 (.pv Y20 :: pI :: pI :: dz 10 []), []⟩
def i_DocField_m (h : Int) (b : Z15) (j : Z9) (i : List UInt8) : Option (Z2) :=
 (oB (jbx N h b j) fun k => bif k then iter (fun m (f, d, c, a) => bif decide (a < c) then oB (idx d a) fun e => (bif decide (e.1 = f) then some e.2 else if fits (a + 1) then m (f, d, c, (a + 1)) else none) else some ([] : List UInt8)) N (i, b, (b.length : Int), (0 : Int)) else some ([] : List UInt8))
theorem jqd : mK 322 (bX [.agg [pI, .pv Y20, .pv Y16], pS] [pS] (c4A (i_DocField_m N))) :=
 mO (fC (jh0 N) ja) func322 rfl N (.seq .no (.seq (.seq .no (.cond (.seq .no (.block (.loop jmV .no))) .no)) .no)) _
def i_Seg_long_m (e : (List Z0) × (List Z1)) (d : List Z2) (f : List Z3) (h : List UInt8) (b : Int) : Z10 :=
 (oB (i_Seg_doc_m N e b) fun a => bif !a.2.2.2 then some 0 else oB (i_DocField_m N a.1 a.2.1 a.2.2.1 h) fun c => oB (jbw N d f c) fun i => some (i.length : Int))
theorem jhs : mK 278 (bX [.ptr Y3, .agg [.pv (.sl .str), .pv Y17], pS, pI] [pI] (c5A (i_Seg_long_m N))) :=
 mO (fC (jlU N) (fC (jqd N) (fC (jgO N) ja))) func278 rfl N .no _
def joq : Sh := ⟨pI :: pI :: dz 13 [], []⟩
def ja2 (d : Int) (e : Int) : Z10 :=
 (iter (fun f (a, b) => bif !decide (b = 0) then if b ≠ 0 then f (b, (a.tmod b)) else none else if fits (0 - a) then some (if (0 - a) > a then 0 - a else a) else none) N (d, e))
theorem jiQ : mK 342 (bX [pI, pI] [pI] (c2A (ja2 N))) :=
 mO ja func342 rfl N (.seq .no (.seq (.block (.loop joq .no)) .no)) _
def jbk (b : Int) (a : Int) : Z7 :=
 (oB (jm N b (-1000000000) 1000000000) fun e => bif e then oB (jm N a 1 1000000000) fun d => (bif d then oB (ja2 N b a) fun c => (some (decide (c = 1))) else some false) else some false)
theorem jhS : mK 324 (bX [.agg [pI, pI]] [pB] (c2A (jbk N))) :=
 mO (fC (jY N) (fC (jiQ N) ja)) func324 rfl N .no _
def jk5 : Sh := ⟨pI :: pI :: .dead :: .dead :: .box 4 0 :: dz 24 [], [(4, false, [pI, pI])]⟩
def jcl (e : Int) (b : Int) : Option (Int × Int × Bool) :=
 (meet (fun (i : Int × Int × Int × Int) => match i with | (c, d, j, k) => oB (ja2 N c d) fun a => if a ≠ 0 then if fits (c.tdiv a) then if a ≠ 0 then if fits (d.tdiv a) then oB (jbk N (c.tdiv a) (d.tdiv a)) fun h => (bif !h then some (0, 1, false) else some ((c.tdiv a), (d.tdiv a), true)) else none else none else none else none) fun f => bif decide (b < 0) then if fits (0 - e) then if fits (0 - b) then f ((0 - e), (0 - b), 0, 0) else none else none else f (e, b, 0, 0))
theorem jlG : mK 341 (bX [pI, pI] [.tup [.agg [pI, pI], pB]] (c2A (jcl N))) :=
 mO (fC (jiQ N) (fC (jhS N) ja)) func341 rfl N (.seq .no (.meet jk5 .no .no)) _
def jb7 (c : Int) (a : Int) : Option (Int × Int × Bool) :=
 (oB (jm N c (-1000000000) 1000000000) fun e => bif !e then some (0, 1, false) else oB (jm N a (-1000000000) 1000000000) fun d => bif !d then some (0, 1, false) else bif decide (a = 0) then some (0, 1, false) else oB (jcl N c a) fun b => some (b.1, b.2.1, b.2.2))
theorem jpX : mK 323 (bX [pI, pI] [.tup [.agg [pI, pI], pB]] (c2A (jb7 N))) :=
 mO (fC (jY N) (fC (jlG N) ja)) func323 rfl N .no _
def jtO : Sh := ⟨pI :: pI :: pI :: pI :: pI :: dz 5 (.box 10 0 :: .dead :: pI :: dz 53 []), [(10, false, [pI, pI])]⟩
def i_TermScore_m (i : Int) (k : Int) (l : Int) (j : Int) (m : Int) : Option (Int × Int × Bool) :=
 (oB (jm N i 1 80) fun u => bif !u then some (0, 1, false) else oB (jm N k i 80) fun o => bif !o then some (0, 1, false) else oB (jm N j 1 16) fun w => bif !w then some (0, 1, false) else oB (jm N m 1 j) fun p => bif !p then some (0, 1, false) else oB (jm N l k 1280) fun n => bif !n then some (0, 1, false) else iter (fun t (b, d, e, c, f, a, q, r) => if fits (a + 1) then if 0 <= (a + 1) then if fits (f * 2 ^ (min (a + 1).toNat (IntKind.bits .i64))) then bif decide ((f * 2 ^ (min (a + 1).toNat (IntKind.bits .i64))) <= c) then if fits (a + 1) then t (b, d, e, c, f, (a + 1), q, r) else none else (if fits (22 * b) then if fits (a + 1) then if fits ((22 * b) * (a + 1)) then if fits (10 * b) then if fits ((10 * b) + 3) then if fits (9 * d) then if fits ((9 * d) * c) then if e ≠ 0 then if fits (((9 * d) * c).tdiv e) then if fits (((10 * b) + 3) + (((9 * d) * c).tdiv e)) then oB (jb7 N ((22 * b) * (a + 1)) (((10 * b) + 3) + (((9 * d) * c).tdiv e))) fun h => (some (h.1, h.2.1, h.2.2)) else none else none else none else none else none else none else none else none else none else none) else none else none else none) N (i, k, l, j, m, (0 : Int), (0 : Int), (0 : Int)))
theorem jgE : mK 279 (bX [pI, pI, pI, pI, pI] [.tup [.agg [pI, pI], pB]] (c5A (i_TermScore_m N))) :=
 mO (fC (jY N) (fC (jpX N) ja)) func279 rfl N (.seq .no (.seq .no (.seq .no (.seq (.block (.loop jtO .no)) .no)))) _
def i_RatFloor_m (c : Int) (a : Int) (b : Int) : Z10 :=
 (oB (jbk N c a) fun e => bif !e then some 0 else oB (jm N b 1 1000) fun d => bif !d then some 0 else if fits (c * b) then bif decide ((0 : Int) <= (c * b)) then if a ≠ 0 then if fits ((c * b).tdiv a) then some ((c * b).tdiv a) else none else none else (if fits (0 - (c * b)) then if fits ((0 - (c * b)) + a) then if fits (((0 - (c * b)) + a) - 1) then if a ≠ 0 then if fits ((((0 - (c * b)) + a) - 1).tdiv a) then if fits (0 - ((((0 - (c * b)) + a) - 1).tdiv a)) then some (0 - ((((0 - (c * b)) + a) - 1).tdiv a)) else none else none else none else none else none else none) else none)
theorem jiY : mK 281 (bX [.agg [pI, pI], pI] [pI] (c3A (i_RatFloor_m N))) :=
 mO (fC (jhS N) (fC (jY N) ja)) func281 rfl N .no _
def jlZ : Sh := ⟨.ptr Y0 :: pS :: pS :: pI :: dz 5 (.pv Y22 :: pI :: dz 16 (.pv Y4 :: pI :: pI :: dz 49 [])), []⟩
def i_scorer_points_m (b : ((List Z2) × (List Z3)) × (List Z0) × (List Z1)) (q : List UInt8) (i : List UInt8) (l : Int) : Z10 :=
 (oB (i_scorer_places_m N b q i l) fun n => bif decide ((n.length : Int) = 0) then some 0 else iter (fun v (a, d, p, o, j, e, m, k, c) => bif decide (c < k) then oB (idx m c) fun u => (oB (i_Seg_long_m N a.2 a.1.1 a.1.2 d u.1) fun h => if fits (e + h) then if fits (c + 1) then v (a, d, p, o, j, (e + h), m, k, (c + 1)) else none else none) else oB (i_Seg_long_m N a.2 a.1.1 a.1.2 d o) fun x => oB (i_Seg_posts_m N a.2 d p) fun r => oB (i_TermScore_m N (j.length : Int) x e (a.2.1.length : Int) (r.length : Int)) fun f => oB (i_RatFloor_m N f.1 f.2.1 1000) fun t => some t) N (b, q, i, l, n, (0 : Int), b.2.1, (b.2.1.length : Int), (0 : Int)))
theorem jsD : mK 223 (bX [.ptr Y0, pS, pS, pI] [pI] (c4A (i_scorer_points_m N))) :=
 mO (fC (jrB N) (fC (jhs N) (fC (jcq N) (fC (jgE N) (fC (jiY N) ja))))) func223 rfl N (.seq .no (.seq .no (.seq .no (.seq .no (.seq (.seq .no (.block (.loop jlZ .no))) .no))))) _
def jyu (N : Nat) (b : List Z2) (a : List UInt8) : Option (Z2) := jxR b a
 
def jBB (N : Nat) : Model := ⟨⟨[.pv (.sl .str), pS], []⟩, ⟨[pS], []⟩, c2A (jyu N)⟩
theorem jBE : mK 282 (jBB N) := jBz
def jDT : Sh := ⟨.pv Y22 :: dz 4 (.pv Y22 :: pI :: pI :: dz 24 []), []⟩
def jx1 (e : List Int) : Z7 :=
 (iter (fun h (b, d, c, a) => bif decide (a < c) then oB (idx d a) fun f => (oB (jm N f 0 999999999) fun j => bif !j then some false else bif decide ((0 : Int) < a) then if fits (a - 1) then oB (idx b (a - 1)) fun i => (bif decide (f <= i) then some false else if fits (a + 1) then h (b, d, c, (a + 1)) else none) else none else if fits (a + 1) then h (b, d, c, (a + 1)) else none) else some (decide ((b.length : Int) <= 60))) N (e, e, (e.length : Int), (0 : Int)))
theorem jAN : mK 120 (bX [.pv Y22] [pB] (c1A (jx1 N))) :=
 mO (fC (jY N) ja) func120 rfl N (.seq .no (.seq (.seq .no (.block (.loop jDT .no))) .no)) _
def jBY : Sh := ⟨.pv (.sl Y22) :: dz 4 (.pv (.sl Y22) :: pI :: pI :: dz 10 []), []⟩
def jyD (b : List (List Int)) : Z7 :=
 (iter (fun j (c, e, d, a) => bif decide (a < d) then oB (idx e a) fun i => (oB (jx1 N i) fun f => bif !f then some false else if fits (a + 1) then j (c, e, d, (a + 1)) else none) else some (decide ((c.length : Int) <= 6))) N (b, b, (b.length : Int), (0 : Int)))
theorem jD9 : mK 345 (bX [.pv (.sl Y22)] [pB] (c1A (jyD N))) :=
 mO (fC (jAN N) ja) func345 rfl N (.seq .no (.seq (.seq .no (.block (.loop jBY .no))) .no)) _
def jyK (a : List (List Int)) : Z7 :=
 (bif decide ((0 : Int) < a.length) then oB (jyD N a) fun b => (some b) else some false)
theorem jD6 : mK 328 (bX [.pv (.sl Y22)] [pB] (c1A (jyK N))) :=
 mO (fC (jD9 N) ja) func328 rfl N .no _
def jxH (N : Nat) (a : Int) : Z7 :=
 (some (!decide (a = a)))
theorem joK : mK 267 (bX [pI] [pB] (c1A (jxH N))) :=
 mO ja func267 rfl N .no _
def jye (b : Int) (a : Int) : Z7 :=
 (oB (jxH N b) fun d => bif d then oB (jxH N a) fun c => (bif !c then some true else some (decide (b < a))) else some (decide (b < a)))
theorem jA5 : mK 258 (bX [pI, pI] [pB] (c2A (jye N))) :=
 mO (fC (joK N) ja) func258 rfl N .no _
def jxW (N : Nat) (a : Int) : Z7 :=
 (some (!decide (a = a)))
theorem jCp : mK 354 (bX [pI] [pB] (c1A (jxW N))) :=
 mO ja func354 rfl N .no _
def jB3 : Sh := ⟨.pv Y22 :: pI :: dz 4 (pI :: pI :: pI :: dz 45 []), []⟩
def jyA (f : List Int) (i : Int) : Option (Int × Bool) :=
 (iter (fun h (d, c, e, a, b) => bif decide (a < b) then if fits (a + b) then if 0 <= (1 : Int) then oB (idx d (IntKind.i64.wrap ((IntKind.u64.wrap (a + b)).fdiv (2 ^ (min (1 : Int).toNat (IntKind.bits .u64)))))) fun o => (oB (jye N o c) fun m => bif m then if fits ((IntKind.i64.wrap ((IntKind.u64.wrap (a + b)).fdiv (2 ^ (min (1 : Int).toNat (IntKind.bits .u64))))) + 1) then h (d, c, e, ((IntKind.i64.wrap ((IntKind.u64.wrap (a + b)).fdiv (2 ^ (min (1 : Int).toNat (IntKind.bits .u64))))) + 1), b) else none else h (d, c, e, a, (IntKind.i64.wrap ((IntKind.u64.wrap (a + b)).fdiv (2 ^ (min (1 : Int).toNat (IntKind.bits .u64))))))) else none else none else bif decide (a < e) then oB (idx d a) fun l => (bif decide (l = c) then some (a, true) else oB (idx d a) fun j => oB (jxW N j) fun k => bif k then oB (jxW N c) fun p => (some (a, p)) else some (a, false)) else some (a, false)) N (f, i, (f.length : Int), (0 : Int), (f.length : Int)))
theorem jDL : mK 346 (bX [.pv Y22, pI] [.tup [pI, pB]] (c2A (jyA N))) :=
 mO (fC (jA5 N) (fC (jCp N) ja)) func346 rfl N (.seq .no (.seq .no (.seq .no (.seq (.block (.loop jB3 .no)) .no)))) _
def jys (a : List Int) (c : Int) : Option (Int × Bool) :=
 (oB (jyA N a c) fun b => bif decide (b.1 = (a.length : Int)) then some (0, false) else oB (idx a b.1) fun d => some (d, true))
theorem jAO : mK 329 (bX [.pv Y22, pI] [.tup [pI, pB]] (c2A (jys N))) :=
 mO (fC (jDL N) ja) func329 rfl N .no _
def jBS : Sh := ⟨.pv (.sl Y22) :: pI :: dz 3 (.own 600005 tI 3 true :: dz 20 (.pv Y22 :: pI :: pI :: dz 42 [])), []⟩
def jDv : Sh := ⟨.pv (.sl Y22) :: pI :: dz 3 (.own 600005 tI 3 true :: .dead :: pI :: pI :: pB :: dz 16 (.pv Y22 :: pI :: pI :: dz 5 (.pv (.sl Y22) :: pI :: pI :: dz 34 []))), []⟩
def jyw (n : List (List Int)) (B : Int) : Option ((List Int)) :=
 (oB (jyK N n) fun G => bif !G then some ([] : List Int) else oB (jm N B 0 5) fun C => bif !C then some ([] : List Int) else oB (idx n 0) fun u => iter (fun k (j, E, z, y, A, m) => bif decide (m < A) then oB (idx y m) fun t => (oB (cut j 1 (j.length : Int)) fun w => iter (fun v (a, d, e, c, l, x, i, h, b, q, o, f) => bif decide (f < o) then oB (idx q f) fun D => (if fits (l + 1) then oB (jys N D (l + 1)) fun r => (bif x then if fits (f + 1) then v (a, d, e, c, r.1, r.2, i, h, b, q, o, (f + 1)) else none else if fits (f + 1) then v (a, d, e, c, r.1, false, i, h, b, q, o, (f + 1)) else none) else none) else bif x then if fits (c + (a.length : Int)) then if fits ((c + (a.length : Int)) - 1) then if fits (((c + (a.length : Int)) - 1) + d) then bif decide (l <= (((c + (a.length : Int)) - 1) + d)) then if room e.length ([c] : List Int).length 8 then if fits (b + 1) then k (a, d, (e ++ ([c] : List Int)), i, h, (b + 1)) else none else none else (if fits (b + 1) then k (a, d, e, i, h, (b + 1)) else none) else none else none else none else if fits (b + 1) then k (a, d, e, i, h, (b + 1)) else none) N (j, E, z, t, t, true, y, A, m, w, (w.length : Int), (0 : Int))) else some z) N (n, B, ([] : List Int), u, (u.length : Int), (0 : Int)))
theorem jCX : mK 283 (bX [.pv (.sl Y22), pI] [.own 1 tI 3 true] (c2A (jyw N))) :=
 mO (fC (jD6 N) (fC (jY N) (fC (jAO N) ja))) func283 rfl N (.seq .no (.seq .no (.seq .no (.seq (.seq .no (.block (.loop jBS (.seq .no (.seq .no (.seq (.block (.seq .no (.seq .no (.seq (.seq .no (.block (.loop jDv .no))) .no)))) .no)))))) .no)))) _
def jCk : Sh := ⟨.ptr Y0 :: dz 3 (.box 4 0 :: .box 5 0 :: .dead :: .own 600007 Y18 151 true :: .own 600008 Y22 66 true :: pI :: dz 18 (.pv Y16 :: pI :: pI :: dz 59 [])), [(4, false, [pI, pS, .pv (.sl .str), pI, pI, .pv (.sl .q)]), (5, false, [pI, .pv Y20, .pv Y16])]⟩
def jDK : Sh := ⟨.ptr Y0 :: dz 3 (.box 4 0 :: .box 5 0 :: .dead :: .own 600007 Y18 151 true :: .own 600008 Y22 66 true :: pI :: pI :: .box 11 0 :: .own 600012 tI 3 true :: dz 15 (.pv Y16 :: pI :: pI :: dz 12 (.pv Y22 :: pI :: pI :: dz 44 []))), [(4, false, [pI, pS, .pv (.sl .str), pI, pI, .pv (.sl .q)]), (5, false, [pI, .pv Y20, .pv Y16]), (11, false, [pS, pI])]⟩
def jyB (x : ((List Z2) × (List Z3)) × (List Z0) × (List Z1)) (q : Int) (q2 : List UInt8) (q3 : List Z2) (q4 : Int) (q5 : Int) (q6 : List DQ) (d : Int) (d2 : Z15) (d3 : Z9) : Z10 :=
 (oB (jyu N q3 ([32] : List UInt8)) fun r => oB (jbw N x.1.1 x.1.2 r) fun r2 => bif decide ((r2.length : Int) = 0) then some 0 else iter (fun go (x2, terms, lists, all, t28, t29, t30, q7, q8, q9, q10, q11, q12, d4, d5, d6) => bif decide (t30 < t29) then oB (idx t28 t30) fun e => (oB (i_scorer_places_m N x2 q8 e.1 d4) fun r3 => iter (fun go2 (x3, terms2, lists2, all2, i, list, t282, t292, t302, t43, t44, t45, q13, q14, q15, q16, q17, q18, d7, d8, d9, t, t2) => bif decide (t45 < t44) then oB (idx t43 t45) fun e2 => (oB (idx terms2 0) fun e3 => if fits (t2 - e3.2) then if fits ((t2 - e3.2) - i) then if fits (e2 - ((t2 - e3.2) - i)) then bif decide ((0 : Int) <= (e2 - ((t2 - e3.2) - i))) then if room list.length ([(e2 - ((t2 - e3.2) - i))] : List Int).length 8 then if fits (t45 + 1) then go2 (x3, terms2, lists2, all2, i, (list ++ ([(e2 - ((t2 - e3.2) - i))] : List Int)), t282, t292, t302, t43, t44, (t45 + 1), q13, q14, q15, q16, q17, q18, d7, d8, d9, t, t2) else none else none else (if fits (t45 + 1) then go2 (x3, terms2, lists2, all2, i, list, t282, t292, t302, t43, t44, (t45 + 1), q13, q14, q15, q16, q17, q18, d7, d8, d9, t, t2) else none) else none else none else none) else if room lists2.length ([list] : List (List Int)).length 24 then oB (i_scorer_points_m N x3 q14 t d7) fun r4 => (if fits (all2 + r4) then if fits (t302 + 1) then go (x3, terms2, (lists2 ++ ([list] : List (List Int))), (all2 + r4), t282, t292, (t302 + 1), q13, q14, q15, q16, q17, q18, d7, d8, d9) else none else none) else none) N (x2, terms, lists, all, t30, ([] : List Int), t28, t29, t30, r3, (r3.length : Int), (0 : Int), q7, q8, q9, q10, q11, q12, d4, d5, d6, e.1, e.2)) else oB (jyw N lists q10) fun r5 => if fits ((if (r5.length : Int) < 3 then (r5.length : Int) else 3) * all) then some ((if (r5.length : Int) < 3 then (r5.length : Int) else 3) * all) else none) N (x, r2, ([] : List (List Int)), (0 : Int), r2, (r2.length : Int), (0 : Int), q, q2, q3, q4, q5, q6, d, d2, d3))
theorem jDC : mK 225 (bX [.ptr Y0, .agg [pI, pS, .pv (.sl .str), pI, pI, .pv (.sl .q)], .agg [pI, .pv Y20, .pv Y16]] [pI] (c10A (jyB N))) :=
 mO (fC (jBE N) (fC (jgO N) (fC (jrB N) (fC (jsD N) (fC (jCX N) ja))))) func225 rfl N (.seq .no (.seq .no (.seq .no (.seq .no (.seq .no (.seq (.seq .no (.block (.loop jCk (.seq .no (.seq .no (.seq (.block (.seq .no (.seq .no (.seq (.seq .no (.block (.loop jDK .no))) .no)))) .no)))))) .no)))))) _
def jtE : Sh := ⟨.dead :: pS :: dz 3 (.own 600005 .str 9 true :: dz 6 (.pv Y6 :: pI :: pI :: dz 14 [])), []⟩
def i_Seg_terms_m (h : (List Z0) × (List Z1)) (k : List UInt8) : Option ((List Z2)) :=
 (iter (fun i (f, b, c, d, a) => bif decide (a < d) then oB (idx c a) fun e => (bif decide (e.1 = f) then if room b.length ([e.2.1] : List Z2).length 16 then if fits (a + 1) then i (f, (b ++ ([e.2.1] : List Z2)), c, d, (a + 1)) else none else none else if fits (a + 1) then i (f, b, c, d, (a + 1)) else none) else some b) N (k, ([] : List Z2), h.2, (h.2.length : Int), (0 : Int)))
theorem jln : mK 226 (bX [.ptr Y3, pS] [.own 1 .str 9 true] (c2A (i_Seg_terms_m N))) :=
 mO ja func226 rfl N (.seq .no (.seq .no (.seq (.seq .no (.block (.loop jtE .no))) .no))) _
def jDE : Sh := ⟨pS :: pS :: dz 3 (.mtk 600005 tI 3 true :: dz 18 (pI :: pI :: dz 62 [])), []⟩
def jBC : Sh := ⟨pS :: pS :: dz 3 (.mtk 600005 tI 3 true :: .dead :: pI :: dz 80 []), []⟩
def jCv : Sh := ⟨pS :: pS :: dz 3 (.mtk 600005 tI 3 true :: .dead :: pI :: pI :: pI :: dz 78 []), []⟩
def jAI : Sh := ⟨pS :: pS :: dz 3 (.mtk 600005 tI 3 true :: .dead :: pI :: .dead :: pI :: pI :: dz 77 []), []⟩
def jAQ : Sh := ⟨pS :: pS :: dz 3 (.mtk 22 tI 3 true :: dz 82 []), []⟩
def jDZ : Sh := ⟨pS :: pS :: dz 86 [], []⟩
def i_NearFar_m (a : List UInt8) (b : List UInt8) : Z10 :=
 (meet (fun (g : Z2 × Z2) => match g with | (a2, b2) => meet (fun (g : Z2 × Z2 × (List Int)) => match g with | (a3, b3, row) => iter (fun go (a4, b4, row2, t24, t25) => bif decide (t25 < t24) then if 0 <= t25 /\ t25 < (row2.length : Int) then oB (row2[t25.toNat]?) fun e => (if fits (t25 + 1) then go (a4, b4, (row2.set t25.toNat t25), t24, (t25 + 1)) else none) else none else iter (fun go2 (a5, b5, row3, i) => bif decide (i <= (a5.length : Int)) then if 0 <= (0 : Int) /\ (0 : Int) < row3.length then oB (row3[(0 : Int).toNat]?) fun e2 => (if 0 <= (0 : Int) /\ (0 : Int) < row3.length then oB (row3[(0 : Int).toNat]?) fun e3 => (iter (fun go3 (a6, b6, row4, i2, corner, j) => bif decide (j <= (b6.length : Int)) then meet (fun (g : Z21) => match g with | (a7, b7, row5, i3, j2, cost) => if 0 <= j2 /\ j2 < (row5.length : Int) then oB (row5[j2.toNat]?) fun e4 => (if 0 <= j2 /\ j2 < (row5.length : Int) then oB (row5[j2.toNat]?) fun e5 => (if fits (e5 + 1) then if fits (j2 - 1) then if 0 <= (j2 - 1) /\ (j2 - 1) < (row5.length : Int) then oB (row5[(j2 - 1).toNat]?) fun e6 => (if fits (e6 + 1) then if 0 <= j2 /\ j2 < (row5.length : Int) then oB (row5[j2.toNat]?) fun e7 => (if fits (j2 + 1) then go3 (a7, b7, (row5.set j2.toNat (if (e6 + 1) < (if (e5 + 1) < cost then e5 + 1 else cost) then e6 + 1 else if (e5 + 1) < cost then e5 + 1 else cost)), i3, e4, (j2 + 1)) else none) else none else none) else none else none else none) else none) else none) fun J3 => (if fits (i2 - 1) then oB (idx a6 (i2 - 1)) fun c => (if fits (j - 1) then oB (idx b6 (j - 1)) fun c2 => (bif !decide ((c.toNat : Int) = (c2.toNat : Int)) then if fits (corner + 1) then J3 (a6, b6, row4, i2, j, (corner + 1)) else none else J3 (a6, b6, row4, i2, j, corner)) else none) else none) else if fits (i2 + 1) then go2 (a6, b6, row4, (i2 + 1)) else none) N (a5, b5, (row3.set (0 : Int).toNat i), i, e2, (1 : Int))) else none) else none else if 0 <= (b5.length : Int) /\ (b5.length : Int) < (row3.length : Int) then oB (row3[(b5.length : Int).toNat]?) fun e8 => (some e8) else none) N (a4, b4, row2, (1 : Int))) N (a3, b3, row, (row.length : Int), (0 : Int))) fun J2 => if fits ((b2.length : Int) + 1) then if ((b2.length : Int) + 1) = ((b2.length : Int) + 1) /\ 0 <= ((b2.length : Int) + 1) /\ ((b2.length : Int) + 1) * 8 <= 140737488355328 /\ ((b2.length : Int) + 1) <= 140737488355328 then J2 (a2, b2, (List.replicate ((b2.length : Int) + 1).toNat 0)) else none else none) fun J => oB (jO N a) fun r => bif !r then some (-1) else oB (jO N b) fun r2 => bif !r2 then some (-1) else J (a, b))
theorem jDu : mK 227 (bX [pS, pS] [pI] (c2A (i_NearFar_m N))) :=
 mO (fC (jcM N) ja) func227 rfl N (.seq .no (.meet jDZ .no (.meet jAQ .no (.seq (.seq .no (.block (.loop jDE .no))) (.seq (.seq .no (.block (.loop jBC (.seq .no (.seq (.block (.seq .no (.seq .no (.seq .no (.block (.loop jCv (.seq .no (.seq (.block (.seq .no (.meet jAI .no .no))) .no)))))))) .no))))) .no))))) _ (wr := [22])
def jxG (N : Nat) : (D : Nat) -> Z2 -> Z2 -> Z7
 | 0, _, _ => none
 | D + 1, p, s =>
 bif decide (p = ([] : List UInt8)) then
 some (decide (s = ([] : List UInt8)))
 else
 oB (idx p 0) fun c =>
 bif decide ((c.toNat : Int) = 42) then
 oB (cut p 1 (p.length : Int)) fun y =>
 (oB (jxG N D y s) fun r =>
 bif r then
 some true
 else
 bif !decide (s = ([] : List UInt8)) then
 oB (cut s 1 (s.length : Int)) fun y2 =>
 (oB (jxG N D p y2) fun r2 =>
 some r2)
 else
 some false)
 else
 bif decide (s = ([] : List UInt8)) then
 some false
 else
 oB (idx p 0) fun c2 =>
 bif decide ((c2.toNat : Int) = 63) then
 oB (cut p 1 (p.length : Int)) fun y3 =>
 (oB (cut s 1 (s.length : Int)) fun y4 =>
 oB (jxG N D y3 y4) fun r3 =>
 some r3)
 else
 oB (idx p 0) fun c3 =>
 oB (idx s 0) fun c4 =>
 bif decide ((c3.toNat : Int) = (c4.toNat : Int)) then
 oB (cut p 1 (p.length : Int)) fun y5 =>
 (oB (cut s 1 (s.length : Int)) fun y6 =>
 oB (jxG N D y5 y6) fun r4 =>
 some r4)
 else
 some false
def jyg (N D : Nat) : Model := ⟨⟨[pS, pS], []⟩, ⟨[pB], []⟩, c2A (jxG N D)⟩
theorem jBG (N D : Nat) (ih : mK 284 (jyg N D)) : mK 284 (jyg N (D + 1)) :=
 mO (fC ih ja) func284 rfl N .no (jyg N (D + 1))
theorem jAz (N : Nat) : ∀ D, mK 284 (jyg N D)
 | 0 => modelOk_none ⟨_, func284, by decide, by kernel_rfl⟩ _ (fun a => rfl)
 | D + 1 => jBG N D (jAz N D)
def jx0 (a : List UInt8) (b : List UInt8) : Z7 :=
 (oB (jxV N a) fun e => bif e then oB (jO N b) fun c => (bif c then oB (jxG N N a b) fun d => (some d) else some false) else some false)
theorem jDd : mK 228 (bX [pS, pS] [pB] (c2A (jx0 N))) :=
 mO (fC (jz9 N) (fC (jcM N) (fC (jAz N N) ja))) func228 rfl N .no _
def jD5 : Sh := ⟨.dead :: pS :: dz 8 (.pv Y16 :: pI :: pI :: dz 10 []), []⟩
def jyp (h : Int) (l : Z15) (b : Z9) (i : List UInt8) : Z10 :=
 (oB (jbx N h l b) fun j => bif j then iter (fun m (f, d, c, a) => bif decide (a < c) then oB (idx d a) fun e => (bif decide (e.1 = f) then some e.2 else if fits (a + 1) then m (f, d, c, (a + 1)) else none) else some (-1)) N (i, b, (b.length : Int), (0 : Int)) else some (-1))
theorem jBQ : mK 230 (bX [.agg [pI, .pv Y20, .pv Y16], pS] [pI] (c4A (jyp N))) :=
 mO (fC (jh0 N) ja) func230 rfl N (.seq .no (.seq (.seq .no (.cond (.seq .no (.block (.loop jD5 .no))) .no)) .no)) _
def jDa : Sh := ⟨.ptr Y0 :: dz 3 (.box 4 0 :: .box 5 0 :: .dead :: pI :: dz 43 (.own 600051 .str 9 true :: pI :: pI :: dz 122 [])), [(4, false, [pI, pS, .pv (.sl .str), pI, pI, .pv (.sl .q)]), (5, false, [pI, .pv Y20, .pv Y16])]⟩
def jCO : Sh := ⟨.ptr Y0 :: dz 3 (.box 4 0 :: .box 5 0 :: dz 83 (.own 600089 .str 9 true :: pI :: pI :: dz 84 [])), [(4, false, [pI, pS, .pv (.sl .str), pI, pI, .pv (.sl .q)]), (5, false, [pI, .pv Y20, .pv Y16])]⟩
def jDp : Sh := ⟨.ptr Y0 :: dz 3 (.box 4 0 :: .box 5 0 :: dz 7 (pI :: dz 140 (.pv (.sl .q) :: pI :: pI :: dz 19 []))), [(4, false, [pI, pS, .pv (.sl .str), pI, pI, .pv (.sl .q)]), (5, false, [pI, .pv Y20, .pv Y16])]⟩
def i_scorer_score_m (N : Nat) : (D : Nat) -> Z16 -> Int -> Z2 -> (List Z2) -> Int -> Int -> (List DQ) -> Int -> Z14 -> Z8 -> Z10
 | 0, _, _, _, _, _, _, _, _, _, _ => none
 | D + 1, x, q, q2, q3, q4, q5, q6, d, d2, d3 =>
 bif decide (q = 1) then
 some 100
 else
 bif decide (q = 2) then
 oB (idx q3 0) fun e =>
 (oB (jyc N x.1.1 x.1.2 e) fun r =>
 oB (i_scorer_points_m N x q2 r d) fun r2 =>
 some r2)
 else
 bif decide (q = 3) then
 oB (jyB N x q q2 q3 q4 q5 q6 d d2 d3) fun r3 =>
 (some r3)
 else
 bif decide (q = 4) then
 oB (i_Seg_terms_m N x.2 q2) fun r4 =>
 (iter (fun go (g : Z16 × Int × (List Z2) × Int × Int × Int × Z2 × (List Z2) × Int × Int × (List DQ) × Int × Z14 × Z8) =>
 match g with
 | (x2, best, t51, t52, t53, q7, q8, q9, q10, q11, q12, d4, d5, d6) =>
 bif decide (t53 < t52) then
 oB (idx t51 t53) fun e2 =>
 (oB (idx q9 0) fun e3 =>
 oB (i_NearFar_m N e2 e3) fun r5 =>
 oB (jm N r5 0 q10) fun r6 =>
 bif r6 then
 oB (i_scorer_points_m N x2 q8 e2 d4) fun r7 =>
 (if fits (3 - r5) then if fits (r7 * (3 - r5)) then if 3 ≠ 0 then
 if fits ((r7 * (3 - r5)).tdiv 3) then if fits (t53 + 1) then go (x2, (if ((r7 * (3 - r5)).tdiv 3) > best then (r7 * (3 - r5)).tdiv 3 else best), t51, t52, (t53 + 1), q7, q8, q9, q10, q11, q12, d4, d5, d6) else none else none
 else none else none else none)
 else
 if fits (t53 + 1) then go (x2, best, t51, t52, (t53 + 1), q7, q8, q9, q10, q11, q12, d4, d5, d6) else none)
 else
 some best) N (x, 0, r4, (r4.length : Int), 0, q, q2, q3, q4, q5, q6, d, d2, d3))
 else
 bif decide (q = 5) then
 oB (i_Seg_terms_m N x.2 q2) fun r8 =>
 (iter (fun go2 (g : Z16 × (List Z2) × Int × Int × Int × Z2 × (List Z2) × Int × Int × (List DQ) × Int × Z14 × Z8) =>
 match g with
 | (x3, t89, t90, t91, q13, q14, q15, q16, q17, q18, d7, d8, d9) =>
 bif decide (t91 < t90) then
 oB (idx t89 t91) fun e4 =>
 (oB (idx q15 0) fun e5 =>
 oB (jx0 N e5 e4) fun r9 =>
 bif r9 then
 oB (i_scorer_places_m N x3 q14 e4 d7) fun r10 =>
 (bif decide ((0 : Int) < r10.length) then
 some 100
 else
 if fits (t91 + 1) then go2 (x3, t89, t90, (t91 + 1), q13, q14, q15, q16, q17, q18, d7, d8, d9) else none)
 else
 if fits (t91 + 1) then go2 (x3, t89, t90, (t91 + 1), q13, q14, q15, q16, q17, q18, d7, d8, d9) else none)
 else
 some 0) N (x, r8, (r8.length : Int), 0, q, q2, q3, q4, q5, q6, d, d2, d3))
 else
 bif decide (q = 6) then
 oB (jyp N d d2 d3 q2) fun r11 =>
 (oB (jm N r11 q4 q5) fun r12 =>
 bif r12 then
 some 100
 else
 some 0)
 else
 bif decide (q = 10) then
 oB (idx q6 0) fun e6 =>
 (oB (i_scorer_score_m N D x e6.kind e6.field e6.words e6.lo e6.hi e6.kids d d2 d3) fun r13 =>
 if fits (q4 * r13) then some (q4 * r13) else none)
 else
 bif decide (q = 9) then
 oB (idx q6 1) fun e7 =>
 (oB (i_scorer_score_m N D x e7.kind e7.field e7.words e7.lo e7.hi e7.kids d d2 d3) fun r14 =>
 bif decide ((0 : Int) < r14) then
 some 0
 else
 oB (idx q6 0) fun e8 =>
 oB (i_scorer_score_m N D x e8.kind e8.field e8.words e8.lo e8.hi e8.kids d d2 d3) fun r15 =>
 some r15)
 else
 iter (fun go3 (g : Z16 × Int × (List DQ) × Int × Int × Int × Z2 × (List Z2) × Int × Int × (List DQ) × Int × Z14 × Z8) =>
 match g with
 | (x4, all, t154, t155, t156, q19, q20, q21, q22, q23, q24, d10, d11, d12) =>
 bif decide (t156 < t155) then
 oB (idx t154 t156) fun e9 =>
 (oB (i_scorer_score_m N D x4 e9.kind e9.field e9.words e9.lo e9.hi e9.kids d10 d11 d12) fun r16 =>
 bif decide (r16 = 0) then
 bif decide (q19 = 7) then
 some 0
 else
 (if fits (all + r16) then if fits (t156 + 1) then go3 (x4, (all + r16), t154, t155, (t156 + 1), q19, q20, q21, q22, q23, q24, d10, d11, d12) else none else none)
 else
 if fits (all + r16) then if fits (t156 + 1) then go3 (x4, (all + r16), t154, t155, (t156 + 1), q19, q20, q21, q22, q23, q24, d10, d11, d12) else none else none)
 else
 some all) N (x, 0, q6, (q6.length : Int), 0, q, q2, q3, q4, q5, q6, d, d2, d3)
def jx6 (N D : Nat) : Model := ⟨⟨[.ptr Y0, .agg [pI, pS, .pv (.sl .str), pI, pI, .pv (.sl .q)], .agg [pI, .pv Y20, .pv Y16]], []⟩, ⟨[pI], []⟩, c10A (i_scorer_score_m N D)⟩
theorem jBq (N D : Nat) (ih : mK 160 (jx6 N D)) : mK 160 (jx6 N (D + 1)) :=
 mO (fC ih (fC (jBn N) (fC (jsD N) (fC (jDC N) (fC (jln N) (fC (jDu N) (fC (jY N) (fC (jDd N) (fC (jrB N) (fC (jBQ N) ja)))))))))) func160 rfl N (.seq .no (.seq (.seq .no (.block (.seq .no (.cond .no (.seq .no (.cond .no (.seq .no (.cond .no (.seq .no (.cond (.seq .no (.seq (.seq .no (.block (.loop jDa .no))) .no)) (.seq .no (.cond (.seq (.seq .no (.block (.loop jCO .no))) .no) .no)))))))))))) (.seq .no (.seq (.seq .no (.block (.loop jDp .no))) .no)))) (jx6 N (D + 1))
theorem jzy (N : Nat) : ∀ D, mK 160 (jx6 N D)
 | 0 => modelOk_none ⟨_, func160, by decide, by kernel_rfl⟩ _ (fun a => rfl)
 | D + 1 => jBq N D (jzy N D)
def jo5 : Sh := ⟨.pv (.sl .str) :: .pv (.sl .str) :: dz 3 (pI :: dz 20 []), []⟩
def j0 (d : List Z2) (c : List Z2) : Z7 :=
 (bif !decide ((d.length : Int) = (c.length : Int)) then some false else iter (fun j (b, e, a) => bif decide (a < (b.length : Int)) then oB (idx b a) fun i => (oB (idx e a) fun f => bif !decide (i = f) then some false else if fits (a + 1) then j (b, e, (a + 1)) else none) else some true) N (d, c, (0 : Int)))
theorem jd6 : mK 16 (bX [.pv (.sl .str), .pv (.sl .str)] [pB] (c2A (j0 N))) :=
 mO ja func16 rfl N (.seq .no (.seq .no (.seq (.seq .no (.block (.loop jo5 .no))) .no))) _
def jyZ : Sh := ⟨[.agg [pI, pS, .pv (.sl .str), pI, pI, .pv (.sl .q)], .agg [pI, pS, .pv (.sl .str), pI, pI, .pv (.sl .q)]], []⟩
def jAc : Sh := ⟨[pB], []⟩
def jCx : Sh := ⟨[.pv (.sl .q), .pv (.sl .q)], []⟩
def jCz : Sh := ⟨[pB], []⟩
def jC3 : Sh := ⟨.pv (.sl .q) :: .pv (.sl .q) :: dz 3 (pI :: dz 21 []), []⟩
def jyS (i : Z18 -> Option Bool) (f : List DQ) (e : List DQ) : Z7 :=
 (bif !decide ((f.length : Int) = (e.length : Int)) then some false else iter (fun l (d, h, c) => bif decide (c < (d.length : Int)) then oB (idx d c) fun b => (oB (idx h c) fun a => oB (i (b.kind, b.field, b.words, b.lo, b.hi, b.kids, a.kind, a.field, a.words, a.lo, a.hi, a.kids)) fun j => bif !j then some false else if fits (c + 1) then l (d, h, (c + 1)) else none) else some true) N (f, e, (0 : Int)))
def jzD (N : Nat) (F : Z18 -> Option Bool) : Model := ⟨jCx, jCz, fun a => jyS N F a.1 a.2⟩
theorem jCt (N : Nat) (F : Z18 -> Option Bool) (hF : mK 55 ⟨jyZ, jAc, F⟩) : mK 135 (jzD N F) :=
 mO (fC hF ja) func135 rfl N (.seq .no (.seq .no (.seq (.seq .no (.block (.loop jC3 .no))) .no))) (jzD N F)
def jxK (N : Nat) : (D : Nat) -> Int -> Z2 -> (List Z2) -> Int -> Int -> (List DQ) -> Int -> Z2 -> (List Z2) -> Int -> Int -> (List DQ) -> Z7
 | 0, _, _, _, _, _, _, _, _, _, _, _, _ => none
 | D + 1, a, a2, a3, a4, a5, a6, b, b2, b3, b4, b5, b6 =>
 bif !decide (a = b) then
 some false
 else
 bif !decide (a2 = b2) then
 some false
 else
 oB (j0 N a3 b3) fun r =>
 bif !r then
 some false
 else
 bif !decide (a4 = b4) then
 some false
 else
 bif !decide (a5 = b5) then
 some false
 else
 oB (jyS N (fun a => jxK N D a.1 a.2.1 a.2.2.1 a.2.2.2.1 a.2.2.2.2.1 a.2.2.2.2.2.1 a.2.2.2.2.2.2.1 a.2.2.2.2.2.2.2.1 a.2.2.2.2.2.2.2.2.1 a.2.2.2.2.2.2.2.2.2.1 a.2.2.2.2.2.2.2.2.2.2.1 a.2.2.2.2.2.2.2.2.2.2.2) a6 b6) fun r2 =>
 bif !r2 then
 some false
 else
 some true
def jyy (N D : Nat) : Model := ⟨jyZ, jAc, c12A (jxK N D)⟩
theorem jDy (N D : Nat) (ih : mK 55 (jyy N D)) : mK 55 (jyy N (D + 1)) :=
 mO (fC ih (fC (jd6 N) (fC (jCt N _ ih) ja))) func55 rfl N .no (jyy N (D + 1))
theorem jAA (N : Nat) : ∀ D, mK 55 (jyy N D)
 | 0 => modelOk_none ⟨_, func55, by decide, by kernel_rfl⟩ _ (fun a => rfl)
 | D + 1 => jDy N D (jAA N D)
def jaR (c : List Z2) (d : List UInt8) (b : List Z2) (a : List UInt8) : Z7 :=
 (oB (j0 N c b) fun e => bif !e then some false else bif !decide (d = a) then some false else some true)
theorem jqb : mK 161 (bX [.agg [.pv (.sl .str), pS], .agg [.pv (.sl .str), pS]] [pB] (c4A (jaR N))) :=
 mO (fC (jd6 N) ja) func161 rfl N .no _
def jp9 : Sh := ⟨.pv Y17 :: .pv Y17 :: dz 3 (pI :: dz 21 []), []⟩
def jdJ (f : List Z3) (c : List Z3) : Z7 :=
 (bif !decide ((f.length : Int) = (c.length : Int)) then some false else iter (fun k (b, h, a) => bif decide (a < (b.length : Int)) then oB (idx b a) fun e => (oB (idx h a) fun d => oB (jaR N e.1 e.2 d.1 d.2) fun i => bif !i then some false else if fits (a + 1) then k (b, h, (a + 1)) else none) else some true) N (f, c, (0 : Int)))
theorem jkU : mK 77 (bX [.pv Y17, .pv Y17] [pB] (c2A (jdJ N))) :=
 mO (fC (jqb N) ja) func77 rfl N (.seq .no (.seq .no (.seq (.seq .no (.block (.loop jp9 .no))) .no))) _
def jcO (d : List Z2) (e : List Z3) (c : List Z2) (b : List Z3) : Z7 :=
 (oB (j0 N d c) fun f => bif !f then some false else oB (jdJ N e b) fun a => bif !a then some false else some true)
theorem jr8 : mK 18 (bX [.agg [.pv (.sl .str), .pv Y17], .agg [.pv (.sl .str), .pv Y17]] [pB] (c4A (jcO N))) :=
 mO (fC (jd6 N) (fC (jkU N) ja)) func18 rfl N .no _
def jbd (N : Nat) (c : List UInt8) (d : List UInt8) (b : List UInt8) (a : List UInt8) : Z7 :=
 (bif !decide (c = b) then some false else bif !decide (d = a) then some false else some true)
theorem jmy : mK 162 (bX [.agg [pS, pS], .agg [pS, pS]] [pB] (c4A (jbd N))) :=
 mO ja func162 rfl N .no _
def jqq : Sh := ⟨.pv Y20 :: .pv Y20 :: dz 3 (pI :: dz 21 []), []⟩
def jdj (f : Z15) (c : Z15) : Z7 :=
 (bif !decide ((f.length : Int) = (c.length : Int)) then some false else iter (fun k (b, h, a) => bif decide (a < (b.length : Int)) then oB (idx b a) fun e => (oB (idx h a) fun d => oB (jbd N e.1 e.2 d.1 d.2) fun i => bif !i then some false else if fits (a + 1) then k (b, h, (a + 1)) else none) else some true) N (f, c, (0 : Int)))
theorem jmD : mK 78 (bX [.pv Y20, .pv Y20] [pB] (c2A (jdj N))) :=
 mO (fC (jmy N) ja) func78 rfl N (.seq .no (.seq .no (.seq (.seq .no (.block (.loop jqq .no))) .no))) _
def jbo (N : Nat) (c : List UInt8) (d : Int) (b : List UInt8) (a : Int) : Z7 :=
 (bif !decide (c = b) then some false else bif !decide (d = a) then some false else some true)
theorem jtn : mK 163 (bX [.agg [pS, pI], .agg [pS, pI]] [pB] (c4A (jbo N))) :=
 mO ja func163 rfl N .no _
def jtU : Sh := ⟨.pv Y16 :: .pv Y16 :: dz 3 (pI :: dz 21 []), []⟩
def jdN (f : Z9) (c : Z9) : Z7 :=
 (bif !decide ((f.length : Int) = (c.length : Int)) then some false else iter (fun k (b, h, a) => bif decide (a < (b.length : Int)) then oB (idx b a) fun e => (oB (idx h a) fun d => oB (jbo N e.1 e.2 d.1 d.2) fun i => bif !i then some false else if fits (a + 1) then k (b, h, (a + 1)) else none) else some true) N (f, c, (0 : Int)))
theorem jkL : mK 79 (bX [.pv Y16, .pv Y16] [pB] (c2A (jdN N))) :=
 mO (fC (jtn N) ja) func79 rfl N (.seq .no (.seq .no (.seq (.seq .no (.block (.loop jtU .no))) .no))) _
def jbi (h : Int) (c : Z15) (f : Z9) (b : Int) (i : Z15) (d : Z9) : Z7 :=
 (bif !decide (h = b) then some false else oB (jdj N c i) fun e => bif !e then some false else oB (jdN N f d) fun a => bif !a then some false else some true)
theorem jta : mK 19 (bX [.agg [pI, .pv Y20, .pv Y16], .agg [pI, .pv Y20, .pv Y16]] [pB] (c6A (jbi N))) :=
 mO (fC (jmD N) (fC (jkL N) ja)) func19 rfl N .no _
def jnU : Sh := ⟨pI :: .dead :: .dead :: pS :: dz 16 [], []⟩
def jr (c : Int) : Option (Z2) :=
 (bif decide (c <= 0) then some ([109, 48] : List UInt8) else iter (fun e (a, b) => bif decide ((0 : Int) < a) then if 10 ≠ 0 then if fits (48 + (a.tmod 10)) then if (bytesOf ([(IntKind.u8.wrap (48 + (a.tmod 10)))] : List Int)).length + b.length <= 9223372036854775807 then if 10 ≠ 0 then if fits (a.tdiv 10) then e ((a.tdiv 10), ((bytesOf ([(IntKind.u8.wrap (48 + (a.tmod 10)))] : List Int)) ++ b)) else none else none else none else none else none else if ([109] : List UInt8).length + b.length <= 9223372036854775807 then some (([109] : List UInt8) ++ b) else none) N (c, ([] : List UInt8)))
theorem jaz : mK 80 (bX [pI] [pS] (c1A (jr N))) :=
 mO ja func80 rfl N (.seq .no (.seq .no (.seq .no (.seq (.block (.loop jnU .no)) .no)))) _
def jol : Sh := ⟨.mtk 800000 .str 9 true :: pI :: dz 3 (pI :: dz 14 []), []⟩
def jas (h : List Z2) (f : Int) : Option (Int × (List Z2)) :=
 (iter (fun i (b, c, a) => bif decide (a < (b.length : Int)) then oB (jr N c) fun d => (if 0 <= a /\ a < (b.length : Int) then oB (b[a.toNat]?) fun j => (if fits (c + 1) then if fits (a + 1) then i ((b.set a.toNat d), (c + 1), (a + 1)) else none else none) else none) else some (c, b)) N (h, f, (0 : Int)))
theorem jdf : mK 23 (bX [.mtk 800000 .str 9 true, pI] [pI, .mtk 800000 .str 9 true] (c2A (jas N))) :=
 mO (fC (jaz N) ja) func23 rfl N (.seq .no (.seq (.seq .no (.block (.loop jol .no))) .no)) _ (rs := [800000])
def jCg : Sh := ⟨.tre 800000 .q 70 :: pI :: dz 3 (pI :: dz 50 []), []⟩
def jxQ (N : Nat) : (D : Nat) -> (List DQ) -> Int -> Option (Int × (List DQ))
 | 0, _, _ => none
 | D + 1, a, k =>
 iter (fun go (g : (List DQ) × Int × Int) =>
 match g with
 | (a2, k2, i) =>
 bif decide (i < (a2.length : Int)) then
 if 0 <= i /\ i < (a2.length : Int) then
 oB (a2[i.toNat]?) fun e =>
 (if fits (k2 + 1) then oB (jr N (k2 + 1)) fun r =>
 (if 0 <= i /\ i < ((a2.set i.toNat (DQ.mk k2 e.field e.words e.lo e.hi e.kids)).length : Int) then
 oB ((a2.set i.toNat (DQ.mk k2 e.field e.words e.lo e.hi e.kids))[i.toNat]?) fun e2 =>
 (if fits ((k2 + 1) + 1) then if 0 <= i /\ i < (((a2.set i.toNat (DQ.mk k2 e.field e.words e.lo e.hi e.kids)).set i.toNat (DQ.mk e2.kind r e2.words e2.lo e2.hi e2.kids)).length : Int) then
 oB (((a2.set i.toNat (DQ.mk k2 e.field e.words e.lo e.hi e.kids)).set i.toNat (DQ.mk e2.kind r e2.words e2.lo e2.hi e2.kids))[i.toNat]?) fun e3 =>
 (oB (jas N e3.words ((k2 + 1) + 1)) fun r2 =>
 if 0 <= i /\ i < (((a2.set i.toNat (DQ.mk k2 e.field e.words e.lo e.hi e.kids)).set i.toNat (DQ.mk e2.kind r e2.words e2.lo e2.hi e2.kids)).length : Int) then
 oB (((a2.set i.toNat (DQ.mk k2 e.field e.words e.lo e.hi e.kids)).set i.toNat (DQ.mk e2.kind r e2.words e2.lo e2.hi e2.kids))[i.toNat]?) fun e4 =>
 (if fits (r2.1 + 1) then if 0 <= i /\ i < ((((a2.set i.toNat (DQ.mk k2 e.field e.words e.lo e.hi e.kids)).set i.toNat (DQ.mk e2.kind r e2.words e2.lo e2.hi e2.kids)).set i.toNat (DQ.mk e4.kind e4.field e4.words r2.1 e4.hi e4.kids)).length : Int) then
 oB ((((a2.set i.toNat (DQ.mk k2 e.field e.words e.lo e.hi e.kids)).set i.toNat (DQ.mk e2.kind r e2.words e2.lo e2.hi e2.kids)).set i.toNat (DQ.mk e4.kind e4.field e4.words r2.1 e4.hi e4.kids))[i.toNat]?) fun e5 =>
 (if fits ((r2.1 + 1) + 1) then if 0 <= i /\ i < (((((a2.set i.toNat (DQ.mk k2 e.field e.words e.lo e.hi e.kids)).set i.toNat (DQ.mk e2.kind r e2.words e2.lo e2.hi e2.kids)).set i.toNat (DQ.mk e4.kind e4.field e4.words r2.1 e4.hi e4.kids)).set i.toNat (DQ.mk e5.kind e5.field e5.words e5.lo (r2.1 + 1) e5.kids)).length : Int) then
 oB (((((a2.set i.toNat (DQ.mk k2 e.field e.words e.lo e.hi e.kids)).set i.toNat (DQ.mk e2.kind r e2.words e2.lo e2.hi e2.kids)).set i.toNat (DQ.mk e4.kind e4.field e4.words r2.1 e4.hi e4.kids)).set i.toNat (DQ.mk e5.kind e5.field e5.words e5.lo (r2.1 + 1) e5.kids))[i.toNat]?) fun e6 =>
 (oB (jxQ N D e6.kids ((r2.1 + 1) + 1)) fun r3 =>
 if fits (i + 1) then go (((((((a2.set i.toNat (DQ.mk k2 e.field e.words e.lo e.hi e.kids)).set i.toNat (DQ.mk e2.kind r e2.words e2.lo e2.hi e2.kids)).set i.toNat (DQ.mk e4.kind e4.field e4.words r2.1 e4.hi e4.kids)).set i.toNat (DQ.mk e5.kind e5.field e5.words e5.lo (r2.1 + 1) e5.kids)).modify i.toNat fun y3 => DQ.mk y3.kind y3.field y3.words y3.lo y3.hi r3.2).modify i.toNat fun y4 => DQ.mk y4.kind y4.field r2.2 y4.lo y4.hi y4.kids), r3.1, (i + 1)) else none)
 else none else none)
 else none else none)
 else none)
 else none else none)
 else none) else none)
 else none
 else
 some (k2, a2)) N (a, k, 0)
def jyx (N D : Nat) : Model := ⟨⟨[.tre 800000 .q 70, pI], []⟩, ⟨[pI, .tre 800000 .q 70], []⟩, c2A (jxQ N D)⟩
theorem jDO (N D : Nat) (ih : mK 81 (jyx N D)) : mK 81 (jyx N (D + 1)) :=
 mO (fC ih (fC (jaz N) (fC (jdf N) ja))) func81 rfl N (.seq .no (.seq (.seq .no (.block (.loop jCg .no))) .no)) (jyx N (D + 1)) (rs := [800000])
theorem jy0 (N : Nat) : ∀ D, mK 81 (jyx N D)
 | 0 => modelOk_none ⟨_, func81, by decide, by kernel_rfl⟩ _ (fun a => rfl)
 | D + 1 => jDO N D (jy0 N D)
def jq1 : Sh := ⟨.tre 800000 Y19 138 :: pI :: dz 3 (pI :: dz 22 []), []⟩
def jbZ (l : List Z3) (j : Int) : Option (Int × (List Z3)) :=
 (iter (fun m (b, d, a) => bif decide (a < (b.length : Int)) then if 0 <= a /\ a < (b.length : Int) then oB (b[a.toNat]?) fun k => (oB (jas N k.1 d) fun c => oB (jr N c.1) fun e => if 0 <= a /\ a < (b.length : Int) then oB (b[a.toNat]?) fun h => (if fits (c.1 + 1) then if fits (a + 1) then m (((b.set a.toNat (h.1, e)).modify a.toNat fun f => (c.2, f.2)), (c.1 + 1), (a + 1)) else none else none) else none) else none else some (d, b)) N (l, j, (0 : Int)))
theorem jqK : mK 82 (bX [.tre 800000 Y19 138, pI] [pI, .tre 800000 Y19 138] (c2A (jbZ N))) :=
 mO (fC (jdf N) (fC (jaz N) ja)) func82 rfl N (.seq .no (.seq (.seq .no (.block (.loop jq1 .no))) .no)) _ (rs := [800000])
def jb0 (d : List Z2) (e : List Z3) (c : Int) : Option (Int × (List Z2) × (List Z3)) :=
 (oB (jas N d c) fun b => oB (jbZ N e b.1) fun a => some (a.1, b.2, a.2))
theorem jrd : mK 21 (bX [.agg [.mtk 800000 .str 9 true, .tre 800001 Y19 138], pI] [pI, .mtk 800000 .str 9 true, .tre 800001 Y19 138] (c3A (jb0 N))) :=
 mO (fC (jdf N) (fC (jqK N) ja)) func21 rfl N .no _ (rs := [800000, 800001])
def jrq : Sh := ⟨.mtk 800000 Y21 143 true :: pI :: dz 3 (pI :: dz 23 []), []⟩
def jbW (k : Z15) (j : Int) : Option (Int × Z14) :=
 (iter (fun l (b, c, a) => bif decide (a < (b.length : Int)) then oB (jr N c) fun d => (if 0 <= a /\ a < (b.length : Int) then oB (b[a.toNat]?) fun e => (if fits (c + 1) then oB (jr N (c + 1)) fun f => (if 0 <= a /\ a < ((b.set a.toNat (d, e.2)).length : Int) then oB ((b.set a.toNat (d, e.2))[a.toNat]?) fun h => (if fits ((c + 1) + 1) then if fits (a + 1) then l (((b.set a.toNat (d, e.2)).set a.toNat (h.1, f)), ((c + 1) + 1), (a + 1)) else none else none) else none) else none) else none) else some (c, b)) N (k, j, (0 : Int)))
theorem jo0 : mK 83 (bX [.mtk 800000 Y21 143 true, pI] [pI, .mtk 800000 Y21 143 true] (c2A (jbW N))) :=
 mO (fC (jaz N) ja) func83 rfl N (.seq .no (.seq (.seq .no (.block (.loop jrq .no))) .no)) _ (rs := [800000])
def js9 : Sh := ⟨.mtk 800000 Y18 145 true :: pI :: dz 3 (pI :: dz 22 []), []⟩
def jbP (j : Z9) (i : Int) : Option (Int × Z8) :=
 (iter (fun k (b, c, a) => bif decide (a < (b.length : Int)) then oB (jr N c) fun d => (if 0 <= a /\ a < (b.length : Int) then oB (b[a.toNat]?) fun e => (if fits (c + 1) then if 0 <= a /\ a < ((b.set a.toNat (d, e.2)).length : Int) then oB ((b.set a.toNat (d, e.2))[a.toNat]?) fun f => (if fits ((c + 1) + 1) then if fits (a + 1) then k (((b.set a.toNat (d, e.2)).set a.toNat (f.1, (c + 1))), ((c + 1) + 1), (a + 1)) else none else none) else none else none) else none) else some (c, b)) N (j, i, (0 : Int)))
theorem js2 : mK 84 (bX [.mtk 800000 Y18 145 true, pI] [pI, .mtk 800000 Y18 145 true] (c2A (jbP N))) :=
 mO (fC (jaz N) ja) func84 rfl N (.seq .no (.seq (.seq .no (.block (.loop js9 .no))) .no)) _ (rs := [800000])
def jBM : Sh := ⟨dz 5 (.box 5 0 :: .dead :: .own 600007 Y15 162 true :: .box 26 0 :: dz 19 (.pv Y4 :: pI :: pI :: dz 18 [])), [(5, false, [pI, pS, .pv (.sl .str), pI, pI, .pv (.sl .q)]), (26, true, [.pv (.sl .str), .pv Y17, .pv Y4, .pv Y6])]⟩
def i_scores_m (A : List Z2) (x : List Z3) (c : List Z0) (C : List Z1) (v : Int) (w : List UInt8) (z : List Z2) (t : Int) (B : Int) (u : List DQ) : Option (Z12) :=
 (oB (i_SegOk_m N A x c C) fun E => bif !E then some ([] : Z6) else oB (i_QueryOk_m N v w z t B u) fun D => bif !D then some ([] : Z6) else iter (fun y (d, m, i, a, e, o, k, j, h, q, f, l, p, n) => bif decide (a < i) then oB (idx m a) fun b => (oB (i_scorer_score_m N N ((f, l), p, n) e o k j h q b.1 b.2.1 b.2.2) fun r => bif decide ((0 : Int) < r) then if room d.length ([(b.1, r)] : Z6).length 16 then if fits (a + 1) then y ((d ++ ([(b.1, r)] : Z6)), m, i, (a + 1), e, o, k, j, h, q, f, l, p, n) else none else none else if fits (a + 1) then y (d, m, i, (a + 1), e, o, k, j, h, q, f, l, p, n) else none) else some d) N (([] : Z6), c, (c.length : Int), (0 : Int), v, w, z, t, B, u, A, x, c, C))
theorem jBc : mK 103 (bX [.agg [.pv (.sl .str), .pv Y17], .agg [.pv Y4, .pv Y6], .agg [pI, pS, .pv (.sl .str), pI, pI, .pv (.sl .q)]] [.own 1 Y15 162 true] (c10A (i_scores_m N))) :=
 mO (fC (joa N) (fC (jCN N) (fC (jzy N N) ja))) func103 rfl N (.seq .no (.seq .no (.seq .no (.seq .no (.seq (.seq .no (.block (.loop jBM .no))) .no))))) _
def jxY (b : Int) (a : Int) : Z10 :=
 (oB (jxH N b) fun d => oB (jxH N a) fun c => bif d then bif c then some 0 else (some (-1)) else bif c then some 1 else bif decide (b < a) then some (-1) else bif decide (a < b) then some 1 else some 0)
theorem jpP : mK 202 (bX [pI, pI] [pI] (c2A (jxY N))) :=
 mO (fC (joK N) ja) func202 rfl N .no _
def jx4 (f : Int) (c : Int) (b : Int) (e : Int) : Z10 :=
 (oB (jxY N e c) fun d => oB (jxY N f b) fun a => oB (jbe N ([d, a] : List Int)) fun h => some h)
theorem jvi : mK 181 (bX [.agg [pI, pI], .agg [pI, pI]] [pI] (c4A (jx4 N))) :=
 mO (fC (jpP N) (fC (jhC N) ja)) func181 rfl N .no _
def cmp454 (N : Nat) : (Unit) -> (Int × Int) -> (Int × Int) -> Option Int := (fun (cmp : Unit) (e e2 : Int × Int) => jx4 N e.1 e.2 e2.1 e2.2)
def jwq : Sh := ⟨.mtk 800000 Y15 162 true :: pI :: pI :: .clo 181 [] :: dz 4 (pI :: dz 44 []), []⟩
def jwI : Sh := ⟨.mtk 800000 Y15 162 true :: pI :: pI :: .clo 181 [] :: dz 4 (pI :: pI :: dz 43 []), []⟩
def jvU (a : Z6) (b : Int) (c : Int) (d : Unit) : Option (Z12) := insG (cmp454 N) N a b c d
 
theorem jwF : mK 291 (bX [.mtk 800000 Y15 162 true, pI, pI, .clo 181 []] [.tup [], .mtk 800000 Y15 162 true] (c4A (jvU N))) :=
 mO (fC (jvi N) ja) func291 rfl N (.seq .no (.block (.loop jwq (.seq .no (.seq (.block (.seq .no (.block (.loop jwI .no)))) .no))))) _ (rs := [800000])
def jv5 : Sh := ⟨.mtk 800000 Y15 162 true :: .dead :: pI :: pI :: .clo 181 [] :: dz 5 (pI :: dz 71 []), []⟩
def jwh : Sh := ⟨.mtk 800000 Y15 162 true :: .dead :: pI :: pI :: .clo 181 [] :: dz 5 (pI :: pI :: dz 70 []), []⟩
def jvp (a : Z6) (b : Int) (c : Int) (e : Int) (d : Unit) : Option (Z12) := siftG (cmp454 N) N a b c e d
 
theorem jwd : mK 331 (bX [.mtk 800000 Y15 162 true, pI, pI, pI, .clo 181 []] [.tup [], .mtk 800000 Y15 162 true] (c5A (jvp N))) :=
 mO (fC (jvi N) ja) func331 rfl N (.seq .no (.block (.loop jv5 (.block (.seq .no (.seq .no (.meet jwh .no .no))))))) _ (rs := [800000])
def jwy : Sh := ⟨.mtk 800000 Y15 162 true :: .dead :: .dead :: .clo 181 [] :: dz 4 (pI :: pI :: pI :: pI :: dz 48 []), []⟩
def jwM : Sh := ⟨.mtk 800000 Y15 162 true :: .dead :: .dead :: .clo 181 [] :: dz 4 (pI :: pI :: .dead :: .dead :: pI :: dz 47 []), []⟩
def jvj (a : Z6) (b : Int) (c : Int) (d : Unit) : Option (Z12) := heapG (cmp454 N) N a b c d
 
theorem jwr : mK 292 (bX [.mtk 800000 Y15 162 true, pI, pI, .clo 181 []] [.tup [], .mtk 800000 Y15 162 true] (c4A (jvj N))) :=
 mO (fC (jwd N) ja) func292 rfl N (.seq .no (.seq .no (.seq .no (.seq (.seq .no (.block (.loop jwy .no))) (.seq .no (.block (.loop jwM .no))))))) _ (rs := [800000])
def jw2 : Sh := ⟨.mtk 800000 Y15 162 true :: pI :: dz 6 (pI :: .box 9 0 :: .pv (.int .u64) :: pI :: dz 55 []), [(9, false, [.pv (.int .u64)])]⟩
def jw5 : Sh := ⟨.mtk 800000 Y15 162 true :: pI :: dz 6 (pI :: .box 9 0 :: .pv (.int .u64) :: pI :: pI :: dz 54 []), [(9, false, [.pv (.int .u64)])]⟩
def jvw (a : Z6) (b : Int) (c : Int) (d : Unit) : Option (Z12) := breakG N a b c d
 
theorem jwR : mK 293 (bX [.mtk 800000 Y15 162 true, pI, pI, .clo 181 []] [.tup [], .mtk 800000 Y15 162 true] (c4A (jvw N))) :=
 mO (fC (jhv N) (fC (jet N) ja)) func293 rfl N (.seq .no (.seq .no (.cond (.seq .no (.seq .no (.seq .no (.block (.loop jw2 (.seq .no (.seq (.block (.seq .no (.meet jw5 .no .no))) .no))))))) .no))) _ (rs := [800000])
def jvl (a : Z6) (b : Int) (c : Int) (e : Unit) (d : Int) : Option (Int × Int × Z12 × Int) := order2G (cmp454 N) N a b c e d
 
theorem jwG : mK 347 ⟨⟨[.mtk 800000 Y15 162 true, pI, pI, .box 900003 0, .clo 181 []], [(900003, false, [pI])]⟩, ⟨[.tup [pI, pI], .mtk 800000 Y15 162 true], [(900003, false, [pI])]⟩, c5A (jvl N)⟩ :=
 mO (fC (jvi N) ja) func347 rfl N .no _ (rs := [900003, 800000])
def jvr (a : Z6) (d : Int) (c : Int) (b : Int) (f : Unit) (e : Int) : Option (Int × Z12 × Int) := medianG (cmp454 N) N a d c b f e
 
theorem jvO : mK 333 ⟨⟨[.mtk 800000 Y15 162 true, pI, pI, pI, .box 900004 0, .clo 181 []], [(900004, false, [pI])]⟩, ⟨[pI, .mtk 800000 Y15 162 true], [(900004, false, [pI])]⟩, c6A (jvr N)⟩ :=
 mO (fC (jwG N) ja) func333 rfl N .no _ (rs := [900004, 800000])
def jvm (a : Z6) (b : Int) (d : Unit) (c : Int) : Option (Int × Z12 × Int) := medianAdjacentG (cmp454 N) N a b d c
 
theorem jwj : mK 332 ⟨⟨[.mtk 800000 Y15 162 true, pI, .box 900002 0, .clo 181 []], [(900002, false, [pI])]⟩, ⟨[pI, .mtk 800000 Y15 162 true], [(900002, false, [pI])]⟩, c4A (jvm N)⟩ :=
 mO (fC (jvO N) ja) func332 rfl N .no _ (rs := [900002, 800000])
def jwt : Sh := ⟨.mtk 800000 Y15 162 true :: .dead :: .dead :: .clo 181 [] :: dz 7 (.box 11 0 :: pI :: pI :: pI :: dz 48 []), [(11, false, [pI])]⟩
def jwK : Sh := ⟨.mtk 800000 Y15 162 true :: dz 10 (.box 11 0 :: .dead :: pI :: dz 49 []), [(11, false, [pI])]⟩
def jvA (a : Z6) (b : Int) (c : Int) (d : Unit) : Option (Int × Int × Z12) := choosePivotG (cmp454 N) N a b c d
 
theorem jwf : mK 294 (bX [.mtk 800000 Y15 162 true, pI, pI, .clo 181 []] [.tup [pI, pI], .mtk 800000 Y15 162 true] (c4A (jvA N))) :=
 mO (fC (jwj N) (fC (jvO N) ja)) func294 rfl N (.seq .no (.seq .no (.seq .no (.seq .no (.seq .no (.seq .no (.meet jwK (.seq .no (.cond (.meet jwt .no .no) .no)) .no))))))) _ (rs := [800000])
def jv2 : Sh := ⟨.mtk 800000 Y15 162 true :: dz 7 (pI :: pI :: dz 24 []), []⟩
def jvJ (a : Z6) (b : Int) (c : Int) (d : Unit) : Option (Z12) := reverseRangeG N a b c d
 
theorem jwz : mK 295 (bX [.mtk 800000 Y15 162 true, pI, pI, .clo 181 []] [.tup [], .mtk 800000 Y15 162 true] (c4A (jvJ N))) :=
 mO ja func295 rfl N (.seq .no (.seq .no (.block (.loop jv2 .no)))) _ (rs := [800000])
def jw7 : Sh := ⟨.mtk 800000 Y15 162 true :: pI :: pI :: .clo 181 [] :: dz 5 (pI :: pI :: dz 130 []), []⟩
def jwp : Sh := ⟨.mtk 800000 Y15 162 true :: pI :: pI :: .clo 181 [] :: dz 5 (pI :: pI :: pI :: dz 129 []), []⟩
def jwY : Sh := ⟨.mtk 800000 Y15 162 true :: pI :: pI :: .clo 181 [] :: dz 5 (pI :: pI :: .dead :: pI :: dz 128 []), []⟩
def jvz (a : Z6) (b : Int) (c : Int) (d : Unit) : Option (Bool × Z12) := pisG (cmp454 N) N a b c d
 
theorem jw4 : mK 296 (bX [.mtk 800000 Y15 162 true, pI, pI, .clo 181 []] [pB, .mtk 800000 Y15 162 true] (c4A (jvz N))) :=
 mO (fC (jvi N) ja) func296 rfl N (.seq .no (.seq .no (.seq (.seq .no (.block (.loop jw7 (.seq .no (.seq (.block (.seq (.block (.loop jw7 .no)) (.seq .no (.seq .no (.seq .no (.meet jw7 (.seq .no (.cond (.seq .no (.block (.loop jwp .no))) .no)) (.seq .no (.cond (.seq .no (.block (.loop jwY .no))) .no)))))))) .no))))) .no))) _ (rs := [800000])
def jws : Sh := ⟨.mtk 800000 Y15 162 true :: pI :: .dead :: .dead :: .clo 181 [] :: dz 6 (pI :: pI :: dz 77 []), []⟩
def jvo (a : Z6) (b : Int) (c : Int) (e : Int) (d : Unit) : Option (Int × Z12) := peqG (cmp454 N) N a b c e d
 
theorem jwA : mK 297 (bX [.mtk 800000 Y15 162 true, pI, pI, pI, .clo 181 []] [pI, .mtk 800000 Y15 162 true] (c5A (jvo N))) :=
 mO (fC (jvi N) ja) func297 rfl N (.seq .no (.seq .no (.seq .no (.seq (.block (.loop jws (.block (.seq (.block (.loop jws .no)) (.seq (.block (.loop jws .no)) .no))))) .no)))) _ (rs := [800000])
def jwU : Sh := ⟨.mtk 800000 Y15 162 true :: pI :: .dead :: .dead :: .clo 181 [] :: dz 7 (pI :: pI :: dz 164 []), []⟩
def jvs (a : Z6) (b : Int) (c : Int) (e : Int) (d : Unit) : Option (Int × Bool × Z12) := partG (cmp454 N) N a b c e d
 
theorem jv9 : mK 298 (bX [.mtk 800000 Y15 162 true, pI, pI, pI, .clo 181 []] [.tup [pI, pB], .mtk 800000 Y15 162 true] (c5A (jvs N))) :=
 mO (fC (jvi N) ja) func298 rfl N (.seq .no (.seq .no (.seq .no (.seq (.block (.loop jwU .no)) (.seq (.block (.loop jwU .no)) (.seq .no (.seq .no (.seq .no (.seq .no (.seq (.block (.loop jwU (.block (.seq (.block (.loop jwU .no)) (.seq (.block (.loop jwU .no)) .no))))) .no)))))))))) _ (rs := [800000])
def jwT : Sh := ⟨.mtk 800000 Y15 162 true :: pI :: pI :: pI :: .clo 181 [] :: dz 5 (pB :: pB :: dz 136 []), []⟩
def jwO : Sh := ⟨.mtk 800000 Y15 162 true :: pI :: pI :: pI :: .clo 181 [] :: dz 5 (pB :: pB :: pI :: pI :: dz 134 []), []⟩
def jwP : Sh := ⟨.mtk 800000 Y15 162 true :: pI :: pI :: pI :: .clo 181 [] :: dz 5 (pB :: pB :: pI :: pI :: pI :: dz 133 []), []⟩
def jwn : Sh := ⟨.mtk 800000 Y15 162 true :: pI :: pI :: pI :: .clo 181 [] :: dz 5 (pB :: pB :: pI :: dz 135 []), []⟩
def jvh (N D : Nat) (f : Z6) (b a limit : Int) (h : Unit) : Option (Z12) := pdqG (cmp454 N) (fun c b a d => heapG (cmp454 N) N c b a d) (fun c b a e d => peqG (cmp454 N) N c b a e d) N D f b a limit h
 
def jvn (N D : Nat) : Model := ⟨⟨[.mtk 800000 Y15 162 true, pI, pI, pI, .clo 181 []], []⟩, ⟨[.tup [], .mtk 800000 Y15 162 true], []⟩, c5A (jvh N D)⟩
theorem jwv (N D : Nat) (ih : mK 247 (jvn N D)) : mK 247 (jvn N (D + 1)) :=
 mO (fC ih (fC (jwF N) (fC (jwr N) (fC (jwR N) (fC (jwf N) (fC (jwz N) (fC (jw4 N) (fC (jvi N) (fC (jwA N) (fC (jv9 N) ja)))))))))) func247 rfl N (.seq .no (.seq .no (.block (.loop jwT (.block (.seq .no (.seq .no (.seq .no (.meet jwn .no (.seq .no (.meet jwP .no (.meet jwO .no .no)))))))))))) (jvn N (D + 1)) (rs := [800000])
theorem jvI (N : Nat) : ∀ D, mK 247 (jvn N D)
 | 0 => modelOk_none ⟨_, func247, by decide, by kernel_rfl⟩ _ (fun a => rfl)
 | D + 1 => jwv N D (jvI N D)
def k_slices_SortFunc_454_m (a : Z6) (d : Unit) : Option (Z12) :=
 (oB (k_math_bits_Len_m N (IntKind.u64.wrap (a.length : Int))) fun c => oB (jvh N N a 0 (a.length : Int) c ()) fun b => some b)
theorem jwX : mK 180 (bX [.mtk 800000 Y15 162 true, .clo 181 []] [.tup [], .mtk 800000 Y15 162 true] (c2A (k_slices_SortFunc_454_m N))) :=
 mO (fC (jda N) (fC (jvI N N) ja)) func180 rfl N .no _ (rs := [800000])
def i_firstHits_m (d : Z6) (c : Int) : Option (Z12) :=
 (if room ([] : Z6).length d.length 16 then oB (k_slices_SortFunc_454_m N (([] : Z6) ++ d) ()) fun a => (oB (cut a 0 (if c < (a.length : Int) then c else (a.length : Int))) fun b => if room ([] : Z6).length b.length 16 then some (([] : Z6) ++ b) else none) else none)
theorem jv7 : mK 109 (bX [.pv (.sl Y15), pI] [.own 1 Y15 162 true] (c2A (i_firstHits_m N))) :=
 mO (fC (jwX N) ja) func109 rfl N .no _ (wr := [6, 8, 11, 17, 18])
def jkS : Sh := ⟨.pv Y4 :: .dead :: .dead :: pI :: dz 33 [], []⟩
def jbU (j : List Z0) : Z7 :=
 (iter (fun d (b, a) => bif decide (a < (b.length : Int)) then oB (idx b a) fun c => (oB (jcb N c.1 c.2.1 c.2.2) fun h => bif !h then some false else bif decide ((0 : Int) < a) then oB (idx b a) fun f => (if fits (a - 1) then oB (idx b (a - 1)) fun e => (bif decide (f.1 <= e.1) then some false else if fits (a + 1) then d (b, (a + 1)) else none) else none) else if fits (a + 1) then d (b, (a + 1)) else none) else some (decide ((b.length : Int) <= 16))) N (j, (0 : Int)))
theorem jpx : mK 182 (bX [.pv Y4] [pB] (c1A (jbU N))) :=
 mO (fC (jpD N) ja) func182 rfl N (.seq .no (.seq (.seq .no (.block (.loop jkS .no))) .no)) _
def jnI : Sh := ⟨.pv Y22 :: .pv Y22 :: dz 3 (pI :: dz 20 []), []⟩
def jb1 (d : List Int) (c : List Int) : Z7 :=
 (bif !decide ((d.length : Int) = (c.length : Int)) then some false else iter (fun j (b, e, a) => bif decide (a < (b.length : Int)) then oB (idx b a) fun i => (oB (idx e a) fun f => bif !decide (i = f) then some false else if fits (a + 1) then j (b, e, (a + 1)) else none) else some true) N (d, c, (0 : Int)))
theorem jlH : mK 248 (bX [.pv Y22, .pv Y22] [pB] (c2A (jb1 N))) :=
 mO ja func248 rfl N (.seq .no (.seq .no (.seq (.seq .no (.block (.loop jnI .no))) .no))) _
def jnx : Sh := ⟨.dead :: .dead :: .box 2 0 :: .box 3 0 :: .dead :: pI :: dz 57 [], [(2, false, [pS, pS, .pv Y13]), (3, false, [pS, pS, .pv Y13])]⟩
def jbQ (f : List UInt8) (i : List UInt8) (e : Z4) (d : List UInt8) (h : List UInt8) (j : Z4) : Z7 :=
 (bif !decide (f = d) then some false else bif !decide (i = h) then some false else bif !decide ((e.length : Int) = (j.length : Int)) then some false else iter (fun m (a, v, q, b, o, n, c) => bif decide (a < (b.length : Int)) then oB (idx b a) fun l => (oB (idx c a) fun k => bif !decide (l.1 = k.1) then some false else oB (idx b a) fun p => oB (idx c a) fun t => oB (jb1 N p.2 t.2) fun r => bif !r then some false else if fits (a + 1) then m ((a + 1), v, q, b, o, n, c) else none) else some true) N ((0 : Int), f, i, e, d, h, j))
theorem jtG : mK 183 (bX [.agg [pS, pS, .pv Y13], .agg [pS, pS, .pv Y13]] [pB] (c6A (jbQ N))) :=
 mO (fC (jlH N) ja) func183 rfl N (.seq .no (.seq .no (.seq (.seq .no (.block (.loop jnx .no))) .no))) _
def jrW : Sh := ⟨dz 3 (.box 3 0 :: .dead :: .box 5 0 :: pI :: dz 39 []), [(3, false, [.pv Y4, .pv Y6]), (5, false, [.own 700500 Y5 44 true, .own 700501 Y7 156 true])]⟩
def jcR (i : List Z2) (h : List Z3) (b : List Z0) (k : List Z1) : Z7 :=
 (oB (jcw N i h) fun q => bif !q then some false else oB (jbU N b) fun l => bif !l then some false else oB (s_l7Of_m N i h b) fun f => bif !decide ((f.2.length : Int) = (k.length : Int)) then some false else iter (fun o (a, p, j, n, e) => bif decide (a < (e.length : Int)) then oB (idx e a) fun d => (oB (idx j a) fun c => oB (jbQ N d.1 d.2.1 d.2.2 c.1 c.2.1 c.2.2) fun m => bif !m then some false else if fits (a + 1) then o ((a + 1), p, j, n, e) else none) else some true) N ((0 : Int), b, k, f.1, f.2))
theorem jpm : mK 110 (bX [.agg [.pv (.sl .str), .pv Y17], .agg [.pv Y4, .pv Y6]] [pB] (c4A (jcR N))) :=
 mO (fC (jtf N) (fC (jpx N) (fC (jmU N) (fC (jtG N) ja)))) func110 rfl N (.seq .no (.seq .no (.seq .no (.seq .no (.seq (.seq .no (.block (.loop jrW .no))) .no))))) _
def jx8 (N : Nat) (d : Int) (b : Int) (c : Int) (a : Int) : Z7 :=
 (bif decide (a < b) then some true else bif decide (b = a) then some (decide (d < c)) else some false)
theorem jw8 : mK 185 (bX [.agg [pI, pI], .agg [pI, pI]] [pB] (c4A (jx8 N))) :=
 mO ja func185 rfl N .no _
def jwc : Sh := ⟨.pv (.sl Y15) :: .dead :: pI :: .dead :: .box 4 0 :: .dead :: .dead :: pI :: dz 37 [], [(4, false, [pI, pI])]⟩
def s_l13Push_m (u : Z6) (p : Int) (l : Int) (t : Int) : Option (Z12) :=
 (iter (fun o (c, h, d, b, a) => bif decide (d < (c.length : Int)) then oB (idx c d) fun k => (oB (jx8 N k.1 k.2 b a) fun q => bif q then if fits (d + 1) then o (c, h, (d + 1), b, a) else none else oB (cut c 0 d) fun e => if room ([] : Z6).length e.length 16 then if room (([] : Z6) ++ e).length ([(b, a)] : Z6).length 16 then oB (cut c d (c.length : Int)) fun j => (if room ((([] : Z6) ++ e) ++ ([(b, a)] : Z6)).length j.length 16 then bif decide (h < ((((([] : Z6) ++ e) ++ ([(b, a)] : Z6)) ++ j).length : Int)) then oB (cut (((([] : Z6) ++ e) ++ ([(b, a)] : Z6)) ++ j) 0 h) fun m => (some m) else (some (((([] : Z6) ++ e) ++ ([(b, a)] : Z6)) ++ j)) else none) else none else none) else oB (cut c 0 d) fun f => if room ([] : Z6).length f.length 16 then if room (([] : Z6) ++ f).length ([(b, a)] : Z6).length 16 then oB (cut c d (c.length : Int)) fun i => (if room ((([] : Z6) ++ f) ++ ([(b, a)] : Z6)).length i.length 16 then bif decide (h < ((((([] : Z6) ++ f) ++ ([(b, a)] : Z6)) ++ i).length : Int)) then oB (cut (((([] : Z6) ++ f) ++ ([(b, a)] : Z6)) ++ i) 0 h) fun n => (some n) else (some (((([] : Z6) ++ f) ++ ([(b, a)] : Z6)) ++ i)) else none) else none else none) N (u, t, (0 : Int), p, l))
theorem jwx : mK 113 (bX [.pv (.sl Y15), .agg [pI, pI], pI] [.own 1 Y15 162 true] (c4A (s_l13Push_m N))) :=
 mO (fC (jw8 N) ja) func113 rfl N (.seq .no (.seq .no (.seq (.block (.loop jwc .no)) .no))) _ (wr := [23, 26, 27, 30, 31, 35, 36, 43])
def i_TopOf_m (d : List Z2) (m : List Z3) (f : List Z0) (k : List Z1) (h : Int) (l : List UInt8) (n : List Z2) (b : Int) (i : Int) (e : List DQ) (a : Int) : Option (Z12) :=
 (oB (jm N a 1 16) fun j => bif !j then some ([] : Z6) else oB (i_scores_m N d m f k h l n b i e) fun c => oB (i_firstHits_m N c a) fun o => some o)
theorem jCZ : mK 38 (bX [.agg [.pv (.sl .str), .pv Y17], .agg [.pv Y4, .pv Y6], .agg [pI, pS, .pv (.sl .str), pI, pI, .pv (.sl .q)], pI] [.own 1 Y15 162 true] (c11A (i_TopOf_m N))) :=
 mO (fC (jY N) (fC (jBc N) (fC (jv7 N) ja))) func38 rfl N .no _
def jIP : Sh := ⟨.pv Y22 :: pI :: dz 5 (pI :: pI :: dz 10 []), []⟩
def jHJ (c : List Int) (f : Int) : Z10 :=
 (iter (fun j (e, b, d, a) => bif decide (a < d) then oB (idx e a) fun i => (bif decide (b = i) then some a else if fits (a + 1) then j (e, b, d, (a + 1)) else none) else some (-1)) N (c, f, (c.length : Int), (0 : Int)))
theorem jJu : mK 191 (bX [.pv Y22, pI] [pI] (c2A (jHJ N))) :=
 mO ja func191 rfl N (.seq .no (.seq (.seq .no (.block (.loop jIP .no))) .no)) _
def jHG (b : List Int) (a : Int) : Z7 :=
 (oB (jHJ N b a) fun c => some (decide ((0 : Int) <= c)))
theorem jIT : mK 121 (bX [.pv Y22, pI] [pB] (c2A (jHG N))) :=
 mO (fC (jJu N) ja) func121 rfl N .no _
def jqA : Sh := ⟨.pv Y4 :: pI :: dz 3 (pI :: dz 21 []), []⟩
def jdo (b : List Z0) (d : Int) : Z10 :=
 (if fits (d - (b.length : Int)) then bif decide ((d - (b.length : Int)) < 0) then some (-1) else (iter (fun j (c, h, a) => bif decide (a < (c.length : Int)) then oB (idx c a) fun e => (oB (jbq N e.1 e.2.1 e.2.2 h) fun f => bif decide (f < 0) then some (-1) else if fits (a + 1) then j (c, f, (a + 1)) else none) else some h) N (b, (d - (b.length : Int)), (0 : Int))) else none)
theorem jsn : mK 305 (bX [.pv Y4, pI] [pI] (c2A (jdo N))) :=
 mO (fC (jnC N) ja) func305 rfl N (.seq .no (.seq .no (.seq .no (.seq (.seq .no (.block (.loop jqA .no))) .no)))) _
def jeb (N : Nat) (b : List Int) (a : Int) : Z10 :=
 (if fits (a - (b.length : Int)) then bif decide ((a - (b.length : Int)) < 0) then some (-1) else (some (a - (b.length : Int))) else none)
theorem jm4 : mK 262 (bX [.pv Y22, pI] [pI] (c2A (jeb N))) :=
 mO ja func262 rfl N .no _
def jbb (d : Int) (c : List Int) (b : Int) : Z10 :=
 (oB (jeb N c b) fun a => bif decide (a < 0) then some (-1) else some a)
theorem jsZ : mK 355 (bX [.agg [pI, .pv Y22], pI] [pI] (c3A (jbb N))) :=
 mO (fC (jm4 N) ja) func355 rfl N .no _
def joP : Sh := ⟨.pv Y13 :: pI :: dz 3 (pI :: dz 21 []), []⟩
def jdz (b : Z4) (d : Int) : Z10 :=
 (if fits (d - (b.length : Int)) then bif decide ((d - (b.length : Int)) < 0) then some (-1) else (iter (fun j (c, f, a) => bif decide (a < (c.length : Int)) then oB (idx c a) fun h => (oB (jbb N h.1 h.2 f) fun e => bif decide (e < 0) then some (-1) else if fits (a + 1) then j (c, e, (a + 1)) else none) else some f) N (b, (d - (b.length : Int)), (0 : Int))) else none)
theorem jnZ : mK 348 (bX [.pv Y13, pI] [pI] (c2A (jdz N))) :=
 mO (fC (jsZ N) ja) func348 rfl N (.seq .no (.seq .no (.seq .no (.seq (.seq .no (.block (.loop joP .no))) .no)))) _
def jbj (b : List UInt8) (c : List UInt8) (e : Z4) (a : Int) : Z10 :=
 (if fits (a - (b.length : Int)) then bif decide ((a - (b.length : Int)) < 0) then some (-1) else (if fits ((a - (b.length : Int)) - (c.length : Int)) then bif decide (((a - (b.length : Int)) - (c.length : Int)) < 0) then some (-1) else (oB (jdz N e ((a - (b.length : Int)) - (c.length : Int))) fun d => bif decide (d < 0) then some (-1) else some d) else none) else none)
theorem joB : mK 335 (bX [.agg [pS, pS, .pv Y13], pI] [pI] (c4A (jbj N))) :=
 mO (fC (jnZ N) ja) func335 rfl N .no _
def jtA : Sh := ⟨.pv Y6 :: pI :: dz 3 (pI :: dz 21 []), []⟩
def jej (b : List Z1) (d : Int) : Z10 :=
 (if fits (d - (b.length : Int)) then bif decide ((d - (b.length : Int)) < 0) then some (-1) else (iter (fun j (c, h, a) => bif decide (a < (c.length : Int)) then oB (idx c a) fun e => (oB (jbj N e.1 e.2.1 e.2.2 h) fun f => bif decide (f < 0) then some (-1) else if fits (a + 1) then j (c, f, (a + 1)) else none) else some h) N (b, (d - (b.length : Int)), (0 : Int))) else none)
theorem jrU : mK 306 (bX [.pv Y6, pI] [pI] (c2A (jej N))) :=
 mO (fC (joB N) ja) func306 rfl N (.seq .no (.seq .no (.seq .no (.seq (.seq .no (.block (.loop jtA .no))) .no)))) _
def jbR (d : List Z0) (e : List Z1) (c : Int) : Z10 :=
 (oB (jdo N d c) fun b => bif decide (b < 0) then some (-1) else oB (jej N e b) fun a => bif decide (a < 0) then some (-1) else some a)
theorem jpO : mK 261 (bX [.agg [.pv Y4, .pv Y6], pI] [pI] (c3A (jbR N))) :=
 mO (fC (jsn N) (fC (jrU N) ja)) func261 rfl N .no _
def l_szLive_m (e : List Z0) (f : List Z1) (c : List Int) (d : Int) : Z10 :=
 (oB (jbR N e f d) fun b => bif decide (b < 0) then some (-1) else oB (jeb N c b) fun a => bif decide (a < 0) then some (-1) else some a)
theorem jJg : mK 193 (bX [.agg [.pv Y4, .pv Y6, .pv Y22], pI] [pI] (c4A (l_szLive_m N))) :=
 mO (fC (jpO N) (fC (jm4 N) ja)) func193 rfl N .no _
def jJf : Sh := ⟨.pv Y1 :: pI :: dz 3 (pI :: dz 21 []), []⟩
def l_szLiveS_m (b : List Z5) (d : Int) : Z10 :=
 (if fits (d - (b.length : Int)) then bif decide ((d - (b.length : Int)) < 0) then some (-1) else (iter (fun j (c, h, a) => bif decide (a < (c.length : Int)) then oB (idx c a) fun e => (oB (l_szLive_m N e.1.1 e.1.2 e.2 h) fun f => bif decide (f < 0) then some (-1) else if fits (a + 1) then j (c, f, (a + 1)) else none) else some h) N (b, (d - (b.length : Int)), (0 : Int))) else none)
theorem jJA : mK 124 (bX [.pv Y1, pI] [pI] (c2A (l_szLiveS_m N))) :=
 mO (fC (jJg N) ja) func124 rfl N (.seq .no (.seq .no (.seq .no (.seq (.seq .no (.block (.loop jJf .no))) .no)))) _
def l_szIndex_m (e : List Z2) (f : List Z3) (c : List Z5) (d : Int) : Z10 :=
 (oB (jbD N e f d) fun b => bif decide (b < 0) then some (-1) else oB (l_szLiveS_m N c b) fun a => bif decide (a < 0) then some (-1) else some a)
theorem jIX : mK 47 (bX [.agg [.pv (.sl .str), .pv Y17, .pv Y1], pI] [pI] (c4A (l_szIndex_m N))) :=
 mO (fC (jm8 N) (fC (jJA N) ja)) func47 rfl N .no _
def jmB : Sh := ⟨.pv Y4 :: .dead :: .dead :: .tre 600003 Y5 44 :: pI :: dz 18 [], []⟩
def jdO (b : List Z0) : Z20 :=
 (if (b.length : Int) = (b.length : Int) /\ 0 <= (b.length : Int) /\ (b.length : Int) * 56 <= 140737488355328 /\ (b.length : Int) <= 140737488355328 then iter (fun i (d, c, a) => bif decide (a < (d.length : Int)) then oB (idx d a) fun e => (oB (jbv N e.1 e.2.1 e.2.2) fun f => if 0 <= a /\ a < (c.length : Int) then oB (c[a.toNat]?) fun j => (if fits (a + 1) then i (d, (c.set a.toNat f), (a + 1)) else none) else none) else some c) N (b, (List.replicate (b.length : Int).toNat (0, ([] : Z15), ([] : Z9))), (0 : Int)) else none)
theorem jsQ : mK 307 (bX [.pv Y4] [.own 1 Y5 44 true] (c1A (jdO N))) :=
 mO (fC (jsM N) ja) func307 rfl N (.seq .no (.seq .no (.seq (.seq .no (.block (.loop jmB .no))) .no))) _ (wr := [7]) (dw := [20])
def jng : Sh := ⟨.pv Y22 :: .dead :: .dead :: .mtk 600003 tI 3 true :: pI :: dz 17 [], []⟩
def jek (b : List Int) : Option ((List Int)) :=
 (if (b.length : Int) = (b.length : Int) /\ 0 <= (b.length : Int) /\ (b.length : Int) * 8 <= 140737488355328 /\ (b.length : Int) <= 140737488355328 then iter (fun h (d, c, a) => bif decide (a < (d.length : Int)) then oB (idx d a) fun f => (if 0 <= a /\ a < (c.length : Int) then oB (c[a.toNat]?) fun i => (if fits (a + 1) then h (d, (c.set a.toNat f), (a + 1)) else none) else none) else some c) N (b, (List.replicate (b.length : Int).toNat 0), (0 : Int)) else none)
theorem jqI : mK 265 (bX [.pv Y22] [.own 1 tI 3 true] (c1A (jek N))) :=
 mO ja func265 rfl N (.seq .no (.seq .no (.seq (.seq .no (.block (.loop jng .no))) .no))) _ (wr := [7])
def jbr (a : Int) (b : List Int) : Option (Int × (List Int)) :=
 (oB (jek N b) fun c => some (a, c))
theorem jks : mK 356 (bX [.agg [pI, .pv Y22]] [.agg [pI, .own 1 tI 3 true]] (c2A (jbr N))) :=
 mO (fC (jqI N) ja) func356 rfl N .no _ (dw := [9])
def joy : Sh := ⟨.pv Y13 :: .dead :: .dead :: .tre 600003 Y14 239 :: pI :: dz 18 [], []⟩
def jdx (b : Z4) : Option (Z13) :=
 (if (b.length : Int) = (b.length : Int) /\ 0 <= (b.length : Int) /\ (b.length : Int) * 32 <= 140737488355328 /\ (b.length : Int) <= 140737488355328 then iter (fun i (d, c, a) => bif decide (a < (d.length : Int)) then oB (idx d a) fun e => (oB (jbr N e.1 e.2) fun f => if 0 <= a /\ a < (c.length : Int) then oB (c[a.toNat]?) fun j => (if fits (a + 1) then i (d, (c.set a.toNat f), (a + 1)) else none) else none) else some c) N (b, (List.replicate (b.length : Int).toNat (0, ([] : List Int))), (0 : Int)) else none)
theorem jpe : mK 349 (bX [.pv Y13] [.own 1 Y14 239 true] (c1A (jdx N))) :=
 mO (fC (jks N) ja) func349 rfl N (.seq .no (.seq .no (.seq (.seq .no (.block (.loop joy .no))) .no))) _ (wr := [7]) (dw := [20])
def jaM (b : List UInt8) (c : List UInt8) (a : Z4) : Option Z1 :=
 (oB (jdx N a) fun d => some (b, c, d))
theorem jnB : mK 336 (bX [.agg [pS, pS, .pv Y13]] [.agg [pS, pS, .own 1 Y14 239 true]] (c3A (jaM N))) :=
 mO (fC (jpe N) ja) func336 rfl N .no _ (dw := [12])
def jk2 : Sh := ⟨.pv Y6 :: .dead :: .dead :: .tre 600003 Y7 156 :: pI :: dz 18 [], []⟩
def jd4 (b : List Z1) : Option ((List Z1)) :=
 (if (b.length : Int) = (b.length : Int) /\ 0 <= (b.length : Int) /\ (b.length : Int) * 56 <= 140737488355328 /\ (b.length : Int) <= 140737488355328 then iter (fun i (d, c, a) => bif decide (a < (d.length : Int)) then oB (idx d a) fun e => (oB (jaM N e.1 e.2.1 e.2.2) fun f => if 0 <= a /\ a < (c.length : Int) then oB (c[a.toNat]?) fun j => (if fits (a + 1) then i (d, (c.set a.toNat f), (a + 1)) else none) else none) else some c) N (b, (List.replicate (b.length : Int).toNat (([] : List UInt8), ([] : List UInt8), ([] : Z4))), (0 : Int)) else none)
theorem jsC : mK 308 (bX [.pv Y6] [.own 1 Y7 156 true] (c1A (jd4 N))) :=
 mO (fC (jnB N) ja) func308 rfl N (.seq .no (.seq .no (.seq (.seq .no (.block (.loop jk2 .no))) .no))) _ (wr := [7]) (dw := [20])
def jZ (b : List Z0) (c : List Z1) : Option ((List Z0) × (List Z1)) :=
 (oB (jdO N b) fun d => oB (jd4 N c) fun a => some (d, a))
theorem jqs : mK 264 (bX [.agg [.pv Y4, .pv Y6]] [.agg [.own 1 Y5 44 true, .own 2 Y7 156 true]] (c2A (jZ N))) :=
 mO (fC (jsQ N) (fC (jsC N) ja)) func264 rfl N .no _ (dw := [6, 10])
def l_toLive_m (d : List Z0) (e : List Z1) (b : List Int) : Option ((List Z0) × (List Z1) × (List Int)) :=
 (oB (jZ N d e) fun a => oB (jek N b) fun c => some (a.1, a.2, c))
theorem jI5 : mK 197 (bX [.agg [.pv Y4, .pv Y6, .pv Y22]] [.agg [.own 1 Y5 44 true, .own 2 Y7 156 true, .own 3 tI 3 true]] (c3A (l_toLive_m N))) :=
 mO (fC (jqs N) (fC (jqI N) ja)) func197 rfl N .no _ (dw := [6, 10])
def jIN : Sh := ⟨.pv Y1 :: .dead :: .dead :: .tre 600003 Y2 263 :: pI :: dz 18 [], []⟩
def l_toLiveS_m (b : List Z5) : Option ((List Z5)) :=
 (if (b.length : Int) = (b.length : Int) /\ 0 <= (b.length : Int) /\ (b.length : Int) * 72 <= 140737488355328 /\ (b.length : Int) <= 140737488355328 then iter (fun i (d, c, a) => bif decide (a < (d.length : Int)) then oB (idx d a) fun f => (oB (l_toLive_m N f.1.1 f.1.2 f.2) fun e => if 0 <= a /\ a < (c.length : Int) then oB (c[a.toNat]?) fun j => (if fits (a + 1) then i (d, (c.set a.toNat ((e.1, e.2.1), e.2.2)), (a + 1)) else none) else none) else some c) N (b, (List.replicate (b.length : Int).toNat ((([] : List Z0), ([] : List Z1)), ([] : List Int))), (0 : Int)) else none)
theorem jJj : mK 129 (bX [.pv Y1] [.own 1 Y2 263 true] (c1A (l_toLiveS_m N))) :=
 mO (fC (jI5 N) ja) func129 rfl N (.seq .no (.seq .no (.seq (.seq .no (.block (.loop jIN .no))) .no))) _ (wr := [7]) (dw := [20])
def l_toIndex_m (d : List Z2) (e : List Z3) (b : List Z5) : Option ((List Z2) × (List Z3) × (List Z5)) :=
 (oB (jad N d e) fun a => oB (l_toLiveS_m N b) fun c => some (a.1, a.2, c))
theorem jJt : mK 50 (bX [.agg [.pv (.sl .str), .pv Y17, .pv Y1]] [.agg [.own 1 .str 9 true, .own 2 Y19 138 true, .own 3 Y2 263 true]] (c3A (l_toIndex_m N))) :=
 mO (fC (jtJ N) (fC (jJj N) ja)) func50 rfl N .no _ (dw := [6, 10])
def jJe : Sh := ⟨.pv Y22 :: pI :: dz 3 (pI :: dz 12 []), []⟩
def jHH (i : List Int) (d : Int) : Z7 :=
 (iter (fun h (b, c, a) => bif decide (a < (b.length : Int)) then oB (idx b a) fun f => (bif decide (f = c) then some true else if fits (a + 1) then h (b, c, (a + 1)) else none) else some false) N (i, d, (0 : Int)))
theorem jIb : mK 263 (bX [.pv Y22, pI] [pB] (c2A (jHH N))) :=
 mO ja func263 rfl N (.seq .no (.seq (.seq .no (.block (.loop jJe .no))) .no)) _
def s_l18Dead_m (d : List Z0) (e : List Z1) (b : List Int) (a : Int) : Z7 :=
 (oB (jHH N b a) fun c => some c)
theorem jIy : mK 195 (bX [.agg [.pv Y4, .pv Y6, .pv Y22], pI] [pB] (c4A (s_l18Dead_m N))) :=
 mO (fC (jIb N) ja) func195 rfl N .no _
def jIl : Sh := ⟨.pv Y4 :: .dead :: .dead :: .box 3 0 :: .dead :: pI :: dz 32 [], [(3, false, [pI, .pv Y20, .pv Y16])]⟩
def s_l18Put_m (t : List Z0) (m : Int) (r : Z15) (p : Z9) : Z20 :=
 (iter (fun o (a, b, e, h, i) => bif decide (b < (a.length : Int)) then oB (idx a b) fun n => (bif decide (n.1 < e) then if fits (b + 1) then o (a, (b + 1), e, h, i) else none else oB (cut a 0 b) fun d => if room ([] : List Z0).length d.length 56 then oB (s_l7CopyDoc_m N e h i) fun j => (if room (([] : List Z0) ++ d).length ([j] : List Z0).length 56 then oB (cut a b (a.length : Int)) fun k => (if room ((([] : List Z0) ++ d) ++ ([j] : List Z0)).length k.length 56 then some (((([] : List Z0) ++ d) ++ ([j] : List Z0)) ++ k) else none) else none) else none) else oB (cut a 0 b) fun c => if room ([] : List Z0).length c.length 56 then oB (s_l7CopyDoc_m N e h i) fun f => (if room (([] : List Z0) ++ c).length ([f] : List Z0).length 56 then oB (cut a b (a.length : Int)) fun l => (if room ((([] : List Z0) ++ c) ++ ([f] : List Z0)).length l.length 56 then some (((([] : List Z0) ++ c) ++ ([f] : List Z0)) ++ l) else none) else none) else none) N (t, (0 : Int), m, r, p))
theorem jJy : mK 196 (bX [.pv Y4, .agg [pI, .pv Y20, .pv Y16]] [.own 1 Y5 44 false] (c4A (s_l18Put_m N))) :=
 mO (fC (jtC N) ja) func196 rfl N (.seq .no (.seq .no (.seq (.block (.loop jIl .no)) .no))) _
def jI2 : Sh := ⟨.dead :: .box 1 0 :: .dead :: .own 600003 Y5 44 false :: pI :: dz 45 [], [(1, false, [.pv (.sl .str), .pv Y17, .pv Y1])]⟩
def jJx : Sh := ⟨.dead :: .box 1 0 :: .dead :: .own 600003 Y5 44 false :: pI :: pI :: dz 44 [], [(1, false, [.pv (.sl .str), .pv Y17, .pv Y1])]⟩
def s_l18Docs_m (q : List Z2) (u : List Z3) (v : List Z5) : Z20 :=
 (iter (fun t (m, k, y, w, n) => bif decide (k < (n.length : Int)) then iter (fun l (e, a, b, f, i, c) => oB (idx c a) fun r => bif decide (b < (r.1.1.length : Int)) then oB (idx c a) fun p => (oB (idx p.1.1 b) fun d => oB (idx c a) fun h => oB (s_l18Dead_m N h.1.1 h.1.2 h.2 d.1) fun x => bif !x then oB (s_l18Put_m N e d.1 d.2.1 d.2.2) fun o => (if fits (b + 1) then l (o, a, (b + 1), f, i, c) else none) else if fits (b + 1) then l (e, a, (b + 1), f, i, c) else none) else if fits (a + 1) then t (e, (a + 1), f, i, c) else none) N (m, k, (0 : Int), y, w, n) else some m) N (([] : List Z0), (0 : Int), q, u, v))
theorem jH3 : mK 128 (bX [.agg [.pv (.sl .str), .pv Y17, .pv Y1]] [.own 1 Y5 44 false] (c3A (s_l18Docs_m N))) :=
 mO (fC (jIy N) (fC (jJy N) ja)) func128 rfl N (.seq .no (.seq .no (.seq (.seq .no (.block (.loop jI2 (.seq .no (.seq (.block (.seq .no (.block (.loop jJx .no)))) .no))))) .no))) _
def jIz : Sh := ⟨.dead :: .box 1 0 :: .dead :: pI :: dz 67 [], [(1, false, [.pv (.sl .str), .pv Y17, .pv Y1])]⟩
def jJd : Sh := ⟨.dead :: .box 1 0 :: .dead :: pI :: .box 4 0 :: pI :: dz 22 (pB :: dz 9 (pB :: dz 32 [])), [(1, false, [.pv (.sl .str), .pv Y17, .pv Y1]), (4, false, [.pv Y4, .pv Y6, .pv Y22])]⟩
def s_l18Ok_m (v : List Z2) (y : List Z3) (A : List Z5) : Z7 :=
 (iter (fun x (f, d, c, b) => bif decide (f < (b.length : Int)) then oB (idx b f) fun a => (oB (jcR N d c a.1.1 a.1.2) fun B => bif !B then some false else oB (jx3 N a.2) fun k => bif !k then some false else bif decide ((a.1.1.length : Int) <= (a.2.length : Int)) then some false else iter (fun w (i, e, z, C, m, n, p, o, l, h) => bif decide (e < (h.length : Int)) then oB (idx h e) fun u => (oB (jyv N o l u) fun D => bif decide (D.1 = 0) then some false else if fits (e + 1) then w (i, (e + 1), z, C, m, n, p, o, l, h) else none) else if fits (i + 1) then x ((i + 1), m, n, p) else none) N (f, (0 : Int), (!k), (decide ((a.1.1.length : Int) <= (a.2.length : Int))), d, c, b, a.1.1, a.1.2, a.2)) else oB (jcw N d c) fun r => bif r then bif decide ((b.length : Int) <= 5) then oB (s_l18Docs_m N d c b) fun q => (oB (jbU N q) fun t => some t) else (some false) else some false) N ((0 : Int), v, y, A))
theorem jIW : mK 126 (bX [.agg [.pv (.sl .str), .pv Y17, .pv Y1]] [pB] (c3A (s_l18Ok_m N))) :=
 mO (fC (jpm N) (fC (jC9 N) (fC (jDn N) (fC (jtf N) (fC (jH3 N) (fC (jpx N) ja)))))) func126 rfl N (.seq .no (.seq (.seq .no (.block (.loop jIz (.seq .no (.seq (.block (.seq .no (.seq .no (.seq .no (.block (.loop jJd .no)))))) .no))))) .no)) _
def jCE : Sh := ⟨dz 3 (pI :: .box 4 0 :: .box 5 0 :: .box 6 0 :: .dead :: .dead :: .own 600009 Y15 162 true :: pI :: dz 33 []), [(4, false, [.pv (.sl .str), .pv Y17]), (5, false, [.pv Y4, .pv Y6]), (6, false, [pI, pS, .pv (.sl .str), pI, pI, .pv (.sl .q)])]⟩
def s_l13Top_m (B : List Z2) (z : List Z3) (u : List Z0) (D : List Z1) (w : Int) (x : List UInt8) (A : List Z2) (q : Int) (C : Int) (t : List DQ) (G : Int) : Option (Z12) :=
 (iter (fun o (d, l, a, j, f, b, m, c, k, i, h, e, n) => bif decide (a < (b.length : Int)) then oB (idx b a) fun y => (oB (s_l12Score_m N N j f b m c k i h e n y.1) fun p => bif decide ((0 : Int) < p) then oB (idx b a) fun v => (oB (s_l13Push_m N l v.1 p d) fun r => if fits (a + 1) then o (d, r, (a + 1), j, f, b, m, c, k, i, h, e, n) else none) else if fits (a + 1) then o (d, l, (a + 1), j, f, b, m, c, k, i, h, e, n) else none) else some l) N (G, ([] : Z6), (0 : Int), B, z, u, D, w, x, A, q, C, t))
theorem jBA : mK 127 (bX [.agg [.pv (.sl .str), .pv Y17], .agg [.pv Y4, .pv Y6], .agg [pI, pS, .pv (.sl .str), pI, pI, .pv (.sl .q)], pI] [.own 1 Y15 162 true] (c11A (s_l13Top_m N))) :=
 mO (fC (jz7 N N) (fC (jwx N) ja)) func127 rfl N (.seq .no (.seq .no (.seq (.seq .no (.block (.loop jCE .no))) .no))) _
def s_IndexTop_m (a : List Z2) (b : List Z3) (j : List Z5) (f : Int) (h : List UInt8) (i : List Z2) (c : Int) (k : Int) (e : List DQ) (l : Int) : Option (Z12) :=
 (oB (s_l18Ok_m N a b j) fun p => bif !p then some ([] : Z6) else oB (jE5 N f h i c k e) fun m => bif !m then some ([] : Z6) else oB (jJ N l 1 16) fun q => bif !q then some ([] : Z6) else oB (s_l18Docs_m N a b j) fun n => oB (s_l7Of_m N a b n) fun d => oB (s_l13Top_m N a b d.1 d.2 f h i c k e l) fun o => some o)
theorem jIg : mK 49 (bX [.agg [.pv (.sl .str), .pv Y17, .pv Y1], .agg [pI, pS, .pv (.sl .str), pI, pI, .pv (.sl .q)], pI] [.own 1 Y15 162 true] (c10A (s_IndexTop_m N))) :=
 mO (fC (jIW N) (fC (jBX N) (fC (jcL N) (fC (jH3 N) (fC (jmU N) (fC (jBA N) ja)))))) func49 rfl N .no _
def jIi : Sh := ⟨.dead :: .box 1 0 :: .dead :: .own 600003 Y5 44 false :: dz 5 (.pv Y4 :: pI :: pI :: dz 15 []), [(1, false, [.pv Y4, .pv Y6, .pv Y22])]⟩
def jHE (f : List Z0) (o : List Z1) (l : List Int) : Z20 :=
 (iter (fun k (b, d, e, a, i, j, c) => bif decide (a < e) then oB (idx d a) fun h => (oB (jHG N c h.1) fun m => bif !m then if room b.length ([h] : List Z0).length 56 then if fits (a + 1) then k ((b ++ ([h] : List Z0)), d, e, (a + 1), i, j, c) else none else none else if fits (a + 1) then k (b, d, e, (a + 1), i, j, c) else none) else some b) N (([] : List Z0), f, (f.length : Int), (0 : Int), f, o, l))
theorem jH4 : mK 199 (bX [.agg [.pv Y4, .pv Y6, .pv Y22]] [.own 1 Y5 44 false] (c3A (jHE N))) :=
 mO (fC (jIT N) ja) func199 rfl N (.seq .no (.seq .no (.seq (.seq .no (.block (.loop jIi .no))) .no))) _
def jIO : Sh := ⟨dz 3 (.box 3 0 :: dz 17 (.pv Y22 :: pI :: pI :: dz 16 [])), [(3, true, [.pv Y4, .pv Y6, .pv Y22])]⟩
def jHI (p : List Z2) (n : List Z3) (j : List Z0) (h : List Z1) (a : List Int) : Z7 :=
 (oB (i_SegOk_m N p n j h) fun q => bif !q then some false else oB (jx1 N a) fun k => bif !k then some false else iter (fun o (f, i, b, c, d, e) => bif decide (b < i) then oB (idx f b) fun m => (oB (i_Seg_doc_m N (c, d) m) fun t => bif !t.2.2.2 then some false else if fits (b + 1) then o (f, i, (b + 1), c, d, e) else none) else oB (jHE N c d e) fun l => some (decide ((0 : Int) < l.length))) N (a, (a.length : Int), (0 : Int), j, h, a))
theorem jJD : mK 198 (bX [.agg [.pv (.sl .str), .pv Y17], .agg [.pv Y4, .pv Y6, .pv Y22]] [pB] (c5A (jHI N))) :=
 mO (fC (joa N) (fC (jAN N) (fC (jlU N) (fC (jH4 N) ja)))) func198 rfl N (.seq .no (.seq .no (.seq (.seq .no (.block (.loop jIO .no))) .no))) _
def i_allAlive_1_m (c : Int) (d : Z15) (f : Z9) (a : Int) (h : Z15) (e : Z9) : Z10 :=
 (oB (jxY N c a) fun b => some b)
theorem jHC : mK 201 (bX [.agg [pI, .pv Y20, .pv Y16], .agg [pI, .pv Y20, .pv Y16]] [pI] (c6A (i_allAlive_1_m N))) :=
 mO (fC (jpP N) ja) func201 rfl N .no _
def cmp669 (N : Nat) : (Unit) -> Z0 -> Z0 -> Option Int := (fun (cmp : Unit) (e e2 : Int × Z14 × Z8) => i_allAlive_1_m N e.1 e.2.1 e.2.2 e2.1 e2.2.1 e2.2.2)
def jIw : Sh := ⟨.mtk 800000 Y5 44 false :: pI :: pI :: .clo 201 [] :: dz 4 (pI :: dz 44 []), []⟩
def jJn : Sh := ⟨.mtk 800000 Y5 44 false :: pI :: pI :: .clo 201 [] :: dz 4 (pI :: pI :: dz 43 []), []⟩
def jJk (a : List Z0) (b : Int) (c : Int) (d : Unit) : Z20 := insG (cmp669 N) N a b c d
 
theorem jIC : mK 309 (bX [.mtk 800000 Y5 44 false, pI, pI, .clo 201 []] [.tup [], .mtk 800000 Y5 44 false] (c4A (jJk N))) :=
 mO (fC (jHC N) ja) func309 rfl N (.seq .no (.block (.loop jIw (.seq .no (.seq (.block (.seq .no (.block (.loop jJn .no)))) .no))))) _ (rs := [800000])
def jI7 : Sh := ⟨.mtk 800000 Y5 44 false :: .dead :: pI :: pI :: .clo 201 [] :: dz 5 (pI :: dz 71 []), []⟩
def jJE : Sh := ⟨.mtk 800000 Y5 44 false :: .dead :: pI :: pI :: .clo 201 [] :: dz 5 (pI :: pI :: dz 70 []), []⟩
def jJr (a : List Z0) (b : Int) (c : Int) (e : Int) (d : Unit) : Z20 := siftG (cmp669 N) N a b c e d
 
theorem jIA : mK 337 (bX [.mtk 800000 Y5 44 false, pI, pI, pI, .clo 201 []] [.tup [], .mtk 800000 Y5 44 false] (c5A (jJr N))) :=
 mO (fC (jHC N) ja) func337 rfl N (.seq .no (.block (.loop jI7 (.block (.seq .no (.seq .no (.meet jJE .no .no))))))) _ (rs := [800000])
def jH9 : Sh := ⟨.mtk 800000 Y5 44 false :: .dead :: .dead :: .clo 201 [] :: dz 4 (pI :: pI :: pI :: pI :: dz 48 []), []⟩
def jIK : Sh := ⟨.mtk 800000 Y5 44 false :: .dead :: .dead :: .clo 201 [] :: dz 4 (pI :: pI :: .dead :: .dead :: pI :: dz 47 []), []⟩
def jIj (a : List Z0) (b : Int) (c : Int) (d : Unit) : Z20 := heapG (cmp669 N) N a b c d
 
theorem jJa : mK 310 (bX [.mtk 800000 Y5 44 false, pI, pI, .clo 201 []] [.tup [], .mtk 800000 Y5 44 false] (c4A (jIj N))) :=
 mO (fC (jIA N) ja) func310 rfl N (.seq .no (.seq .no (.seq .no (.seq (.seq .no (.block (.loop jH9 .no))) (.seq .no (.block (.loop jIK .no))))))) _ (rs := [800000])
def jH6 : Sh := ⟨.mtk 800000 Y5 44 false :: pI :: dz 6 (pI :: .box 9 0 :: .pv (.int .u64) :: pI :: dz 55 []), [(9, false, [.pv (.int .u64)])]⟩
def jJm : Sh := ⟨.mtk 800000 Y5 44 false :: pI :: dz 6 (pI :: .box 9 0 :: .pv (.int .u64) :: pI :: pI :: dz 54 []), [(9, false, [.pv (.int .u64)])]⟩
def jI4 (a : List Z0) (b : Int) (c : Int) (d : Unit) : Z20 := breakG N a b c d
 
theorem jIs : mK 311 (bX [.mtk 800000 Y5 44 false, pI, pI, .clo 201 []] [.tup [], .mtk 800000 Y5 44 false] (c4A (jI4 N))) :=
 mO (fC (jhv N) (fC (jet N) ja)) func311 rfl N (.seq .no (.seq .no (.cond (.seq .no (.seq .no (.seq .no (.block (.loop jH6 (.seq .no (.seq (.block (.seq .no (.meet jJm .no .no))) .no))))))) .no))) _ (rs := [800000])
def jJC (a : List Z0) (b : Int) (c : Int) (e : Unit) (d : Int) : Option (Int × Int × (List Z0) × Int) := order2G (cmp669 N) N a b c e d
 
theorem jIo : mK 350 ⟨⟨[.mtk 800000 Y5 44 false, pI, pI, .box 900003 0, .clo 201 []], [(900003, false, [pI])]⟩, ⟨[.tup [pI, pI], .mtk 800000 Y5 44 false], [(900003, false, [pI])]⟩, c5A (jJC N)⟩ :=
 mO (fC (jHC N) ja) func350 rfl N .no _ (rs := [900003, 800000])
def jII (a : List Z0) (d : Int) (c : Int) (b : Int) (f : Unit) (e : Int) : Option (Int × (List Z0) × Int) := medianG (cmp669 N) N a d c b f e
 
theorem jHQ : mK 339 ⟨⟨[.mtk 800000 Y5 44 false, pI, pI, pI, .box 900004 0, .clo 201 []], [(900004, false, [pI])]⟩, ⟨[pI, .mtk 800000 Y5 44 false], [(900004, false, [pI])]⟩, c6A (jII N)⟩ :=
 mO (fC (jIo N) ja) func339 rfl N .no _ (rs := [900004, 800000])
def jIn (a : List Z0) (b : Int) (d : Unit) (c : Int) : Option (Int × (List Z0) × Int) := medianAdjacentG (cmp669 N) N a b d c
 
theorem jI9 : mK 338 ⟨⟨[.mtk 800000 Y5 44 false, pI, .box 900002 0, .clo 201 []], [(900002, false, [pI])]⟩, ⟨[pI, .mtk 800000 Y5 44 false], [(900002, false, [pI])]⟩, c4A (jIn N)⟩ :=
 mO (fC (jHQ N) ja) func338 rfl N .no _ (rs := [900002, 800000])
def jJw : Sh := ⟨.mtk 800000 Y5 44 false :: .dead :: .dead :: .clo 201 [] :: dz 7 (.box 11 0 :: pI :: pI :: pI :: dz 48 []), [(11, false, [pI])]⟩
def jI6 : Sh := ⟨.mtk 800000 Y5 44 false :: dz 10 (.box 11 0 :: .dead :: pI :: dz 49 []), [(11, false, [pI])]⟩
def jIq (a : List Z0) (b : Int) (c : Int) (d : Unit) : Option (Int × Int × (List Z0)) := choosePivotG (cmp669 N) N a b c d
 
theorem jJz : mK 312 (bX [.mtk 800000 Y5 44 false, pI, pI, .clo 201 []] [.tup [pI, pI], .mtk 800000 Y5 44 false] (c4A (jIq N))) :=
 mO (fC (jI9 N) (fC (jHQ N) ja)) func312 rfl N (.seq .no (.seq .no (.seq .no (.seq .no (.seq .no (.seq .no (.meet jI6 (.seq .no (.cond (.meet jJw .no .no) .no)) .no))))))) _ (rs := [800000])
def jJB : Sh := ⟨.mtk 800000 Y5 44 false :: dz 7 (pI :: pI :: dz 24 []), []⟩
def jJs (a : List Z0) (b : Int) (c : Int) (d : Unit) : Z20 := reverseRangeG N a b c d
 
theorem jIk : mK 313 (bX [.mtk 800000 Y5 44 false, pI, pI, .clo 201 []] [.tup [], .mtk 800000 Y5 44 false] (c4A (jJs N))) :=
 mO ja func313 rfl N (.seq .no (.seq .no (.block (.loop jJB .no)))) _ (rs := [800000])
def jHL : Sh := ⟨.mtk 800000 Y5 44 false :: pI :: pI :: .clo 201 [] :: dz 5 (pI :: pI :: dz 130 []), []⟩
def jJh : Sh := ⟨.mtk 800000 Y5 44 false :: pI :: pI :: .clo 201 [] :: dz 5 (pI :: pI :: pI :: dz 129 []), []⟩
def jIF : Sh := ⟨.mtk 800000 Y5 44 false :: pI :: pI :: .clo 201 [] :: dz 5 (pI :: pI :: .dead :: pI :: dz 128 []), []⟩
def jIx (a : List Z0) (b : Int) (c : Int) (d : Unit) : Option (Bool × (List Z0)) := pisG (cmp669 N) N a b c d
 
theorem jI1 : mK 314 (bX [.mtk 800000 Y5 44 false, pI, pI, .clo 201 []] [pB, .mtk 800000 Y5 44 false] (c4A (jIx N))) :=
 mO (fC (jHC N) ja) func314 rfl N (.seq .no (.seq .no (.seq (.seq .no (.block (.loop jHL (.seq .no (.seq (.block (.seq (.block (.loop jHL .no)) (.seq .no (.seq .no (.seq .no (.meet jHL (.seq .no (.cond (.seq .no (.block (.loop jJh .no))) .no)) (.seq .no (.cond (.seq .no (.block (.loop jIF .no))) .no)))))))) .no))))) .no))) _ (rs := [800000])
def jHK : Sh := ⟨.mtk 800000 Y5 44 false :: pI :: .dead :: .dead :: .clo 201 [] :: dz 6 (pI :: pI :: dz 77 []), []⟩
def jIh (a : List Z0) (b : Int) (c : Int) (e : Int) (d : Unit) : Option (Int × (List Z0)) := peqG (cmp669 N) N a b c e d
 
theorem jH7 : mK 315 (bX [.mtk 800000 Y5 44 false, pI, pI, pI, .clo 201 []] [pI, .mtk 800000 Y5 44 false] (c5A (jIh N))) :=
 mO (fC (jHC N) ja) func315 rfl N (.seq .no (.seq .no (.seq .no (.seq (.block (.loop jHK (.block (.seq (.block (.loop jHK .no)) (.seq (.block (.loop jHK .no)) .no))))) .no)))) _ (rs := [800000])
def jHD : Sh := ⟨.mtk 800000 Y5 44 false :: pI :: .dead :: .dead :: .clo 201 [] :: dz 7 (pI :: pI :: dz 164 []), []⟩
def jIZ (a : List Z0) (b : Int) (c : Int) (e : Int) (d : Unit) : Option (Int × Bool × (List Z0)) := partG (cmp669 N) N a b c e d
 
theorem jJc : mK 316 (bX [.mtk 800000 Y5 44 false, pI, pI, pI, .clo 201 []] [.tup [pI, pB], .mtk 800000 Y5 44 false] (c5A (jIZ N))) :=
 mO (fC (jHC N) ja) func316 rfl N (.seq .no (.seq .no (.seq .no (.seq (.block (.loop jHD .no)) (.seq (.block (.loop jHD .no)) (.seq .no (.seq .no (.seq .no (.seq .no (.seq (.block (.loop jHD (.block (.seq (.block (.loop jHD .no)) (.seq (.block (.loop jHD .no)) .no))))) .no)))))))))) _ (rs := [800000])
def jIv : Sh := ⟨.mtk 800000 Y5 44 false :: pI :: pI :: pI :: .clo 201 [] :: dz 5 (pB :: pB :: dz 136 []), []⟩
def jIt : Sh := ⟨.mtk 800000 Y5 44 false :: pI :: pI :: pI :: .clo 201 [] :: dz 5 (pB :: pB :: pI :: pI :: dz 134 []), []⟩
def jIU : Sh := ⟨.mtk 800000 Y5 44 false :: pI :: pI :: pI :: .clo 201 [] :: dz 5 (pB :: pB :: pI :: pI :: pI :: dz 133 []), []⟩
def jID : Sh := ⟨.mtk 800000 Y5 44 false :: pI :: pI :: pI :: .clo 201 [] :: dz 5 (pB :: pB :: pI :: dz 135 []), []⟩
def jHN (N D : Nat) (f : List Z0) (b a limit : Int) (h : Unit) : Z20 := pdqG (cmp669 N) (fun c b a d => heapG (cmp669 N) N c b a d) (fun c b a e d => peqG (cmp669 N) N c b a e d) N D f b a limit h
 
def jHF (N D : Nat) : Model := ⟨⟨[.mtk 800000 Y5 44 false, pI, pI, pI, .clo 201 []], []⟩, ⟨[.tup [], .mtk 800000 Y5 44 false], []⟩, c5A (jHN N D)⟩
theorem jJo (N D : Nat) (ih : mK 266 (jHF N D)) : mK 266 (jHF N (D + 1)) :=
 mO (fC ih (fC (jIC N) (fC (jJa N) (fC (jIs N) (fC (jJz N) (fC (jIk N) (fC (jI1 N) (fC (jHC N) (fC (jH7 N) (fC (jJc N) ja)))))))))) func266 rfl N (.seq .no (.seq .no (.block (.loop jIv (.block (.seq .no (.seq .no (.seq .no (.meet jID .no (.seq .no (.meet jIU .no (.meet jIt .no .no)))))))))))) (jHF N (D + 1)) (rs := [800000])
theorem jHV (N : Nat) : ∀ D, mK 266 (jHF N D)
 | 0 => modelOk_none ⟨_, func266, by decide, by kernel_rfl⟩ _ (fun a => rfl)
 | D + 1 => jJo N D (jHV N D)
def k_slices_SortFunc_669_m (a : List Z0) (d : Unit) : Z20 :=
 (oB (k_math_bits_Len_m N (IntKind.u64.wrap (a.length : Int))) fun c => oB (jHN N N a 0 (a.length : Int) c ()) fun b => some b)
theorem jIu : mK 200 (bX [.mtk 800000 Y5 44 false, .clo 201 []] [.tup [], .mtk 800000 Y5 44 false] (c2A (k_slices_SortFunc_669_m N))) :=
 mO (fC (jda N) (fC (jHV N N) ja)) func200 rfl N .no _ (rs := [800000])
def jH5 : Sh := ⟨dz 3 (.mtk 600003 Y5 44 false :: dz 3 (.pv Y1 :: pI :: pI :: dz 11 [])), []⟩
def i_allAlive_m (d : List Z5) : Z20 :=
 (iter (fun k (b, e, h, a) => bif decide (a < h) then oB (idx e a) fun c => (oB (jHE N c.1.1 c.1.2 c.2) fun f => if room b.length f.length 56 then if fits (a + 1) then k ((b ++ f), e, h, (a + 1)) else none else none) else oB (k_slices_SortFunc_669_m N b ()) fun i => some i) N (([] : List Z0), d, (d.length : Int), (0 : Int)))
theorem jHR : mK 132 (bX [.pv Y1] [.own 1 Y5 44 false] (c1A (i_allAlive_m N))) :=
 mO (fC (jH4 N) (fC (jIu N) ja)) func132 rfl N (.seq .no (.seq .no (.seq (.seq .no (.block (.loop jH5 .no))) .no))) _ (wr := [6, 16])
def jIf : Sh := ⟨.dead :: .box 1 0 :: dz 14 (.pv Y1 :: pI :: pI :: dz 13 []), [(1, false, [.pv (.sl .str), .pv Y17, .pv Y1])]⟩
def i_IndexOk_m (d : List Z2) (k : List Z3) (b : List Z5) : Z7 :=
 (oB (jaj N d k) fun n => bif !n then some false else bif decide ((5 : Int) < b.length) then some false else iter (fun p (j, f, a, h, e, i) => bif decide (a < f) then oB (idx j a) fun c => (oB (jHI N h e c.1.1 c.1.2 c.2) fun l => bif !l then some false else if fits (a + 1) then p (j, f, (a + 1), h, e, i) else none) else oB (i_allAlive_m N i) fun q => oB (jbf N q) fun m => some m) N (b, (b.length : Int), (0 : Int), d, k, b))
theorem jIr : mK 131 (bX [.agg [.pv (.sl .str), .pv Y17, .pv Y1]] [pB] (c3A (i_IndexOk_m N))) :=
 mO (fC (jdX N) (fC (jJD N) (fC (jHR N) (fC (jjU N) ja)))) func131 rfl N (.seq .no (.seq .no (.seq (.seq .no (.block (.loop jIf .no))) .no))) _
def i_IndexTop_m (a : List Z2) (b : List Z3) (j : List Z5) (f : Int) (h : List UInt8) (i : List Z2) (c : Int) (k : Int) (e : List DQ) (l : Int) : Option (Z12) :=
 (oB (i_IndexOk_m N a b j) fun p => bif !p then some ([] : Z6) else oB (i_QueryOk_m N f h i c k e) fun m => bif !m then some ([] : Z6) else oB (jm N l 1 16) fun q => bif !q then some ([] : Z6) else oB (i_allAlive_m N j) fun n => oB (i_SegOf_m N a b n) fun d => oB (i_TopOf_m N a b d.1 d.2 f h i c k e l) fun o => some o)
theorem jIR : mK 52 (bX [.agg [.pv (.sl .str), .pv Y17, .pv Y1], .agg [pI, pS, .pv (.sl .str), pI, pI, .pv (.sl .q)], pI] [.own 1 Y15 162 true] (c10A (i_IndexTop_m N))) :=
 mO (fC (jIr N) (fC (jCN N) (fC (jY N) (fC (jHR N) (fC (jqC N) (fC (jCZ N) ja)))))) func52 rfl N .no _
def jxc (N : Nat) (c : Int) (d : Int) (b : Int) (a : Int) : Z7 :=
 (bif !decide (c = b) then some false else bif !decide (d = a) then some false else some true)
theorem jxx : mK 133 (bX [.agg [pI, pI], .agg [pI, pI]] [pB] (c4A (jxc N))) :=
 mO ja func133 rfl N .no _
def jxv : Sh := ⟨.pv (.sl Y15) :: .pv (.sl Y15) :: dz 3 (pI :: dz 21 []), []⟩
def jxe (f : Z6) (c : Z6) : Z7 :=
 (bif !decide ((f.length : Int) = (c.length : Int)) then some false else iter (fun k (b, h, a) => bif decide (a < (b.length : Int)) then oB (idx b a) fun e => (oB (idx h a) fun d => oB (jxc N e.1 e.2 d.1 d.2) fun i => bif !i then some false else if fits (a + 1) then k (b, h, (a + 1)) else none) else some true) N (f, c, (0 : Int)))
theorem jxo : mK 53 (bX [.pv (.sl Y15), .pv (.sl Y15)] [pB] (c2A (jxe N))) :=
 mO (fC (jxx N) ja) func53 rfl N (.seq .no (.seq .no (.seq (.seq .no (.block (.loop jxv .no))) .no))) _
def jqZ : Sh := ⟨.pv Y4 :: .pv Y4 :: dz 3 (pI :: dz 21 []), []⟩
def jdZ (f : List Z0) (e : List Z0) : Z7 :=
 (bif !decide ((f.length : Int) = (e.length : Int)) then some false else iter (fun k (c, h, a) => bif decide (a < (c.length : Int)) then oB (idx c a) fun d => (oB (idx h a) fun b => oB (jbi N d.1 d.2.1 d.2.2 b.1 b.2.1 b.2.2) fun i => bif !i then some false else if fits (a + 1) then k (c, h, (a + 1)) else none) else some true) N (f, e, (0 : Int)))
theorem jmb : mK 317 (bX [.pv Y4, .pv Y4] [pB] (c2A (jdZ N))) :=
 mO (fC (jta N) ja) func317 rfl N (.seq .no (.seq .no (.seq (.seq .no (.block (.loop jqZ .no))) .no))) _
def jea (d : List Int) (c : List Int) : Z7 :=
 (bif !decide ((d.length : Int) = (c.length : Int)) then some false else iter (fun j (b, e, a) => bif decide (a < (b.length : Int)) then oB (idx b a) fun i => (oB (idx e a) fun f => bif !decide (i = f) then some false else if fits (a + 1) then j (b, e, (a + 1)) else none) else some true) N (d, c, (0 : Int)))
theorem jmk : mK 269 (bX [.pv Y22, .pv Y22] [pB] (c2A (jea N))) :=
 mO ja func269 rfl N (.seq .no (.seq .no (.seq (.seq .no (.block (.loop jnI .no))) .no))) _
def jbl (c : Int) (d : List Int) (b : Int) (a : List Int) : Z7 :=
 (bif !decide (c = b) then some false else oB (jea N d a) fun e => bif !e then some false else some true)
theorem jrv : mK 357 (bX [.agg [pI, .pv Y22], .agg [pI, .pv Y22]] [pB] (c4A (jbl N))) :=
 mO (fC (jmk N) ja) func357 rfl N .no _
def jna : Sh := ⟨.pv Y13 :: .pv Y13 :: dz 3 (pI :: dz 21 []), []⟩
def jdt (f : Z4) (c : Z4) : Z7 :=
 (bif !decide ((f.length : Int) = (c.length : Int)) then some false else iter (fun k (b, h, a) => bif decide (a < (b.length : Int)) then oB (idx b a) fun e => (oB (idx h a) fun d => oB (jbl N e.1 e.2 d.1 d.2) fun i => bif !i then some false else if fits (a + 1) then k (b, h, (a + 1)) else none) else some true) N (f, c, (0 : Int)))
theorem jrb : mK 351 (bX [.pv Y13, .pv Y13] [pB] (c2A (jdt N))) :=
 mO (fC (jrv N) ja) func351 rfl N (.seq .no (.seq .no (.seq (.seq .no (.block (.loop jna .no))) .no))) _
def jaU (f : List UInt8) (b : List UInt8) (e : Z4) (a : List UInt8) (h : List UInt8) (c : Z4) : Z7 :=
 (bif !decide (f = a) then some false else bif !decide (b = h) then some false else oB (jdt N e c) fun d => bif !d then some false else some true)
theorem jmZ : mK 340 (bX [.agg [pS, pS, .pv Y13], .agg [pS, pS, .pv Y13]] [pB] (c6A (jaU N))) :=
 mO (fC (jrb N) ja) func340 rfl N .no _
def jkD : Sh := ⟨.pv Y6 :: .pv Y6 :: dz 3 (pI :: dz 21 []), []⟩
def jdU (f : List Z1) (e : List Z1) : Z7 :=
 (bif !decide ((f.length : Int) = (e.length : Int)) then some false else iter (fun k (c, h, a) => bif decide (a < (c.length : Int)) then oB (idx c a) fun d => (oB (idx h a) fun b => oB (jaU N d.1 d.2.1 d.2.2 b.1 b.2.1 b.2.2) fun i => bif !i then some false else if fits (a + 1) then k (c, h, (a + 1)) else none) else some true) N (f, e, (0 : Int)))
theorem jkg : mK 318 (bX [.pv Y6, .pv Y6] [pB] (c2A (jdU N))) :=
 mO (fC (jmZ N) ja) func318 rfl N (.seq .no (.seq .no (.seq (.seq .no (.block (.loop jkD .no))) .no))) _
def jbJ (d : List Z0) (e : List Z1) (c : List Z0) (b : List Z1) : Z7 :=
 (oB (jdZ N d c) fun f => bif !f then some false else oB (jdU N e b) fun a => bif !a then some false else some true)
theorem jnM : mK 268 (bX [.agg [.pv Y4, .pv Y6], .agg [.pv Y4, .pv Y6]] [pB] (c4A (jbJ N))) :=
 mO (fC (jmb N) (fC (jkg N) ja)) func268 rfl N .no _
def l_eqLive_m (h : List Z0) (c : List Z1) (f : List Int) (b : List Z0) (i : List Z1) (d : List Int) : Z7 :=
 (oB (jbJ N h c b i) fun e => bif !e then some false else oB (jea N f d) fun a => bif !a then some false else some true)
theorem jI3 : mK 203 (bX [.agg [.pv Y4, .pv Y6, .pv Y22], .agg [.pv Y4, .pv Y6, .pv Y22]] [pB] (c6A (l_eqLive_m N))) :=
 mO (fC (jnM N) (fC (jmk N) ja)) func203 rfl N .no _
def jIS : Sh := ⟨.pv Y1 :: .pv Y1 :: dz 3 (pI :: dz 21 []), []⟩
def l_eqLiveS_m (f : List Z5) (e : List Z5) : Z7 :=
 (bif !decide ((f.length : Int) = (e.length : Int)) then some false else iter (fun k (c, h, a) => bif decide (a < (c.length : Int)) then oB (idx c a) fun d => (oB (idx h a) fun b => oB (l_eqLive_m N d.1.1 d.1.2 d.2 b.1.1 b.1.2 b.2) fun i => bif !i then some false else if fits (a + 1) then k (c, h, (a + 1)) else none) else some true) N (f, e, (0 : Int)))
theorem jIa : mK 134 (bX [.pv Y1, .pv Y1] [pB] (c2A (l_eqLiveS_m N))) :=
 mO (fC (jI3 N) ja) func134 rfl N (.seq .no (.seq .no (.seq (.seq .no (.block (.loop jIS .no))) .no))) _
def l_eqIndex_m (h : List Z2) (c : List Z3) (f : List Z5) (b : List Z2) (i : List Z3) (d : List Z5) : Z7 :=
 (oB (jcO N h c b i) fun e => bif !e then some false else oB (l_eqLiveS_m N f d) fun a => bif !a then some false else some true)
theorem jIY : mK 54 (bX [.agg [.pv (.sl .str), .pv Y17, .pv Y1], .agg [.pv (.sl .str), .pv Y17, .pv Y1]] [pB] (c6A (l_eqIndex_m N))) :=
 mO (fC (jr8 N) (fC (jIa N) ja)) func54 rfl N .no _
def jml : Sh := ⟨.tre 800000 Y5 44 :: pI :: dz 3 (pI :: dz 28 []), []⟩
def jb4 (n : List Z0) (m : Int) : Option (Int × (List Z0)) :=
 (iter (fun o (b, c, a) => bif decide (a < (b.length : Int)) then if 0 <= a /\ a < (b.length : Int) then oB (b[a.toNat]?) fun d => (if fits (c + 1) then if 0 <= a /\ a < ((b.set a.toNat (c, d.2)).length : Int) then oB ((b.set a.toNat (c, d.2))[a.toNat]?) fun k => (oB (jbW N k.2.1 (c + 1)) fun h => if 0 <= a /\ a < ((b.set a.toNat (c, d.2)).length : Int) then oB ((b.set a.toNat (c, d.2))[a.toNat]?) fun j => (oB (jbP N j.2.2 h.1) fun e => if fits (a + 1) then o ((((b.set a.toNat (c, d.2)).modify a.toNat fun f => (f.1, f.2.1, e.2)).modify a.toNat fun i => (i.1, h.2, i.2.2)), e.1, (a + 1)) else none) else none) else none else none) else none else some (c, b)) N (n, m, (0 : Int)))
theorem jnb : mK 204 (bX [.tre 800000 Y5 44, pI] [pI, .tre 800000 Y5 44] (c2A (jb4 N))) :=
 mO (fC (jo0 N) (fC (js2 N) ja)) func204 rfl N (.seq .no (.seq (.seq .no (.block (.loop jml .no))) .no)) _ (rs := [800000])
def jl9 : Sh := ⟨.mtk 800000 tI 3 true :: pI :: dz 3 (pI :: dz 13 []), []⟩
def jco (f : List Int) (e : Int) : Option (Int × (List Int)) :=
 (iter (fun h (b, c, a) => bif decide (a < (b.length : Int)) then if 0 <= a /\ a < (b.length : Int) then oB (b[a.toNat]?) fun i => (if fits (c + 1) then if fits (a + 1) then h ((b.set a.toNat c), (c + 1), (a + 1)) else none else none) else none else some (c, b)) N (f, e, (0 : Int)))
theorem jr1 : mK 206 (bX [.mtk 800000 tI 3 true, pI] [pI, .mtk 800000 tI 3 true] (c2A (jco N))) :=
 mO ja func206 rfl N (.seq .no (.seq (.seq .no (.block (.loop jl9 .no))) .no)) _ (rs := [800000])
def jnn : Sh := ⟨.tre 800000 Y14 239 :: pI :: dz 3 (pI :: dz 21 []), []⟩
def jcm (k : Z4) (j : Int) : Option (Int × Z13) :=
 (iter (fun l (b, c, a) => bif decide (a < (b.length : Int)) then if 0 <= a /\ a < (b.length : Int) then oB (b[a.toNat]?) fun d => (if fits (c + 1) then if 0 <= a /\ a < ((b.set a.toNat (c, d.2)).length : Int) then oB ((b.set a.toNat (c, d.2))[a.toNat]?) fun h => (oB (jco N h.2 (c + 1)) fun e => if fits (a + 1) then l (((b.set a.toNat (c, d.2)).modify a.toNat fun f => (f.1, e.2)), e.1, (a + 1)) else none) else none else none) else none else some (c, b)) N (k, j, (0 : Int)))
theorem jrg : mK 270 (bX [.tre 800000 Y14 239, pI] [pI, .tre 800000 Y14 239] (c2A (jcm N))) :=
 mO (fC (jr1 N) ja) func270 rfl N (.seq .no (.seq (.seq .no (.block (.loop jnn .no))) .no)) _ (rs := [800000])
def jkI : Sh := ⟨.tre 800000 Y7 156 :: pI :: dz 3 (pI :: dz 30 []), []⟩
def jcD (n : List Z1) (m : Int) : Option (Int × (List Z1)) :=
 (iter (fun o (b, d, a) => bif decide (a < (b.length : Int)) then oB (jr N d) fun e => (if 0 <= a /\ a < (b.length : Int) then oB (b[a.toNat]?) fun f => (if fits (d + 1) then oB (jr N (d + 1)) fun h => (if 0 <= a /\ a < ((b.set a.toNat (e, f.2)).length : Int) then oB ((b.set a.toNat (e, f.2))[a.toNat]?) fun c => (if fits ((d + 1) + 1) then if 0 <= a /\ a < (((b.set a.toNat (e, f.2)).set a.toNat (c.1, h, c.2.2)).length : Int) then oB (((b.set a.toNat (e, f.2)).set a.toNat (c.1, h, c.2.2))[a.toNat]?) fun k => (oB (jcm N k.2.2 ((d + 1) + 1)) fun j => if fits (a + 1) then o ((((b.set a.toNat (e, f.2)).set a.toNat (c.1, h, c.2.2)).modify a.toNat fun i => (i.1, i.2.1, j.2)), j.1, (a + 1)) else none) else none else none) else none) else none) else none) else some (d, b)) N (n, m, (0 : Int)))
theorem jlr : mK 205 (bX [.tre 800000 Y7 156, pI] [pI, .tre 800000 Y7 156] (c2A (jcD N))) :=
 mO (fC (jaz N) (fC (jrg N) ja)) func205 rfl N (.seq .no (.seq (.seq .no (.block (.loop jkI .no))) .no)) _ (rs := [800000])
def jIe : Sh := ⟨.tre 800000 Y2 263 :: pI :: dz 3 (pI :: dz 30 []), []⟩
def l_markLiveS_m (p : List Z5) (n : Int) : Option (Int × (List Z5)) :=
 (iter (fun q (b, f, a) => bif decide (a < (b.length : Int)) then if 0 <= a /\ a < (b.length : Int) then oB (b[a.toNat]?) fun o => (oB (jb4 N o.1.1 f) fun d => if 0 <= a /\ a < (b.length : Int) then oB (b[a.toNat]?) fun k => (oB (jcD N k.1.2 d.1) fun c => if 0 <= a /\ a < (b.length : Int) then oB (b[a.toNat]?) fun j => (oB (jco N j.2 c.1) fun h => if fits (a + 1) then q ((((b.modify a.toNat fun m => (m.1, h.2)).modify a.toNat fun i => ((i.1.1, c.2), i.2)).modify a.toNat fun e => ((d.2, e.1.2), e.2)), h.1, (a + 1)) else none) else none) else none) else none else some (f, b)) N (p, n, (0 : Int)))
theorem jIE : mK 136 (bX [.tre 800000 Y2 263, pI] [pI, .tre 800000 Y2 263] (c2A (l_markLiveS_m N))) :=
 mO (fC (jnb N) (fC (jlr N) (fC (jr1 N) ja))) func136 rfl N (.seq .no (.seq (.seq .no (.block (.loop jIe .no))) .no)) _ (rs := [800000])
def l_markIndex_m (e : List Z2) (f : List Z3) (c : List Z5) (d : Int) : Option (Int × (List Z2) × (List Z3) × (List Z5)) :=
 (oB (jb0 N e f d) fun a => oB (l_markLiveS_m N c a.1) fun b => some (b.1, a.2.1, a.2.2, b.2))
theorem jJp : mK 56 (bX [.agg [.mtk 800000 .str 9 true, .tre 800001 Y19 138, .tre 800002 Y2 263], pI] [pI, .mtk 800000 .str 9 true, .tre 800001 Y19 138, .tre 800002 Y2 263] (c4A (l_markIndex_m N))) :=
 mO (fC (jrd N) (fC (jIE N) ja)) func56 rfl N .no _ (rs := [800000, 800001, 800002])
def l_markQuery_m (i : Int) (h : List UInt8) (c : List Z2) (j : Int) (f : Int) (e : List DQ) (d : Int) : Option (Int × (List Z2) × (List DQ)) :=
 (oB (jas N c d) fun b => oB (jxQ N N e b.1) fun a => some (a.1, b.2, a.2))
theorem jBD : mK 57 (bX [.agg [pI, pS, .mtk 800002 .str 9 true, pI, pI, .tre 800005 .q 70], pI] [pI, .mtk 800002 .str 9 true, .tre 800005 .q 70] (c7A (l_markQuery_m N))) :=
 mO (fC (jdf N) (fC (jy0 N N) ja)) func57 rfl N .no _ (rs := [800002, 800005])
def jxr : Sh := ⟨.mtk 800000 Y15 162 true :: pI :: dz 3 (pI :: dz 21 []), []⟩
def jxf (i : Z6) (h : Int) : Option (Int × Z12) :=
 (iter (fun j (c, b, a) => bif decide (a < (c.length : Int)) then if 0 <= a /\ a < (c.length : Int) then oB (c[a.toNat]?) fun d => (if fits (b + 1) then if 0 <= a /\ a < ((c.set a.toNat (b, d.2)).length : Int) then oB ((c.set a.toNat (b, d.2))[a.toNat]?) fun e => (if fits ((b + 1) + 1) then if fits (a + 1) then j (((c.set a.toNat (b, d.2)).set a.toNat (e.1, (b + 1))), ((b + 1) + 1), (a + 1)) else none else none) else none else none) else none else some (b, c)) N (i, h, (0 : Int)))
theorem jxq : mK 58 (bX [.mtk 800000 Y15 162 true, pI] [pI, .mtk 800000 Y15 162 true] (c2A (jxf N))) :=
 mO ja func58 rfl N (.seq .no (.seq (.seq .no (.block (.loop jxr .no))) .no)) _ (rs := [800000])
def jxn : Sh := ⟨.pv (.sl Y15) :: pI :: dz 3 (pI :: dz 25 []), []⟩
def jxd (i : Z6) (f : Int) : Z10 :=
 (iter (fun j (c, a, b) => bif decide (b < (c.length : Int)) then oB (idx c b) fun h => (bif !decide (h.1 = a) then some (-1) else if fits (a + 1) then oB (idx c b) fun d => (bif !decide (d.2 = (a + 1)) then some (-1) else if fits ((a + 1) + 1) then if fits (b + 1) then j (c, ((a + 1) + 1), (b + 1)) else none else none) else none) else some a) N (i, f, (0 : Int)))
theorem jxt : mK 59 (bX [.pv (.sl Y15), pI] [pI] (c2A (jxd N))) :=
 mO ja func59 rfl N (.seq .no (.seq (.seq .no (.block (.loop jxn .no))) .no)) _
def l_FnExactIndexTop_m (o : List Z2) (j : List Z3) (i : List Z5) (f : Int) (m : List UInt8) (n : List Z2) (h : Int) (k : Int) (l : List DQ) (r : Int) : Z7 :=
 (oB (l_szIndex_m N o j i 1048576) fun z => bif decide (z < 0) then some true else oB (jGR N N f m n h k l z) fun A => bif decide (A < 0) then some true else oB (l_toIndex_m N o j i) fun v => oB (jxF N N f m n h k l) fun c => oB (s_IndexTop_m N v.1 v.2.1 v.2.2 c.1 c.2.1 c.2.2.1 c.2.2.2.1 c.2.2.2.2.1 c.2.2.2.2.2 r) fun q => oB (l_toIndex_m N o j i) fun b => oB (jxF N N f m n h k l) fun a => oB (i_IndexTop_m N b.1 b.2.1 b.2.2 a.1 a.2.1 a.2.2.1 a.2.2.2.1 a.2.2.2.2.1 a.2.2.2.2.2 r) fun w => oB (jxe N w q) fun D => bif !D then some false else oB (l_toIndex_m N o j i) fun u => oB (l_eqIndex_m N b.1 b.2.1 b.2.2 u.1 u.2.1 u.2.2) fun B => bif !B then some false else oB (jxF N N f m n h k l) fun d => oB (jxK N N a.1 a.2.1 a.2.2.1 a.2.2.2.1 a.2.2.2.2.1 a.2.2.2.2.2 d.1 d.2.1 d.2.2.1 d.2.2.2.1 d.2.2.2.2.1 d.2.2.2.2.2) fun H => bif !H then some false else oB (l_markIndex_m N b.1 b.2.1 b.2.2 1) fun I => oB (l_markQuery_m N a.1 a.2.1 a.2.2.1 a.2.2.2.1 a.2.2.2.2.1 a.2.2.2.2.2 I.1) fun K => bif decide (K.1 < 0) then some false else oB (jxe N w q) fun C => bif !C then some false else oB (jxf N w 1) fun p => oB (jxd N p.2 1) fun y => bif decide (y < 0) then some false else bif !decide (y = p.1) then some false else oB (l_toIndex_m N o j i) fun t => oB (jxF N N f m n h k l) fun e => oB (i_IndexTop_m N t.1 t.2.1 t.2.2 e.1 e.2.1 e.2.2.1 e.2.2.2.1 e.2.2.2.2.1 e.2.2.2.2.2 r) fun E => oB (jxe N E q) fun G => bif !G then some false else oB (jxd N p.2 1) fun x => bif decide (x < 0) then some false else bif !decide (x = p.1) then some false else some true)
def jH2 (N : Nat) : Model := ⟨⟨[.agg [.pv (.sl .str), .pv Y17, .pv Y1], .agg [pI, pS, .pv (.sl .str), pI, pI, .pv (.sl .q)], pI], []⟩, ⟨[pB], []⟩, c10A (l_FnExactIndexTop_m N)⟩
theorem jIV : mK 7 (jH2 N) :=
 mO (fC (jIX N) (fC (jzH N N) (fC (jJt N) (fC (jy9 N N) (fC (jIg N) (fC (jIR N) (fC (jxo N) (fC (jIY N) (fC (jAA N N) (fC (jJp N) (fC (jBD N) (fC (jxq N) (fC (jxt N) ja))))))))))))) func7 rfl N .no (jH2 N) (dw := [27, 29, 33, 35, 39, 42, 46, 47, 51, 52, 65, 73, 80, 82, 84, 87, 91])
end Go.Proofs.YtfgcmhhacfkhcaaGreatDoor
