import Derived.Test.YtcinmmojlcchfaaGreatG1A
set_option linter.unusedVariables false
set_option linter.unusedSimpArgs false
namespace Go.Proofs.YtcinmmojlcchfaaGreat
open Go.RowKit Go.Proofs.Tryz
variable (N : Nat)
open Option renaming bind -> oB
def jtB :Sh:=⟨.pv Y19:: .pv Y19::dz 10 (pI::pI::dz 12 []),[]⟩
def jbX (b:List Int) (c:List Int):Z8:=
 (bif !decide ((b.length:Int)=(c.length:Int))then some false else iter (fun i (d,e,f,a)=>bif decide (a<f)then oB (idx d a) fun j=>(oB (idx e a) fun h=>bif !decide (j=h)then some false else if fits (a+1)then i (d,e,f,(a+1))else none)else some true) N (b,c,(b.length:Int),(0:Int)))
theorem jqi :mK 189 (bX [.pv Y19,.pv Y19] [pB] (c2A (jbX N))):=
 mO ja func189 rfl N (.seq .no (.seq .no (.seq (.seq .no (.block (.loop jtB .no))) .no))) _
def jcp (a:Int) (e:List Int) (d:Int) (b:List Int):Z8:=
 (bif decide (a=d)then oB (jbX N e b) fun c=>(some c)else some false)
theorem jth :mK 172 (bX [.agg [pI,.pv Y19],.agg [pI,.pv Y19]] [pB] (c4A (jcp N))):=
 mO (fC (jqi N) ja) func172 rfl N .no _
def jlX :Sh:=⟨.dead:: .pv Y11:: .clo 172 []::dz 12 (.pv Y11::pI::pI::dz 14 []),[]⟩
def jb6 (b:Z5) (e:Z5) (m:Unit):Z8:=
 (bif !decide ((b.length:Int)=(e.length:Int))then some false else iter (fun j (f,n,h,i,a)=>bif decide (a<i)then oB (idx h a) fun d=>(oB (idx f a) fun c=>oB (jcp N d.1 d.2 c.1 c.2) fun k=>bif !k then some false else if fits (a+1)then j (f,(),h,i,(a+1))else none)else some true) N (e,(),b,(b.length:Int),(0:Int)))
theorem jnG :mK 171 (bX [.pv Y11,.pv Y11,.clo 172 []] [pB] (c3A (jb6 N))):=
 mO (fC (jth N) ja) func171 rfl N (.seq .no (.seq .no (.seq (.seq .no (.block (.loop jlX .no))) .no))) _
def jcz (e:List UInt8) (h:List UInt8) (d:Z5) (c:List UInt8) (f:List UInt8) (a:Z5):Z8:=
 (bif decide (e=c)then bif decide (h=f)then oB (jb6 N d a ()) fun b=>(some b)else(some false)else some false)
theorem jp4 :mK 140 (bX [.agg [pS,pS,.pv Y11],.agg [pS,pS,.pv Y11]] [pB] (c6A (jcz N))):=
 mO (fC (jnG N) ja) func140 rfl N .no _
def jlD :Sh:=⟨.dead:: .pv Y5:: .clo 140 []::dz 12 (.pv Y5::pI::pI::dz 14 []),[]⟩
def jcn (c:List Z1) (e:List Z1) (m:Unit):Z8:=
 (bif !decide ((c.length:Int)=(e.length:Int))then some false else iter (fun j (f,n,h,i,a)=>bif decide (a<i)then oB (idx h a) fun d=>(oB (idx f a) fun b=>oB (jcz N d.1 d.2.1 d.2.2 b.1 b.2.1 b.2.2) fun k=>bif !k then some false else if fits (a+1)then j (f,(),h,i,(a+1))else none)else some true) N (e,(),c,(c.length:Int),(0:Int)))
theorem jsa :mK 139 (bX [.pv Y5,.pv Y5,.clo 140 []] [pB] (c3A (jcn N))):=
 mO (fC (jp4 N) ja) func139 rfl N (.seq .no (.seq .no (.seq (.seq .no (.block (.loop jlD .no))) .no))) _
noncomputable def jbN (b:List Z2) (c:List Z4) (a:List Z0) (e:List Z1):Z8:=
 (oB (jaj N b c) fun f=>bif !f then some false else oB (jbf N a) fun h=>bif !h then some false else oB (jbT N b c a) fun d=>oB (jcn N d.2 e ()) fun i=>some i)
theorem joa :mK 100 (bX [.agg [.pv (.sl .str),.pv Y14],.agg [.pv Y3,.pv Y5]] [pB] (c4A (jbN N))):=
 mO (fC (jdX N) (fC (jjU N) (fC (jqC N) (fC (jsa N) ja)))) func100 rfl N .no _
def jDT :Sh:=⟨.pv Y19::dz 4 (.pv Y19::pI::pI::dz 24 []),[]⟩
def jx1 (c:List Int):Z8:=
 (iter (fun f (b,d,e,a)=>bif decide (a<e)then oB (idx d a) fun h=>(oB (jm N h 0 999999999) fun j=>bif !j then some false else bif decide ((0:Int)<a)then if fits (a-1)then oB (idx b (a-1)) fun i=>(bif decide (h<=i)then some false else if fits (a+1)then f (b,d,e,(a+1))else none)else none else if fits (a+1)then f (b,d,e,(a+1))else none)else some (decide ((b.length:Int)<=60))) N (c,c,(c.length:Int),(0:Int)))
theorem jAN :mK 101 (bX [.pv Y19] [pB] (c1A (jx1 N))):=
 mO (fC (jY N) ja) func101 rfl N (.seq .no (.seq (.seq .no (.block (.loop jDT .no))) .no)) _
def jqv :Sh:=⟨.dead::pI:: .dead:: .dead:: .box 4 0::dz 6 (.pv Y3::pI::pI::dz 10 []),[(4,false,[pI,.nils,.nils])]⟩
def i_Seg_doc_m (d:(List Z0)×(List Z1)) (k:Int):Option (Int×Z13×Z7×Bool):=
 (iter (fun h (e,c,f,b,i)=>bif decide (b<f)then oB (idx c b) fun a=>(bif decide (a.1=e)then some (a.1,a.2.1,a.2.2,true)else if fits (b+1)then h (e,c,f,(b+1),i)else none)else some (0,([]:Z12),([]:Z6),false)) N (k,d.1,(d.1.length:Int),(0:Int),(0:Int)))
theorem jlU :mK 102 (bX [.ptr Y2,pI] [.tup [.agg [pI,.pv Y17,.pv Y13],pB]] (c2A (i_Seg_doc_m N))):=
 mO ja func102 rfl N (.seq .no (.seq (.seq .no (.block (.loop jqv .no))) .no)) _
def jIP :Sh:=⟨.pv Y19::pI::dz 5 (pI::pI::dz 10 []),[]⟩
def k_slices_Index_484_m (c:List Int) (i:Int):Z11:=
 (iter (fun f (d,b,e,a)=>bif decide (a<e)then oB (idx d a) fun h=>(bif decide (b=h)then some a else if fits (a+1)then f (d,b,e,(a+1))else none)else some (-1)) N (c,i,(c.length:Int),(0:Int)))
theorem jJu :mK 152 (bX [.pv Y19,pI] [pI] (c2A (k_slices_Index_484_m N))):=
 mO ja func152 rfl N (.seq .no (.seq (.seq .no (.block (.loop jIP .no))) .no)) _
def k_slices_Contains_735_m (a:List Int) (b:Int):Z8:=
 (oB (k_slices_Index_484_m N a b) fun c=>some (decide ((0:Int)<=c)))
theorem jIT :mK 113 (bX [.pv Y19,pI] [pB] (c2A (k_slices_Contains_735_m N))):=
 mO (fC (jJu N) ja) func113 rfl N .no _
def jIi :Sh:=⟨.dead:: .box 1 0:: .dead:: .own 600003 Y4 77 false::dz 5 (.pv Y3::pI::pI::dz 15 []),[(1,false,[.pv Y3,.pv Y5,.pv Y19])]⟩
def i_Live_alive_m (h:List Z0) (m:List Z1) (o:List Int):Z14:=
 (iter (fun j (b,d,e,a,i,k,f)=>bif decide (a<e)then oB (idx d a) fun c=>(oB (k_slices_Contains_735_m N f c.1) fun l=>bif !l then if room b.length ([c]:List Z0).length 56 then if fits (a+1)then j ((b++([c]:List Z0)),d,e,(a+1),i,k,f)else none else none else if fits (a+1)then j (b,d,e,(a+1),i,k,f)else none)else some b) N (([]:List Z0),h,(h.length:Int),(0:Int),h,m,o))
theorem jH4 :mK 62 (bX [.agg [.pv Y3,.pv Y5,.pv Y19]] [.own 1 Y4 77 false] (c3A (i_Live_alive_m N))):=
 mO (fC (jIT N) ja) func62 rfl N (.seq .no (.seq .no (.seq (.seq .no (.block (.loop jIi .no))) .no))) _
def jIO :Sh:=⟨dz 3 (.box 3 0::dz 17 (.pv Y19::pI::pI::dz 16 [])),[(3,true,[.pv Y3,.pv Y5,.pv Y19])]⟩
noncomputable def i_liveOk_m (l:List Z2) (r:List Z4) (i:List Z0) (h:List Z1) (a:List Int):Z8:=
 (oB (jbN N l r i h) fun q=>bif !q then some false else oB (jx1 N a) fun n=>bif !n then some false else iter (fun k (f,j,b,c,d,e)=>bif decide (b<j)then oB (idx f b) fun m=>(oB (i_Seg_doc_m N (c,d) m) fun p=>bif !p.2.2.2 then some false else if fits (b+1)then k (f,j,(b+1),c,d,e)else none)else oB (i_Live_alive_m N c d e) fun t=>some (decide ((0:Int)<t.length))) N (a,(a.length:Int),(0:Int),i,h,a))
theorem jJD :mK 51 (bX [.agg [.pv (.sl .str),.pv Y14],.agg [.pv Y3,.pv Y5,.pv Y19]] [pB] (c5A (i_liveOk_m N))):=
 mO (fC (joa N) (fC (jAN N) (fC (jlU N) (fC (jH4 N) ja)))) func51 rfl N (.seq .no (.seq .no (.seq (.seq .no (.block (.loop jIO .no))) .no))) _
def jl0 :Sh:=⟨.pv (.int .u64):: .dead::pI::dz 22 [],[]⟩
def k_math_bits_Len64_m (N:Nat) (d:Int):Z11:=
 (meet (fun(a:Int×Int)=>match a with|(c,e)=>meet (fun(a:Int×Int)=>match a with|(f,b)=>meet (fun(a:Int×Int)=>match a with|(m,k)=>oB (idx ([0,1,2,2,3,3,3,3,4,4,4,4,4,4,4,4,5,5,5,5,5,5,5,5,5,5,5,5,5,5,5,5,6,6,6,6,6,6,6,6,6,6,6,6,6,6,6,6,6,6,6,6,6,6,6,6,6,6,6,6,6,6,6,6,7,7,7,7,7,7,7,7,7,7,7,7,7,7,7,7,7,7,7,7,7,7,7,7,7,7,7,7,7,7,7,7,7,7,7,7,7,7,7,7,7,7,7,7,7,7,7,7,7,7,7,7,7,7,7,7,7,7,7,7,7,7,7,7,8,8,8,8,8,8,8,8,8,8,8,8,8,8,8,8,8,8,8,8,8,8,8,8,8,8,8,8,8,8,8,8,8,8,8,8,8,8,8,8,8,8,8,8,8,8,8,8,8,8,8,8,8,8,8,8,8,8,8,8,8,8,8,8,8,8,8,8,8,8,8,8,8,8,8,8,8,8,8,8,8,8,8,8,8,8,8,8,8,8,8,8,8,8,8,8,8,8,8,8,8,8,8,8,8,8,8,8,8,8,8,8,8,8,8,8,8,8,8,8,8,8,8,8,8,8,8,8]:List UInt8) (IntKind.u8.wrap m)) fun i=>if fits (k+(IntKind.i64.wrap (i.toNat:Int)))then some (k+(IntKind.i64.wrap (i.toNat:Int)))else none) fun l=>bif decide ((256:Int)<=f)then if 0<=(8:Int)then if fits (b+8)then l ((f.fdiv (2^(min (8:Int).toNat (IntKind.bits .u64)))),(b+8))else none else none else l (f,b)) fun j=>bif decide ((65536:Int)<=c)then if 0<=(16:Int)then if fits (e+16)then j ((c.fdiv (2^(min (16:Int).toNat (IntKind.bits .u64)))),(e+16))else none else none else j (c,e)) fun h=>bif decide ((4294967296:Int)<=d)then if 0<=(32:Int)then h ((d.fdiv (2^(min (32:Int).toNat (IntKind.bits .u64)))),32)else none else h (d,0))
theorem jrK :mK 151 (bX [.pv (.int .u64)] [pI] (c1A (k_math_bits_Len64_m N))):=
 mO ja func151 rfl N (.seq .no (.meet jl0 .no (.meet jl0 .no (.meet jl0 .no .no)))) _
def k_math_bits_Len_m (b:Int):Z11:=
 (oB (k_math_bits_Len64_m N b) fun a=>some a)
theorem jda :mK 111 (bX [.pv (.int .u64)] [pI] (c1A (k_math_bits_Len_m N))):=
 mO (fC (jrK N) ja) func111 rfl N .no _
def k_cmp_isNaN_538_m (N:Nat) (a:Int):Z8:=
 (some (!decide (a=a)))
theorem joK :mK 115 (bX [pI] [pB] (c1A (k_cmp_isNaN_538_m N))):=
 mO ja func115 rfl N .no _
def k_cmp_Compare_992_m (b:Int) (a:Int):Z11:=
 (oB (k_cmp_isNaN_538_m N b) fun d=>oB (k_cmp_isNaN_538_m N a) fun c=>bif d then bif c then some 0 else(some (-1))else bif c then some 1 else bif decide (b<a)then some (-1)else bif decide (a<b)then some 1 else some 0)
theorem jpP :mK 65 (bX [pI,pI] [pI] (c2A (k_cmp_Compare_992_m N))):=
 mO (fC (joK N) ja) func65 rfl N .no _
def i_allAlive_1_m (c:Int) (h:Z12) (e:Z6) (b:Int) (f:Z12) (d:Z6):Z11:=
 (oB (k_cmp_Compare_992_m N c b) fun a=>some a)
theorem jHC :mK 64 (bX [.agg [pI,.pv Y17,.pv Y13],.agg [pI,.pv Y17,.pv Y13]] [pI] (c6A (i_allAlive_1_m N))):=
 mO (fC (jpP N) ja) func64 rfl N .no _
def k_slices_nextPowerOfTwo_m (b:Int):Z11:=
 (oB (k_math_bits_Len_m N (IntKind.u64.wrap b)) fun a=>if 0<=a then some (IntKind.u64.wrap ((1:Int)*2^(min a.toNat (IntKind.bits .u64))))else none)
theorem jhv :mK 174 (bX [pI] [.pv (.int .u64)] (c1A (k_slices_nextPowerOfTwo_m N))):=
 mO (fC (jda N) ja) func174 rfl N .no _
def k__slices_xorshift_Next_m (N:Nat) (a:Int):Option (Int×Int):=
 (if 0<=(13:Int)then if 0<=(7:Int)then if 0<=(17:Int)then some ((bitsI .xor .u64 (bitsI .xor .u64 (bitsI .xor .u64 a (IntKind.u64.wrap (a*2^(min (13:Int).toNat (IntKind.bits .u64))))) ((bitsI .xor .u64 a (IntKind.u64.wrap (a*2^(min (13:Int).toNat (IntKind.bits .u64))))).fdiv (2^(min (7:Int).toNat (IntKind.bits .u64))))) (IntKind.u64.wrap ((bitsI .xor .u64 (bitsI .xor .u64 a (IntKind.u64.wrap (a*2^(min (13:Int).toNat (IntKind.bits .u64))))) ((bitsI .xor .u64 a (IntKind.u64.wrap (a*2^(min (13:Int).toNat (IntKind.bits .u64))))).fdiv (2^(min (7:Int).toNat (IntKind.bits .u64)))))*2^(min (17:Int).toNat (IntKind.bits .u64))))),(bitsI .xor .u64 (bitsI .xor .u64 (bitsI .xor .u64 a (IntKind.u64.wrap (a*2^(min (13:Int).toNat (IntKind.bits .u64))))) ((bitsI .xor .u64 a (IntKind.u64.wrap (a*2^(min (13:Int).toNat (IntKind.bits .u64))))).fdiv (2^(min (7:Int).toNat (IntKind.bits .u64))))) (IntKind.u64.wrap ((bitsI .xor .u64 (bitsI .xor .u64 a (IntKind.u64.wrap (a*2^(min (13:Int).toNat (IntKind.bits .u64))))) ((bitsI .xor .u64 a (IntKind.u64.wrap (a*2^(min (13:Int).toNat (IntKind.bits .u64))))).fdiv (2^(min (7:Int).toNat (IntKind.bits .u64)))))*2^(min (17:Int).toNat (IntKind.bits .u64))))))else none else none else none)
theorem jet :mK 175 ⟨⟨[.box 900000 0],[(900000,false,[.pv (.int .u64)])]⟩,⟨[.pv (.int .u64)],[(900000,false,[.pv (.int .u64)])]⟩,c1A (k__slices_xorshift_Next_m N)⟩:=
 mO ja func175 rfl N .no _ (rs:=[900000])
section
variable {α γ ρ : Type} (c : γ -> α -> α -> Option Int)
def swpG (d:List α) (i j:Int) (k:List α->Option ρ):Option ρ:=
 if 0<=j/\j<(d.length:Int)then oB (d[j.toNat]?) fun e=>if 0<=i/\i<(d.length:Int)then oB (d[i.toNat]?) fun e2=>
  if 0<=i/\i<(d.length:Int)then oB (d[i.toNat]?) fun e3=>if 0<=j/\j<((d.set i.toNat e).length:Int)then oB ((d.set i.toNat e)[j.toNat]?) fun e4=>k ((d.set i.toNat e).set j.toNat e2)
  else none else none else none else none
def cmpG (ks:γ) (d:List α) (i j:Int) (k:Int->Option ρ):Option ρ:=
 if 0<=i/\i<(d.length:Int)then oB (d[i.toNat]?) fun e=>if 0<=j/\j<(d.length:Int)then oB (d[j.toNat]?) fun e2=>oB (c ks e e2) k else none else none
def cmpP (ks:γ) (d:List α) (j:Int) (k:Int->Option ρ):Option ρ:=
 if 0<=j/\j<(d.length:Int)then oB (d[j.toNat]?) fun e=>if fits (j-1)then if 0<=(j-1)/\(j-1)<(d.length:Int)then oB (d[(j-1).toNat]?) fun e2=>oB (c ks e e2) k else none else none else none
def swpP (d:List α) (j:Int) (k:List α->Option ρ):Option ρ:=if fits (j-1)then if fits (j-1)then swpG d j (j-1) k else none else none
def insG (N:Nat) (d:List α) (a b:Int) (ks:γ):Option (List α):=
 if fits (a+1)then iter (fun go (g:List α×Int×Int×γ×Int)=>
  match g with
  |(d2,a2,b2,ks2,i)=>
  bif decide (i<b2)then
   iter (fun go2 (g:List α×Int×Int×γ×Int×Int)=>
    match g with
    |(d3,a3,b3,ks3,i2,j)=>
    bif decide (a3<j)then cmpP c ks3 d3 j fun r=>bif decide (r<0)then swpP d3 j fun d=>if fits (j-1)then go2 (d,a3,b3,ks3,i2,j-1)else none
     else if fits (i2+1)then go (d3,a3,b3,ks3,i2+1)else none
    else if fits (i2+1)then go (d3,a3,b3,ks3,i2+1)else none) N (d2,a2,b2,ks2,i,i)
  else some d2) N (d,a,b,ks,a+1)else none
def siftG (N:Nat) (data:List α) (lo:Int) (hi:Int) (first:Int) (cmp:γ):Option ((List α)):=
 (iter (fun go (g:(List α)×Int×Int×γ×Int)=>
   match g with
   |(data2,hi2,first2,cmp2,root)=>
   (if fits (2*root)then(if fits ((2*root)+1)then(bif(decide (hi2<=((2*root)+1)))then
      (some data2)
      else
      (meet (fun(g:(List α)×Int×Int×γ×Int×Int)=>
        match g with
        |(data3,hi3,first3,cmp3,root2,child)=>
        (if fits (first3+root2)then(if 0<=(first3+root2)/\(first3+root2)<(data3.length:Int)then
          (oB (data3[(first3+root2).toNat]?) fun e3=>
           (if fits (first3+child)then(if 0<=(first3+child)/\(first3+child)<(data3.length:Int)then
             (oB (data3[(first3+child).toNat]?) fun e4=>
              (oB (c cmp3 e3 e4) fun r2=>
               (bif(!(decide (r2<0)))then
                (some data3)
                else
                (if fits (first3+root2)then(if fits (first3+child)then(if fits (first3+child)then(if 0<=(first3+child)/\(first3+child)<(data3.length:Int)then
                    (oB (data3[(first3+child).toNat]?) fun e5=>
                     (if fits (first3+root2)then(if 0<=(first3+root2)/\(first3+root2)<(data3.length:Int)then
                       (oB (data3[(first3+root2).toNat]?) fun e6=>
                        (if 0<=(first3+root2)/\(first3+root2)<(data3.length:Int)then
                         (oB (data3[(first3+root2).toNat]?) fun e7=>
                          (if 0<=(first3+child)/\(first3+child)<((data3.set (first3+root2).toNat e5).length:Int)then
                           (oB ((data3.set (first3+root2).toNat e5)[(first3+child).toNat]?) fun e8=>
                            (go (((data3.set (first3+root2).toNat e5).set (first3+child).toNat e6),hi3,first3,cmp3,child)))
                           else none))
                         else none))
                       else none)else none))
                    else none)else none)else none)else none))))
             else none)else none))
          else none)else none)) fun J=>
       (if fits (((2*root)+1)+1)then(bif(decide ((((2*root)+1)+1)<hi2))then
         (if fits (first2+((2*root)+1))then(if 0<=(first2+((2*root)+1))/\(first2+((2*root)+1))<(data2.length:Int)then
           (oB (data2[(first2+((2*root)+1)).toNat]?) fun e=>
            (if fits (first2+((2*root)+1))then(if fits ((first2+((2*root)+1))+1)then(if 0<=((first2+((2*root)+1))+1)/\((first2+((2*root)+1))+1)<(data2.length:Int)then
               (oB (data2[((first2+((2*root)+1))+1).toNat]?) fun e2=>
                (oB (c cmp2 e e2) fun r=>
                 (bif(decide (r<0))then
                  (if fits (((2*root)+1)+1)then(J (data2,hi2,first2,cmp2,root,(((2*root)+1)+1)))else none)
                  else
                  (J (data2,hi2,first2,cmp2,root,((2*root)+1))))))
               else none)else none)else none))
           else none)else none)
         else
         (J (data2,hi2,first2,cmp2,root,((2*root)+1))))else none)))else none)else none)) N (data,hi,first,cmp,lo))
def heapG (N:Nat) (data:List α) (a:Int) (b:Int) (cmp:γ):Option ((List α)):=
 (if fits (b-a)then(if fits ((b-a)-1)then(if 2≠0 then
    (if fits (((b-a)-1).tdiv 2)then(iter (fun go (g:(List α)×γ×Int×Int×Int×Int)=>
       match g with
       |(data2,cmp2,first,lo,hi,i)=>
       (bif(decide ((0:Int)<=i))then
        (oB (siftG c N data2 i hi first cmp2) fun r=>
         (if fits (i-1)then(go (r,cmp2,first,lo,hi,(i-1)))else none))
        else
        (if fits (hi-1)then(iter (fun go2 (g:(List α)×γ×Int×Int×Int)=>
           match g with
           |(data3,cmp3,first2,lo2,i2)=>
           (bif(decide ((0:Int)<=i2))then
            (if fits (first2+i2)then(if fits (first2+i2)then swpG data3 first2 (first2+i2) fun d=>(oB (siftG c N d lo2 i2 first2 cmp3) fun r2=>
                       (if fits (i2-1)then(go2 (r2,cmp3,first2,lo2,(i2-1)))else none))else none)else none)
            else
            (some data3))) N (data2,cmp2,first,lo,(hi-1)))else none))) N (data,cmp,a,0,(b-a),(((b-a)-1).tdiv 2)))else none)
    else none)else none)else none)
def breakG (N:Nat) (data:List α) (a:Int) (b:Int) (cmp:γ):Option (List α):=
 (if fits (b-a)then(bif(decide ((8:Int)<=(b-a)))then
   (oB (k_slices_nextPowerOfTwo_m N (b-a)) fun r=>
    (if 4≠0 then
     (if fits ((b-a).tdiv 4)then(if fits (((b-a).tdiv 4)*2)then(if fits (a+(((b-a).tdiv 4)*2))then(if fits ((a+(((b-a).tdiv 4)*2))-1)then(iter (fun go (g:(List α)×Int×Int×Int×Int×Int)=>
           match g with
           |(data2,a2,length,modulus,idx0,random)=>
           (if 4≠0 then
            (if fits (length.tdiv 4)then(if fits ((length.tdiv 4)*2)then(if fits (a2+((length.tdiv 4)*2))then(if fits ((a2+((length.tdiv 4)*2))+1)then(bif(decide (idx0<=((a2+((length.tdiv 4)*2))+1)))then
                 (oB (k__slices_xorshift_Next_m N random) fun r2=>
                  (meet (fun(g:(List α)×Int×Int×Int×Int×Int×Int)=>
                    match g with
                    |(data3,a3,length2,modulus2,idx02,other,random2)=>
                    (if fits (a3+other)then(if fits (a3+other)then swpG data3 idx02 (a3+other) fun d=>(if fits (idx02+1)then(go (d,a3,length2,modulus2,(idx02+1),random2))else none)else none)else none)) fun J=>
                   (bif(decide (length<=(IntKind.i64.wrap (bitsI .and .u64 r2.1 (IntKind.u64.wrap (modulus-1))))))then
                    (if fits ((IntKind.i64.wrap (bitsI .and .u64 r2.1 (IntKind.u64.wrap (modulus-1))))-length)then(J (data2,a2,length,modulus,idx0,((IntKind.i64.wrap (bitsI .and .u64 r2.1 (IntKind.u64.wrap (modulus-1))))-length),r2.2))else none)
                    else
                    (J (data2,a2,length,modulus,idx0,(IntKind.i64.wrap (bitsI .and .u64 r2.1 (IntKind.u64.wrap (modulus-1)))),r2.2)))))
                 else
                 (some data2))else none)else none)else none)else none)
            else none)) N (data,a,(b-a),r,((a+(((b-a).tdiv 4)*2))-1),(IntKind.u64.wrap (b-a))))else none)else none)else none)else none)
     else none))
   else
   (some data))else none)
def order2G (N:Nat) (data:List α) (a:Int) (b:Int) (cmp:γ) (b2:Int):Option (Int×Int×(List α)×Int):=
 cmpG c cmp data b a fun r=>(bif(decide (r<0))then(if fits (b2+1)then(some (b,a,data,(b2+1)))else none)else(some (a,b,data,b2)))
def medianG (N:Nat) (data:List α) (a:Int) (b:Int) (c0:Int) (cmp:γ) (b2:Int):Option (Int×(List α)×Int):=
 (oB (order2G c N data a b cmp b2) fun r=>
  (oB (order2G c N r.2.2.1 r.2.1 c0 cmp r.2.2.2) fun r2=>
   (oB (order2G c N r2.2.2.1 r.1 r2.1 cmp r2.2.2.2) fun r3=>
    (some (r3.2.1,r3.2.2.1,r3.2.2.2)))))
def medianAdjacentG (N:Nat) (data:List α) (a:Int) (cmp:γ) (b:Int):Option (Int×(List α)×Int):=
 (if fits (a-1)then(if fits (a+1)then(oB (medianG c N data (a-1) a (a+1) cmp b) fun r=>
    (some (r.1,r.2.1,r.2.2)))else none)else none)
def choosePivotG (N:Nat) (data:List α) (a:Int) (b:Int) (cmp:γ):Option (Int×Int×(List α)):=
 (if fits (b-a)then(if 4≠0 then
   (if fits ((b-a).tdiv 4)then(if fits (((b-a).tdiv 4)*1)then(if fits (a+(((b-a).tdiv 4)*1))then(if 4≠0 then
       (if fits ((b-a).tdiv 4)then(if fits (((b-a).tdiv 4)*2)then(if fits (a+(((b-a).tdiv 4)*2))then(if 4≠0 then
           (if fits ((b-a).tdiv 4)then(if fits (((b-a).tdiv 4)*3)then(if fits (a+(((b-a).tdiv 4)*3))then(meet (fun(g:(List α)×Int×Int)=>
                match g with
                |(data3,j2,swaps2)=>
                (bif(decide (swaps2=0))then
                 (some (j2,1,data3))
                 else
                 (bif(decide (swaps2=12))then
                  (some (j2,2,data3))
                  else
                  (some (j2,0,data3))))) fun J=>
               (bif(decide ((8:Int)<=(b-a)))then
                (meet (fun(g:(List α)×γ×Int×Int×Int×Int)=>
                  match g with
                  |(data2,cmp2,i,j,k,swaps)=>
                  (oB (medianG c N data2 i j k cmp2 swaps) fun r4=>
                   (J (r4.2.1,r4.1,r4.2.2)))) fun J2=>
                 (bif(decide ((50:Int)<=(b-a)))then
                  (oB (medianAdjacentG c N data (a+(((b-a).tdiv 4)*1)) cmp 0) fun r=>
                   (oB (medianAdjacentG c N r.2.1 (a+(((b-a).tdiv 4)*2)) cmp r.2.2) fun r2=>
                    (oB (medianAdjacentG c N r2.2.1 (a+(((b-a).tdiv 4)*3)) cmp r2.2.2) fun r3=>
                     (J2 (r3.2.1,cmp,r.1,r2.1,r3.1,r3.2.2)))))
                  else
                  (J2 (data,cmp,(a+(((b-a).tdiv 4)*1)),(a+(((b-a).tdiv 4)*2)),(a+(((b-a).tdiv 4)*3)),0))))
                else
                (J (data,(a+(((b-a).tdiv 4)*2)),0))))else none)else none)else none)
           else none)else none)else none)else none)
       else none)else none)else none)else none)
   else none)else none)
def reverseRangeG (N:Nat) (data:List α) (a:Int) (b:Int) (cmp:γ):Option ((List α)):=
 (if fits (b-1)then(iter (fun go (g:(List α)×Int×Int)=>
    match g with
    |(data2,i,j)=>
    (bif(decide (i<j))then swpG data2 i j fun d=>(if fits (i+1)then(if fits (j-1)then(go (d,(i+1),(j-1)))else none)else none)
     else
     (some data2))) N (data,a,(b-1)))else none)
def shDown (k:(List α×Int×Int×γ×Int×Int)->Option ρ) (N:Nat) (g:List α×Int×Int×γ×Int×Int×Int):Option ρ:=
 iter (fun go3 (g:(List α)×Int×Int×γ×Int×Int×Int)=>
  match g with
  |(d,a,b,ks,i,j,j4)=>
  bif decide ((1:Int)<=j4)then cmpP c ks d j4 fun r=>bif !decide (r<0)then k (d,a,b,ks,i,j)else swpP d j4 fun d'=>if fits (j4-1)then go3 (d',a,b,ks,i,j,j4-1)else none
  else k (d,a,b,ks,i,j)) N g
def shUp (k:(List α×Int×Int×γ×Int×Int)->Option ρ) (N:Nat) (g:List α×Int×Int×γ×Int×Int×Int):Option ρ:=
 iter (fun go4 (g:(List α)×Int×Int×γ×Int×Int×Int)=>
  match g with
  |(d,a,b,ks,i,j,j4)=>
  bif decide (j4<b)then cmpP c ks d j4 fun r=>bif !decide (r<0)then(if fits (j+1)then k (d,a,b,ks,i,j+1)else none)else swpP d j4 fun d'=>if fits (j4+1)then go4 (d',a,b,ks,i,j,j4+1)else none
  else if fits (j+1)then k (d,a,b,ks,i,j+1)else none) N g
def pisX (N:Nat) (go:(List α×Int×Int×γ×Int×Int)->Option (Bool×List α)) (d:List α) (a b:Int) (ks:γ) (i j:Int):Option (Bool×List α):=
 bif decide (i=b)then some (true,d)else if fits (b-a)then bif decide ((b-a)<50)then some (false,d)else
  swpP d i fun d'=>meet (fun(g:List α×Int×Int×γ×Int×Int)=>
   match g with
   |(d5,a5,b5,ks5,i4,j5)=>
   if fits (b5-i4)then bif decide ((2:Int)<=(b5-i4))then if fits (i4+1)then shUp c go N (d5,a5,b5,ks5,i4,j5,i4+1)else none
    else(if fits (j5+1)then go (d5,a5,b5,ks5,i4,j5+1)else none)else none) fun J=>
   if fits (i-a)then bif decide ((2:Int)<=(i-a))then if fits (i-1)then shDown c J N (d',a,b,ks,i,j,i-1)else none else J (d',a,b,ks,i,j)else none
 else none
def pisG (N:Nat) (d:List α) (a b:Int) (ks:γ):Option (Bool×List α):=
 if fits (a+1)then iter (fun go (g:List α×Int×Int×γ×Int×Int)=>
  match g with
  |(d2,a2,b2,ks2,i,j)=>
  bif decide (j<5)then
   iter (fun go2 (g:List α×Int×Int×γ×Int×Int)=>
    match g with
    |(d3,a3,b3,ks3,i2,j2)=>
    bif decide (i2<b3)then cmpP c ks3 d3 i2 fun r=>bif !decide (r<0)then(if fits (i2+1)then go2 (d3,a3,b3,ks3,i2+1,j2)else none)else pisX c N go d3 a3 b3 ks3 i2 j2
    else pisX c N go d3 a3 b3 ks3 i2 j2) N (d2,a2,b2,ks2,i,j)
  else some (false,d2)) N (d,a,b,ks,a+1,0)else none
def partE (go3:(List α×Int×γ×Int×Int)->Option (Int×Bool×List α)) (fl:Bool) (g:List α×Int×γ×Int×Int):Option (Int×Bool×List α):=
 match g with
 |(d,a,ks,i,j)=>
 bif decide (j<i)then swpG d j a fun d'=>some (j,fl,d')else swpG d i j fun d'=>if fits (i+1)then if fits (j-1)then go3 (d',a,ks,i+1,j-1)else none else none
def partD (k:(List α×Int×γ×Int×Int)->Option ρ) (N:Nat) (g:List α×Int×γ×Int×Int):Option ρ:=
 iter (fun go (g:List α×Int×γ×Int×Int)=>
  match g with
  |(d,a,ks,i,j)=>
  bif decide (i<=j)then cmpG c ks d j a fun r=>bif !decide (r<0)then(if fits (j-1)then go (d,a,ks,i,j-1)else none)else k (d,a,ks,i,j)
  else k (d,a,ks,i,j)) N g
def partU (k:(List α×Int×γ×Int×Int)->Option ρ) (N:Nat) (g:List α×Int×γ×Int×Int):Option ρ:=
 iter (fun go (g:List α×Int×γ×Int×Int)=>
  match g with
  |(d,a,ks,i,j)=>
  bif decide (i<=j)then cmpG c ks d i a fun r=>bif decide (r<0)then(if fits (i+1)then go (d,a,ks,i+1,j)else none)else k (d,a,ks,i,j)
  else k (d,a,ks,i,j)) N g
def partG (N:Nat) (d:List α) (a b p:Int) (ks:γ):Option (Int×Bool×List α):=
 swpG d a p fun d=>if fits (a+1)then if fits (b-1)then
  partU c (fun g=>partD c (partE (fun g=>iter (fun go3 g=>partU c (fun g=>partD c (partE go3 false) N g) N g) N g) true) N g) N (d,a,ks,a+1,b-1)
 else none else none
def peqE (go:(List α×Int×γ×Int×Int)->Option (Int×List α)) (g:List α×Int×γ×Int×Int):Option (Int×List α):=
 match g with
 |(d,a,ks,i,j)=>
 bif decide (j<i)then some (i,d)else swpG d i j fun d'=>if fits (i+1)then if fits (j-1)then go (d',a,ks,i+1,j-1)else none else none
def peqD (k:(List α×Int×γ×Int×Int)->Option ρ) (N:Nat) (g:List α×Int×γ×Int×Int):Option ρ:=
 iter (fun go (g:List α×Int×γ×Int×Int)=>
  match g with
  |(d,a,ks,i,j)=>
  bif decide (i<=j)then cmpG c ks d a j fun r=>bif decide (r<0)then(if fits (j-1)then go (d,a,ks,i,j-1)else none)else k (d,a,ks,i,j)
  else k (d,a,ks,i,j)) N g
def peqU (k:(List α×Int×γ×Int×Int)->Option ρ) (N:Nat) (g:List α×Int×γ×Int×Int):Option ρ:=
 iter (fun go (g:List α×Int×γ×Int×Int)=>
  match g with
  |(d,a,ks,i,j)=>
  bif decide (i<=j)then cmpG c ks d a i fun r=>bif !decide (r<0)then(if fits (i+1)then go (d,a,ks,i+1,j)else none)else k (d,a,ks,i,j)
  else k (d,a,ks,i,j)) N g
def peqG (N:Nat) (d:List α) (a b p:Int) (ks:γ):Option (Int×List α):=
 swpG d a p fun d=>if fits (a+1)then if fits (b-1)then iter (fun go g=>peqU c (fun g=>peqD c (peqE go) N g) N g) N (d,a,ks,a+1,b-1)else none else none
def pdqG (hs:List α->Int->Int->γ->Option (List α)) (pe:List α->Int->Int->Int->γ->Option (Int×List α)) (N:Nat):(D:Nat)->(List α)->Int->Int->Int->γ->Option ((List α))
 |0,_,_,_,_,_=>none
 |D+1,data,a,b,limit,cmp=>
 (iter (fun go (g:(List α)×Int×Int×Int×γ×Bool×Bool)=>
   match g with
   |(data2,a2,b2,limit2,cmp2,wasBalanced,wasPartitioned)=>
   (if fits (b2-a2)then(bif(decide ((b2-a2)<=12))then
     (oB (insG c N data2 a2 b2 cmp2) fun r=>
      (some r))
     else
     (bif(decide (limit2=0))then
      (oB (hs data2 a2 b2 cmp2) fun r2=>
       (some r2))
      else
      (meet (fun(g:(List α)×Int×Int×Int×γ×Bool×Bool×Int)=>
        match g with
        |(data3,a3,b3,limit3,cmp3,wasBalanced2,wasPartitioned2,length)=>
        (oB (choosePivotG c N data3 a3 b3 cmp3) fun r4=>
         (meet (fun(g:(List α)×Int×Int×Int×γ×Bool×Bool×Int×Int×Int)=>
           match g with
           |(data4,a4,b4,limit4,cmp4,wasBalanced3,wasPartitioned3,length2,pivot,hint)=>
           (meet (fun(g:(List α)×Int×Int×Int×γ×Bool×Bool×Int×Int)=>
             match g with
             |(data5,a5,b5,limit5,cmp5,wasBalanced4,wasPartitioned4,length3,pivot2)=>
             (bif(decide ((0:Int)<a5))then
              (if fits (a5-1)then(if 0<=(a5-1)/\(a5-1)<(data5.length:Int)then
                (oB (data5[(a5-1).toNat]?) fun e=>
                 (if 0<=pivot2/\pivot2<(data5.length:Int)then
                  (oB (data5[pivot2.toNat]?) fun e2=>
                   (oB (c cmp5 e e2) fun r7=>
                    (bif(!(decide (r7<0)))then
                     (oB (pe data5 a5 b5 pivot2 cmp5) fun r8=>
                      (go (r8.2,r8.1,b5,limit5,cmp5,wasBalanced4,wasPartitioned4)))
                     else
                     (oB (partG c N data5 a5 b5 pivot2 cmp5) fun r9=>
                      (if fits (r9.1-a5)then(if fits (b5-r9.1)then(if 8≠0 then
                         (if fits (length3.tdiv 8)then(bif(decide ((r9.1-a5)<(b5-r9.1)))then
                           (oB (pdqG hs pe N D r9.2.2 a5 r9.1 limit5 cmp5) fun r10=>
                            (if fits (r9.1+1)then(go (r10,(r9.1+1),b5,limit5,cmp5,(decide ((length3.tdiv 8)<=(r9.1-a5))),r9.2.1))else none))
                           else
                           (if fits (r9.1+1)then(oB (pdqG hs pe N D r9.2.2 (r9.1+1) b5 limit5 cmp5) fun r11=>
                             (go (r11,a5,r9.1,limit5,cmp5,(decide ((length3.tdiv 8)<=(b5-r9.1))),r9.2.1)))else none))else none)
                         else none)else none)else none)))))
                  else none))
                else none)else none)
              else
              (oB (partG c N data5 a5 b5 pivot2 cmp5) fun r12=>
               (if fits (r12.1-a5)then(if fits (b5-r12.1)then(if 8≠0 then
                  (if fits (length3.tdiv 8)then(bif(decide ((r12.1-a5)<(b5-r12.1)))then
                    (oB (pdqG hs pe N D r12.2.2 a5 r12.1 limit5 cmp5) fun r13=>
                     (if fits (r12.1+1)then(go (r13,(r12.1+1),b5,limit5,cmp5,(decide ((length3.tdiv 8)<=(r12.1-a5))),r12.2.1))else none))
                    else
                    (if fits (r12.1+1)then(oB (pdqG hs pe N D r12.2.2 (r12.1+1) b5 limit5 cmp5) fun r14=>
                      (go (r14,a5,r12.1,limit5,cmp5,(decide ((length3.tdiv 8)<=(b5-r12.1))),r12.2.1)))else none))else none)
                  else none)else none)else none)))) fun J3=>
            (bif wasBalanced3 then
             (bif wasPartitioned3 then
              (bif(decide (hint=1))then
               (oB (pisG c N data4 a4 b4 cmp4) fun r6=>
                (bif r6.1 then
                 (some r6.2)
                 else
                 (J3 (r6.2,a4,b4,limit4,cmp4,wasBalanced3,wasPartitioned3,length2,pivot))))
               else
               (J3 (data4,a4,b4,limit4,cmp4,wasBalanced3,wasPartitioned3,length2,pivot)))
              else
              (J3 (data4,a4,b4,limit4,cmp4,wasBalanced3,wasPartitioned3,length2,pivot)))
             else
             (J3 (data4,a4,b4,limit4,cmp4,wasBalanced3,wasPartitioned3,length2,pivot))))) fun J2=>
          (bif(decide (r4.2.1=2))then
           (oB (reverseRangeG N r4.2.2 a3 b3 cmp3) fun r5=>
            (if fits (b3-1)then(if fits (r4.1-a3)then(if fits ((b3-1)-(r4.1-a3))then(J2 (r5,a3,b3,limit3,cmp3,wasBalanced2,wasPartitioned2,length,((b3-1)-(r4.1-a3)),1))else none)else none)else none))
           else
           (J2 (r4.2.2,a3,b3,limit3,cmp3,wasBalanced2,wasPartitioned2,length,r4.1,r4.2.1)))))) fun J=>
       (bif(!wasBalanced)then
        (oB (breakG N data2 a2 b2 cmp2) fun r3=>
         (if fits (limit2-1)then(J (r3,a2,b2,(limit2-1),cmp2,wasBalanced,wasPartitioned,(b2-a2)))else none))
        else
        (J (data2,a2,b2,limit2,cmp2,wasBalanced,wasPartitioned,(b2-a2)))))))else none)) N (data,a,b,limit,cmp,true,true))
end
def cmp669 (N:Nat):(Unit)->Z0->Z0->Option Int:=(fun(cmp:Unit) (e e2:Int×Z13×Z7)=>i_allAlive_1_m N e.1 e.2.1 e.2.2 e2.1 e2.2.1 e2.2.2)
def jIw :Sh:=⟨.mtk 800000 Y4 77 false::pI::pI:: .clo 64 []::dz 4 (pI::dz 44 []),[]⟩
def jJn :Sh:=⟨.mtk 800000 Y4 77 false::pI::pI:: .clo 64 []::dz 4 (pI::pI::dz 43 []),[]⟩
def jJk (b:List Z0) (a:Int) (c:Int) (d:Unit):Z14:=insG (cmp669 N) N b a c d
 
theorem jIC :mK 153 (bX [.mtk 800000 Y4 77 false,pI,pI,.clo 64 []] [.tup [],.mtk 800000 Y4 77 false] (c4A (jJk N))):=
 mO (fC (jHC N) ja) func153 rfl N (.seq .no (.block (.loop jIw (.seq .no (.seq (.block (.seq .no (.block (.loop jJn .no)))) .no))))) _ (rs:=[800000])
def jI7 :Sh:=⟨.mtk 800000 Y4 77 false:: .dead::pI::pI:: .clo 64 []::dz 5 (pI::dz 71 []),[]⟩
def jJE :Sh:=⟨.mtk 800000 Y4 77 false:: .dead::pI::pI:: .clo 64 []::dz 5 (pI::pI::dz 70 []),[]⟩
def jJr (b:List Z0) (a:Int) (e:Int) (c:Int) (d:Unit):Z14:=siftG (cmp669 N) N b a e c d
 
theorem jIA :mK 178 (bX [.mtk 800000 Y4 77 false,pI,pI,pI,.clo 64 []] [.tup [],.mtk 800000 Y4 77 false] (c5A (jJr N))):=
 mO (fC (jHC N) ja) func178 rfl N (.seq .no (.block (.loop jI7 (.block (.seq .no (.seq .no (.meet jJE .no .no))))))) _ (rs:=[800000])
def jH9 :Sh:=⟨.mtk 800000 Y4 77 false:: .dead:: .dead:: .clo 64 []::dz 4 (pI::pI::pI::pI::dz 48 []),[]⟩
def jIK :Sh:=⟨.mtk 800000 Y4 77 false:: .dead:: .dead:: .clo 64 []::dz 4 (pI::pI:: .dead:: .dead::pI::dz 47 []),[]⟩
def jIj (b:List Z0) (a:Int) (c:Int) (d:Unit):Z14:=heapG (cmp669 N) N b a c d
 
theorem jJa :mK 154 (bX [.mtk 800000 Y4 77 false,pI,pI,.clo 64 []] [.tup [],.mtk 800000 Y4 77 false] (c4A (jIj N))):=
 mO (fC (jIA N) ja) func154 rfl N (.seq .no (.seq .no (.seq .no (.seq (.seq .no (.block (.loop jH9 .no))) (.seq .no (.block (.loop jIK .no))))))) _ (rs:=[800000])
def jH6 :Sh:=⟨.mtk 800000 Y4 77 false::pI::dz 6 (pI:: .box 9 0:: .pv (.int .u64)::pI::dz 55 []),[(9,false,[.pv (.int .u64)])]⟩
def jJm :Sh:=⟨.mtk 800000 Y4 77 false::pI::dz 6 (pI:: .box 9 0:: .pv (.int .u64)::pI::pI::dz 54 []),[(9,false,[.pv (.int .u64)])]⟩
def jI4 (b:List Z0) (a:Int) (c:Int) (d:Unit):Z14:=breakG N b a c d
 
theorem jIs :mK 155 (bX [.mtk 800000 Y4 77 false,pI,pI,.clo 64 []] [.tup [],.mtk 800000 Y4 77 false] (c4A (jI4 N))):=
 mO (fC (jhv N) (fC (jet N) ja)) func155 rfl N (.seq .no (.seq .no (.cond (.seq .no (.seq .no (.seq .no (.block (.loop jH6 (.seq .no (.seq (.block (.seq .no (.meet jJm .no .no))) .no))))))) .no))) _ (rs:=[800000])
def jJC (b:List Z0) (a:Int) (d:Int) (e:Unit) (c:Int):Option (Int×Int×(List Z0)×Int):=order2G (cmp669 N) N b a d e c
 
theorem jIo :mK 191 ⟨⟨[.mtk 800000 Y4 77 false,pI,pI,.box 900003 0,.clo 64 []],[(900003,false,[pI])]⟩,⟨[.tup [pI,pI],.mtk 800000 Y4 77 false],[(900003,false,[pI])]⟩,c5A (jJC N)⟩:=
 mO (fC (jHC N) ja) func191 rfl N .no _ (rs:=[900003,800000])
def jII (c:List Z0) (a:Int) (e:Int) (b:Int) (f:Unit) (d:Int):Option (Int×(List Z0)×Int):=medianG (cmp669 N) N c a e b f d
 
theorem jHQ :mK 180 ⟨⟨[.mtk 800000 Y4 77 false,pI,pI,pI,.box 900004 0,.clo 64 []],[(900004,false,[pI])]⟩,⟨[pI,.mtk 800000 Y4 77 false],[(900004,false,[pI])]⟩,c6A (jII N)⟩:=
 mO (fC (jIo N) ja) func180 rfl N .no _ (rs:=[900004,800000])
def jIn (b:List Z0) (a:Int) (d:Unit) (c:Int):Option (Int×(List Z0)×Int):=medianAdjacentG (cmp669 N) N b a d c
 
theorem jI9 :mK 179 ⟨⟨[.mtk 800000 Y4 77 false,pI,.box 900002 0,.clo 64 []],[(900002,false,[pI])]⟩,⟨[pI,.mtk 800000 Y4 77 false],[(900002,false,[pI])]⟩,c4A (jIn N)⟩:=
 mO (fC (jHQ N) ja) func179 rfl N .no _ (rs:=[900002,800000])
def jJw :Sh:=⟨.mtk 800000 Y4 77 false:: .dead:: .dead:: .clo 64 []::dz 7 (.box 11 0::pI::pI::pI::dz 48 []),[(11,false,[pI])]⟩
def jI6 :Sh:=⟨.mtk 800000 Y4 77 false::dz 10 (.box 11 0:: .dead::pI::dz 49 []),[(11,false,[pI])]⟩
def jIq (b:List Z0) (a:Int) (c:Int) (d:Unit):Option (Int×Int×(List Z0)):=choosePivotG (cmp669 N) N b a c d
 
theorem jJz :mK 156 (bX [.mtk 800000 Y4 77 false,pI,pI,.clo 64 []] [.tup [pI,pI],.mtk 800000 Y4 77 false] (c4A (jIq N))):=
 mO (fC (jI9 N) (fC (jHQ N) ja)) func156 rfl N (.seq .no (.seq .no (.seq .no (.seq .no (.seq .no (.seq .no (.meet jI6 (.seq .no (.cond (.meet jJw .no .no) .no)) .no))))))) _ (rs:=[800000])
def jJB :Sh:=⟨.mtk 800000 Y4 77 false::dz 7 (pI::pI::dz 24 []),[]⟩
def jJs (b:List Z0) (a:Int) (c:Int) (d:Unit):Z14:=reverseRangeG N b a c d
 
theorem jIk :mK 157 (bX [.mtk 800000 Y4 77 false,pI,pI,.clo 64 []] [.tup [],.mtk 800000 Y4 77 false] (c4A (jJs N))):=
 mO ja func157 rfl N (.seq .no (.seq .no (.block (.loop jJB .no)))) _ (rs:=[800000])
def jHL :Sh:=⟨.mtk 800000 Y4 77 false::pI::pI:: .clo 64 []::dz 5 (pI::pI::dz 130 []),[]⟩
def jJh :Sh:=⟨.mtk 800000 Y4 77 false::pI::pI:: .clo 64 []::dz 5 (pI::pI::pI::dz 129 []),[]⟩
def jIF :Sh:=⟨.mtk 800000 Y4 77 false::pI::pI:: .clo 64 []::dz 5 (pI::pI:: .dead::pI::dz 128 []),[]⟩
def jIx (b:List Z0) (a:Int) (c:Int) (d:Unit):Option (Bool×(List Z0)):=pisG (cmp669 N) N b a c d
 
theorem jI1 :mK 158 (bX [.mtk 800000 Y4 77 false,pI,pI,.clo 64 []] [pB,.mtk 800000 Y4 77 false] (c4A (jIx N))):=
 mO (fC (jHC N) ja) func158 rfl N (.seq .no (.seq .no (.seq (.seq .no (.block (.loop jHL (.seq .no (.seq (.block (.seq (.block (.loop jHL .no)) (.seq .no (.seq .no (.seq .no (.meet jHL (.seq .no (.cond (.seq .no (.block (.loop jJh .no))) .no)) (.seq .no (.cond (.seq .no (.block (.loop jIF .no))) .no)))))))) .no))))) .no))) _ (rs:=[800000])
def jHK :Sh:=⟨.mtk 800000 Y4 77 false::pI:: .dead:: .dead:: .clo 64 []::dz 6 (pI::pI::dz 77 []),[]⟩
def jIh (c:List Z0) (b:Int) (d:Int) (a:Int) (e:Unit):Option (Int×(List Z0)):=peqG (cmp669 N) N c b d a e
 
theorem jH7 :mK 159 (bX [.mtk 800000 Y4 77 false,pI,pI,pI,.clo 64 []] [pI,.mtk 800000 Y4 77 false] (c5A (jIh N))):=
 mO (fC (jHC N) ja) func159 rfl N (.seq .no (.seq .no (.seq .no (.seq (.block (.loop jHK (.block (.seq (.block (.loop jHK .no)) (.seq (.block (.loop jHK .no)) .no))))) .no)))) _ (rs:=[800000])
def jHD :Sh:=⟨.mtk 800000 Y4 77 false::pI:: .dead:: .dead:: .clo 64 []::dz 7 (pI::pI::dz 164 []),[]⟩
def jIZ (c:List Z0) (b:Int) (d:Int) (a:Int) (e:Unit):Option (Int×Bool×(List Z0)):=partG (cmp669 N) N c b d a e
 
theorem jJc :mK 160 (bX [.mtk 800000 Y4 77 false,pI,pI,pI,.clo 64 []] [.tup [pI,pB],.mtk 800000 Y4 77 false] (c5A (jIZ N))):=
 mO (fC (jHC N) ja) func160 rfl N (.seq .no (.seq .no (.seq .no (.seq (.block (.loop jHD .no)) (.seq (.block (.loop jHD .no)) (.seq .no (.seq .no (.seq .no (.seq .no (.seq (.block (.loop jHD (.block (.seq (.block (.loop jHD .no)) (.seq (.block (.loop jHD .no)) .no))))) .no)))))))))) _ (rs:=[800000])
def jIv :Sh:=⟨.mtk 800000 Y4 77 false::pI::pI::pI:: .clo 64 []::dz 5 (pB::pB::dz 136 []),[]⟩
def jIt :Sh:=⟨.mtk 800000 Y4 77 false::pI::pI::pI:: .clo 64 []::dz 5 (pB::pB::pI::pI::dz 134 []),[]⟩
def jIU :Sh:=⟨.mtk 800000 Y4 77 false::pI::pI::pI:: .clo 64 []::dz 5 (pB::pB::pI::pI::pI::dz 133 []),[]⟩
def jID :Sh:=⟨.mtk 800000 Y4 77 false::pI::pI::pI:: .clo 64 []::dz 5 (pB::pB::pI::dz 135 []),[]⟩
def jHN (N D:Nat) (f:List Z0) (b a limit:Int) (h:Unit):Z14:=pdqG (cmp669 N) (fun c b a d=>heapG (cmp669 N) N c b a d) (fun c b a e d=>peqG (cmp669 N) N c b a e d) N D f b a limit h
 
def jHF (N D:Nat):Model:=⟨⟨[.mtk 800000 Y4 77 false,pI,pI,pI,.clo 64 []],[]⟩,⟨[.tup [],.mtk 800000 Y4 77 false],[]⟩,c5A (jHN N D)⟩
theorem jJo (N D:Nat) (ih:mK 114 (jHF N D)):mK 114 (jHF N (D+1)):=
 mO (fC ih (fC (jIC N) (fC (jJa N) (fC (jIs N) (fC (jJz N) (fC (jIk N) (fC (jI1 N) (fC (jHC N) (fC (jH7 N) (fC (jJc N) ja)))))))))) func114 rfl N (.seq .no (.seq .no (.block (.loop jIv (.block (.seq .no (.seq .no (.seq .no (.meet jID .no (.seq .no (.meet jIU .no (.meet jIt .no .no)))))))))))) (jHF N (D+1)) (rs:=[800000])
theorem jHV (N:Nat):∀D,mK 114 (jHF N D)
 |0=>modelOk_none ⟨_,func114,by decide,by kernel_rfl⟩ _ (fun a=>rfl)
 |D+1=>jJo N D (jHV N D)
def k_slices_SortFunc_669_m (a:List Z0) (d:Unit):Z14:=
 (oB (k_math_bits_Len_m N (IntKind.u64.wrap (a.length:Int))) fun b=>oB (jHN N N a 0 (a.length:Int) b ()) fun c=>some c)
theorem jIu :mK 63 (bX [.mtk 800000 Y4 77 false,.clo 64 []] [.tup [],.mtk 800000 Y4 77 false] (c2A (k_slices_SortFunc_669_m N))):=
 mO (fC (jda N) (fC (jHV N N) ja)) func63 rfl N .no _ (rs:=[800000])
def jH5 :Sh:=⟨dz 3 (.mtk 600003 Y4 77 false::dz 3 (.pv Y0::pI::pI::dz 11 [])),[]⟩
def i_allAlive_m (f:List Z3):Z14:=
 (iter (fun i (c,e,h,a)=>bif decide (a<h)then oB (idx e a) fun b=>(oB (i_Live_alive_m N b.1.1 b.1.2 b.2) fun d=>if room c.length d.length 56 then if fits (a+1)then i ((c++d),e,h,(a+1))else none else none)else oB (k_slices_SortFunc_669_m N c ()) fun j=>some j) N (([]:List Z0),f,(f.length:Int),(0:Int)))
theorem jHR :mK 24 (bX [.pv Y0] [.own 1 Y4 77 false] (c1A (i_allAlive_m N))):=
 mO (fC (jH4 N) (fC (jIu N) ja)) func24 rfl N (.seq .no (.seq .no (.seq (.seq .no (.block (.loop jH5 .no))) .no))) _ (wr:=[6,16])
def jIf :Sh:=⟨.dead:: .box 1 0::dz 14 (.pv Y0::pI::pI::dz 13 []),[(1,false,[.pv (.sl .str),.pv Y14,.pv Y0])]⟩
noncomputable def i_IndexOk_m (e:List Z2) (d:List Z4) (b:List Z3):Z8:=
 (oB (jaj N e d) fun n=>bif !n then some false else bif decide ((5:Int)<b.length)then some false else iter (fun m (k,f,a,j,h,i)=>bif decide (a<f)then oB (idx k a) fun c=>(oB (i_liveOk_m N j h c.1.1 c.1.2 c.2) fun o=>bif !o then some false else if fits (a+1)then m (k,f,(a+1),j,h,i)else none)else oB (i_allAlive_m N i) fun l=>oB (jbf N l) fun q=>some q) N (b,(b.length:Int),(0:Int),e,d,b))
theorem jIr :mK 20 (bX [.agg [.pv (.sl .str),.pv Y14,.pv Y0]] [pB] (c3A (i_IndexOk_m N))):=
 mO (fC (jdX N) (fC (jJD N) (fC (jHR N) (fC (jjU N) ja)))) func20 rfl N (.seq .no (.seq .no (.seq (.seq .no (.block (.loop jIf .no))) .no))) _
def jM7 :Sh:=⟨.dead:: .dead:: .box 2 0:: .box 3 0::dz 9 (.pv Y14::pI::pI::dz 17 []),[(2,false,[.nils,.nils]),(3,false,[.own 700300 .str 9 true,.own 700301 Y16 126 true])]⟩
def i_cloneConf_m (d:List Z2) (f:List Z4):Option ((List Z2)×(List Z4)):=
 (if room ([]:List Z2).length d.length 16 then iter (fun j (h,i,b,e,c)=>bif decide (b<i)then oB (idx h b) fun a=>(if room ([]:List Z2).length a.1.length 16 then if room c.length ([((([]:List Z2)++a.1),a.2)]:List Z4).length 40 then if fits (b+1)then j (h,i,(b+1),e,(c++([((([]:List Z2)++a.1),a.2)]:List Z4)))else none else none else none)else some (e,c)) N (f,(f.length:Int),(0:Int),(([]:List Z2)++d),([]:List Z4))else none)
theorem jLo :mK 53 (bX [.agg [.pv (.sl .str),.pv Y14]] [.agg [.own 1 .str 9 true,.own 2 Y16 126 true]] (c2A (i_cloneConf_m N))):=
 mO ja func53 rfl N (.seq .no (.seq .no (.seq (.seq .no (.block (.loop jM7 .no))) .no))) _
def jLd :Sh:=⟨.dead:: .dead:: .box 2 0:: .box 3 0::dz 18 (.pv Y5::pI::pI::dz 37 []),[(2,false,[.nils,.nils,.nils]),(3,false,[.own 700300 Y4 77 true,.own 700301 Y6 89 true,.own 700302 tI 3 true])]⟩
def jMw :Sh:=⟨.dead:: .dead:: .box 2 0:: .box 3 0:: .dead:: .box 5 0:: .own 600006 Y12 136 true::dz 15 (.pv Y5::pI::pI::dz 5 (.pv Y11::pI::pI::dz 29 [])),[(2,false,[.nils,.nils,.nils]),(3,false,[.own 700300 Y4 77 true,.own 700301 Y6 89 true,.own 700302 tI 3 true]),(5,false,[pS,pS,.pv Y11])]⟩
def i_cloneLive_m (B:List Z0) (o:List Z1) (t:List Int):Option ((List Z0)×(List Z1)×(List Int)):=
 (oB (jbV N B) fun C=>if room ([]:List Int).length t.length 8 then iter (fun z (p,v,h,y,q,u)=>bif decide (h<v)then oB (idx p h) fun a=>(iter (fun D (d,l,n,k,w,r,c,x,f,m,e,j,A)=>bif decide (c<r)then oB (idx w c) fun b=>(if room ([]:List Int).length b.2.length 8 then if room d.length ([(b.1,(([]:List Int)++b.2))]:Z5).length 32 then if fits (c+1)then D ((d++([(b.1,(([]:List Int)++b.2))]:Z5)),l,n,k,w,r,(c+1),x,f,m,e,j,A)else none else none else none)else if room f.length ([(e,j,d)]:List Z1).length 56 then if fits (k+1)then z (l,n,(k+1),x,(f++([(e,j,d)]:List Z1)),m)else none else none) N (([]:Z5),p,v,h,a.2.2,(a.2.2.length:Int),(0:Int),y,q,u,a.1,a.2.1,a.2.2))else some (y,q,u)) N (o,(o.length:Int),(0:Int),C,([]:List Z1),(([]:List Int)++t))else none)
theorem jLF :mK 54 (bX [.agg [.pv Y3,.pv Y5,.pv Y19]] [.agg [.own 1 Y4 77 true,.own 2 Y6 89 true,.own 3 tI 3 true]] (c3A (i_cloneLive_m N))):=
 mO (fC (joC N) ja) func54 rfl N (.seq .no (.seq .no (.seq (.seq .no (.block (.loop jLd (.seq .no (.seq .no (.seq (.block (.seq .no (.seq .no (.seq (.seq .no (.block (.loop jMw .no))) .no)))) .no)))))) .no))) _
def jM3 :Sh:=⟨.dead:: .dead:: .box 2 0:: .box 3 0::dz 8 (.pv Y0::pI::pI::dz 12 []),[(2,false,[.nils,.nils,.nils]),(3,false,[.own 700300 .str 9 true,.own 700301 Y16 126 true,.own 700302 Y1 55 true])]⟩
def i_cloneIndex_m (n:List Z2) (l:List Z4) (k:List Z3):Option ((List Z2)×(List Z4)×(List Z3)):=
 (oB (i_cloneConf_m N n l) fun e=>iter (fun m (j,i,b,h,f,d)=>bif decide (b<i)then oB (idx j b) fun c=>(oB (i_cloneLive_m N c.1.1 c.1.2 c.2) fun a=>if room d.length ([((a.1,a.2.1),a.2.2)]:List Z3).length 72 then if fits (b+1)then m (j,i,(b+1),h,f,(d++([((a.1,a.2.1),a.2.2)]:List Z3)))else none else none)else some (h,f,d)) N (k,(k.length:Int),(0:Int),e.1,e.2,([]:List Z3)))
theorem jLT :mK 21 (bX [.agg [.pv (.sl .str),.pv Y14,.pv Y0]] [.agg [.own 1 .str 9 true,.own 2 Y16 126 true,.own 3 Y1 55 true]] (c3A (i_cloneIndex_m N))):=
 mO (fC (jLo N) (fC (jLF N) ja)) func21 rfl N (.seq .no (.seq .no (.seq (.seq .no (.block (.loop jM3 .no))) .no))) _
noncomputable def i_IndexMerge_m (e:List Z2) (d:List Z4) (c:List Z3) (b:Int):Option ((List Z2)×(List Z4)×(List Z3)×Bool):=
 (oB (i_IndexOk_m N e d c) fun j=>bif !j then some (([]:List Z2),([]:List Z4),([]:List Z3),false)else oB (i_cloneIndex_m N e d c) fun a=>if fits ((c.length:Int)-2)then oB (jm N b 0 ((c.length:Int)-2)) fun h=>(bif !h then some (a.1,a.2.1,a.2.2,false)else if fits (b+2)then oB (cut a.2.2 b (b+2)) fun i=>(oB (i_allAlive_m N i) fun k=>oB (jbT N e d k) fun f=>oB (cut a.2.2 0 b) fun _=>if 0<=(0:Int).toNat then if room ([]:List Z3).length ((a.2.2.take b.toNat).drop ((0:Int).toNat)).length 72 then if room (([]:List Z3)++((a.2.2.take b.toNat).drop ((0:Int).toNat))).length ([(f,([]:List Int))]:List Z3).length 72 then if fits (b+2)then oB (cut a.2.2 (b+2) (a.2.2.length:Int)) fun _=>(if b.toNat<=(b+2).toNat then if room ((([]:List Z3)++((a.2.2.take b.toNat).drop ((0:Int).toNat)))++([(f,([]:List Int))]:List Z3)).length ((a.2.2.take ((a.2.2.length:Int).toNat)).drop ((b+2).toNat)).length 72 then some (a.1,a.2.1,(((([]:List Z3)++((a.2.2.take b.toNat).drop ((0:Int).toNat)))++([(f,([]:List Int))]:List Z3))++((a.2.2.take ((a.2.2.length:Int).toNat)).drop ((b+2).toNat))),true)else none else none)else none else none else none else none)else none)else none)
theorem jRM :mK 7 (bX [.agg [.pv (.sl .str),.pv Y14,.pv Y0],pI] [.tup [.agg [.own 1 .str 9 true,.own 2 Y16 126 true,.own 3 Y1 55 true],pB]] (c4A (i_IndexMerge_m N))):=
 mO (fC (jIr N) (fC (jLT N) (fC (jY N) (fC (jHR N) (fC (jqC N) ja))))) func7 rfl N .no _ (dw:=[39,49])
def jo5 :Sh:=⟨.pv (.sl .str):: .pv (.sl .str)::dz 3 (pI::dz 20 []),[]⟩
def j0 (d:List Z2) (c:List Z2):Z8:=
 (bif !decide ((d.length:Int)=(c.length:Int))then some false else iter (fun h (b,e,a)=>bif decide (a<(b.length:Int))then oB (idx b a) fun i=>(oB (idx e a) fun f=>bif !decide (i=f)then some false else if fits (a+1)then h (b,e,(a+1))else none)else some true) N (d,c,(0:Int)))
theorem jd6 :mK 66 (bX [.pv (.sl .str),.pv (.sl .str)] [pB] (c2A (j0 N))):=
 mO ja func66 rfl N (.seq .no (.seq .no (.seq (.seq .no (.block (.loop jo5 .no))) .no))) _
def jaR (a:List Z2) (e:List UInt8) (d:List Z2) (b:List UInt8):Z8:=
 (oB (j0 N a d) fun c=>bif !c then some false else bif !decide (e=b)then some false else some true)
theorem jqb :mK 116 (bX [.agg [.pv (.sl .str),pS],.agg [.pv (.sl .str),pS]] [pB] (c4A (jaR N))):=
 mO (fC (jd6 N) ja) func116 rfl N .no _
def jp9 :Sh:=⟨.pv Y14:: .pv Y14::dz 3 (pI::dz 21 []),[]⟩
def jdJ (f:List Z4) (e:List Z4):Z8:=
 (bif !decide ((f.length:Int)=(e.length:Int))then some false else iter (fun i (b,h,a)=>bif decide (a<(b.length:Int))then oB (idx b a) fun d=>(oB (idx h a) fun c=>oB (jaR N d.1 d.2 c.1 c.2) fun j=>bif !j then some false else if fits (a+1)then i (b,h,(a+1))else none)else some true) N (f,e,(0:Int)))
theorem jkU :mK 67 (bX [.pv Y14,.pv Y14] [pB] (c2A (jdJ N))):=
 mO (fC (jqb N) ja) func67 rfl N (.seq .no (.seq .no (.seq (.seq .no (.block (.loop jp9 .no))) .no))) _
def jcO (a:List Z2) (c:List Z4) (e:List Z2) (b:List Z4):Z8:=
 (oB (j0 N a e) fun d=>bif !d then some false else oB (jdJ N c b) fun f=>bif !f then some false else some true)
theorem jr8 :mK 25 (bX [.agg [.pv (.sl .str),.pv Y14],.agg [.pv (.sl .str),.pv Y14]] [pB] (c4A (jcO N))):=
 mO (fC (jd6 N) (fC (jkU N) ja)) func25 rfl N .no _
def jbd (N:Nat) (a:List UInt8) (d:List UInt8) (c:List UInt8) (b:List UInt8):Z8:=
 (bif !decide (a=c)then some false else bif !decide (d=b)then some false else some true)
theorem jmy :mK 201 (bX [.agg [pS,pS],.agg [pS,pS]] [pB] (c4A (jbd N))):=
 mO ja func201 rfl N .no _
def jqq :Sh:=⟨.pv Y17:: .pv Y17::dz 3 (pI::dz 21 []),[]⟩
def jdj (f:Z12) (e:Z12):Z8:=
 (bif !decide ((f.length:Int)=(e.length:Int))then some false else iter (fun i (b,h,a)=>bif decide (a<(b.length:Int))then oB (idx b a) fun d=>(oB (idx h a) fun c=>oB (jbd N d.1 d.2 c.1 c.2) fun j=>bif !j then some false else if fits (a+1)then i (b,h,(a+1))else none)else some true) N (f,e,(0:Int)))
theorem jmD :mK 192 (bX [.pv Y17,.pv Y17] [pB] (c2A (jdj N))):=
 mO (fC (jmy N) ja) func192 rfl N (.seq .no (.seq .no (.seq (.seq .no (.block (.loop jqq .no))) .no))) _
def jbo (N:Nat) (a:List UInt8) (d:Int) (c:List UInt8) (b:Int):Z8:=
 (bif !decide (a=c)then some false else bif !decide (d=b)then some false else some true)
theorem jtn :mK 202 (bX [.agg [pS,pI],.agg [pS,pI]] [pB] (c4A (jbo N))):=
 mO ja func202 rfl N .no _
def jtU :Sh:=⟨.pv Y13:: .pv Y13::dz 3 (pI::dz 21 []),[]⟩
def jdN (f:Z6) (e:Z6):Z8:=
 (bif !decide ((f.length:Int)=(e.length:Int))then some false else iter (fun i (b,h,a)=>bif decide (a<(b.length:Int))then oB (idx b a) fun d=>(oB (idx h a) fun c=>oB (jbo N d.1 d.2 c.1 c.2) fun j=>bif !j then some false else if fits (a+1)then i (b,h,(a+1))else none)else some true) N (f,e,(0:Int)))
theorem jkL :mK 193 (bX [.pv Y13,.pv Y13] [pB] (c2A (jdN N))):=
 mO (fC (jtn N) ja) func193 rfl N (.seq .no (.seq .no (.seq (.seq .no (.block (.loop jtU .no))) .no))) _
def jbi (f:Int) (i:Z12) (d:Z6) (c:Int) (h:Z12) (a:Z6):Z8:=
 (bif !decide (f=c)then some false else oB (jdj N i h) fun b=>bif !b then some false else oB (jdN N d a) fun e=>bif !e then some false else some true)
theorem jta :mK 181 (bX [.agg [pI,.pv Y17,.pv Y13],.agg [pI,.pv Y17,.pv Y13]] [pB] (c6A (jbi N))):=
 mO (fC (jmD N) (fC (jkL N) ja)) func181 rfl N .no _
def jqZ :Sh:=⟨.pv Y3:: .pv Y3::dz 3 (pI::dz 21 []),[]⟩
def jdZ (f:List Z0) (e:List Z0):Z8:=
 (bif !decide ((f.length:Int)=(e.length:Int))then some false else iter (fun i (d,h,a)=>bif decide (a<(d.length:Int))then oB (idx d a) fun c=>(oB (idx h a) fun b=>oB (jbi N c.1 c.2.1 c.2.2 b.1 b.2.1 b.2.2) fun j=>bif !j then some false else if fits (a+1)then i (d,h,(a+1))else none)else some true) N (f,e,(0:Int)))
theorem jmb :mK 161 (bX [.pv Y3,.pv Y3] [pB] (c2A (jdZ N))):=
 mO (fC (jta N) ja) func161 rfl N (.seq .no (.seq .no (.seq (.seq .no (.block (.loop jqZ .no))) .no))) _
def jea (d:List Int) (c:List Int):Z8:=
 (bif !decide ((d.length:Int)=(c.length:Int))then some false else iter (fun h (b,e,a)=>bif decide (a<(b.length:Int))then oB (idx b a) fun i=>(oB (idx e a) fun f=>bif !decide (i=f)then some false else if fits (a+1)then h (b,e,(a+1))else none)else some true) N (d,c,(0:Int)))
theorem jmk :mK 118 (bX [.pv Y19,.pv Y19] [pB] (c2A (jea N))):=
 mO ja func118 rfl N (.seq .no (.seq .no (.seq (.seq .no (.block (.loop jnI .no))) .no))) _
def jbl (a:Int) (e:List Int) (d:Int) (b:List Int):Z8:=
 (bif !decide (a=d)then some false else oB (jea N e b) fun c=>bif !c then some false else some true)
theorem jrv :mK 203 (bX [.agg [pI,.pv Y19],.agg [pI,.pv Y19]] [pB] (c4A (jbl N))):=
 mO (fC (jmk N) ja) func203 rfl N .no _
def jna :Sh:=⟨.pv Y11:: .pv Y11::dz 3 (pI::dz 21 []),[]⟩
def jdt (f:Z5) (e:Z5):Z8:=
 (bif !decide ((f.length:Int)=(e.length:Int))then some false else iter (fun i (b,h,a)=>bif decide (a<(b.length:Int))then oB (idx b a) fun d=>(oB (idx h a) fun c=>oB (jbl N d.1 d.2 c.1 c.2) fun j=>bif !j then some false else if fits (a+1)then i (b,h,(a+1))else none)else some true) N (f,e,(0:Int)))
theorem jrb :mK 194 (bX [.pv Y11,.pv Y11] [pB] (c2A (jdt N))):=
 mO (fC (jrv N) ja) func194 rfl N (.seq .no (.seq .no (.seq (.seq .no (.block (.loop jna .no))) .no))) _
def jaU (e:List UInt8) (h:List UInt8) (d:Z5) (c:List UInt8) (f:List UInt8) (a:Z5):Z8:=
 (bif !decide (e=c)then some false else bif !decide (h=f)then some false else oB (jdt N d a) fun b=>bif !b then some false else some true)
theorem jmZ :mK 182 (bX [.agg [pS,pS,.pv Y11],.agg [pS,pS,.pv Y11]] [pB] (c6A (jaU N))):=
 mO (fC (jrb N) ja) func182 rfl N .no _
def jkD :Sh:=⟨.pv Y5:: .pv Y5::dz 3 (pI::dz 21 []),[]⟩
def jdU (f:List Z1) (e:List Z1):Z8:=
 (bif !decide ((f.length:Int)=(e.length:Int))then some false else iter (fun i (d,h,a)=>bif decide (a<(d.length:Int))then oB (idx d a) fun c=>(oB (idx h a) fun b=>oB (jaU N c.1 c.2.1 c.2.2 b.1 b.2.1 b.2.2) fun j=>bif !j then some false else if fits (a+1)then i (d,h,(a+1))else none)else some true) N (f,e,(0:Int)))
theorem jkg :mK 162 (bX [.pv Y5,.pv Y5] [pB] (c2A (jdU N))):=
 mO (fC (jmZ N) ja) func162 rfl N (.seq .no (.seq .no (.seq (.seq .no (.block (.loop jkD .no))) .no))) _
def jbJ (a:List Z0) (c:List Z1) (e:List Z0) (b:List Z1):Z8:=
 (oB (jdZ N a e) fun d=>bif !d then some false else oB (jdU N c b) fun f=>bif !f then some false else some true)
theorem jnM :mK 117 (bX [.agg [.pv Y3,.pv Y5],.agg [.pv Y3,.pv Y5]] [pB] (c4A (jbJ N))):=
 mO (fC (jmb N) (fC (jkg N) ja)) func117 rfl N .no _
def jJW (f:List Z0) (i:List Z1) (d:List Int) (c:List Z0) (h:List Z1) (a:List Int):Z8:=
 (oB (jbJ N f i c h) fun b=>bif !b then some false else oB (jea N d a) fun e=>bif !e then some false else some true)
theorem jI3 :mK 68 (bX [.agg [.pv Y3,.pv Y5,.pv Y19],.agg [.pv Y3,.pv Y5,.pv Y19]] [pB] (c6A (jJW N))):=
 mO (fC (jnM N) (fC (jmk N) ja)) func68 rfl N .no _
def jIS :Sh:=⟨.pv Y0:: .pv Y0::dz 3 (pI::dz 21 []),[]⟩
def jKn (f:List Z3) (e:List Z3):Z8:=
 (bif !decide ((f.length:Int)=(e.length:Int))then some false else iter (fun i (d,h,a)=>bif decide (a<(d.length:Int))then oB (idx d a) fun c=>(oB (idx h a) fun b=>oB (jJW N c.1.1 c.1.2 c.2 b.1.1 b.1.2 b.2) fun j=>bif !j then some false else if fits (a+1)then i (d,h,(a+1))else none)else some true) N (f,e,(0:Int)))
theorem jIa :mK 26 (bX [.pv Y0,.pv Y0] [pB] (c2A (jKn N))):=
 mO (fC (jI3 N) ja) func26 rfl N (.seq .no (.seq .no (.seq (.seq .no (.block (.loop jIS .no))) .no))) _
def jJN (f:List Z2) (i:List Z4) (d:List Z3) (c:List Z2) (h:List Z4) (a:List Z3):Z8:=
 (oB (jcO N f i c h) fun b=>bif !b then some false else oB (jKn N d a) fun e=>bif !e then some false else some true)
theorem jIY :mK 8 (bX [.agg [.pv (.sl .str),.pv Y14,.pv Y0],.agg [.pv (.sl .str),.pv Y14,.pv Y0]] [pB] (c6A (jJN N))):=
 mO (fC (jr8 N) (fC (jIa N) ja)) func8 rfl N .no _
def jnU :Sh:=⟨pI:: .dead:: .dead::pS::dz 16 [],[]⟩
def jr (c:Int):Option (Z2):=
 (bif decide (c<=0)then some ([109,48]:List UInt8)else iter (fun d (a,b)=>bif decide ((0:Int)<a)then if 10≠0 then if fits (48+(a.tmod 10))then if(bytesOf ([(IntKind.u8.wrap (48+(a.tmod 10)))]:List Int)).length+b.length<=9223372036854775807 then if 10≠0 then if fits (a.tdiv 10)then d ((a.tdiv 10),((bytesOf ([(IntKind.u8.wrap (48+(a.tmod 10)))]:List Int))++b))else none else none else none else none else none else if([109]:List UInt8).length+b.length<=9223372036854775807 then some (([109]:List UInt8)++b)else none) N (c,([]:List UInt8)))
theorem jaz :mK 119 (bX [pI] [pS] (c1A (jr N))):=
 mO ja func119 rfl N (.seq .no (.seq .no (.seq .no (.seq (.block (.loop jnU .no)) .no)))) _
def jol :Sh:=⟨.mtk 800000 .str 9 true::pI::dz 3 (pI::dz 14 []),[]⟩
def jas (h:List Z2) (i:Int):Option (Int×(List Z2)):=
 (iter (fun d (b,c,a)=>bif decide (a<(b.length:Int))then oB (jr N c) fun e=>(if 0<=a/\a<(b.length:Int)then oB (b[a.toNat]?) fun j=>(if fits (c+1)then if fits (a+1)then d ((b.set a.toNat e),(c+1),(a+1))else none else none)else none)else some (c,b)) N (h,i,(0:Int)))
theorem jdf :mK 69 (bX [.mtk 800000 .str 9 true,pI] [pI,.mtk 800000 .str 9 true] (c2A (jas N))):=
 mO (fC (jaz N) ja) func69 rfl N (.seq .no (.seq (.seq .no (.block (.loop jol .no))) .no)) _ (rs:=[800000])
def jq1 :Sh:=⟨.tre 800000 Y16 126::pI::dz 3 (pI::dz 22 []),[]⟩
def jbZ (l:List Z4) (m:Int):Option (Int×(List Z4)):=
 (iter (fun f (b,d,a)=>bif decide (a<(b.length:Int))then if 0<=a/\a<(b.length:Int)then oB (b[a.toNat]?) fun i=>(oB (jas N i.1 d) fun c=>oB (jr N c.1) fun j=>if 0<=a/\a<(b.length:Int)then oB (b[a.toNat]?) fun e=>(if fits (c.1+1)then if fits (a+1)then f (((b.set a.toNat (e.1,j)).modify a.toNat fun h=>(c.2,h.2)),(c.1+1),(a+1))else none else none)else none)else none else some (d,b)) N (l,m,(0:Int)))
theorem jqK :mK 70 (bX [.tre 800000 Y16 126,pI] [pI,.tre 800000 Y16 126] (c2A (jbZ N))):=
 mO (fC (jdf N) (fC (jaz N) ja)) func70 rfl N (.seq .no (.seq (.seq .no (.block (.loop jq1 .no))) .no)) _ (rs:=[800000])
def jb0 (c:List Z2) (e:List Z4) (d:Int):Option (Int×(List Z2)×(List Z4)):=
 (oB (jas N c d) fun a=>oB (jbZ N e a.1) fun b=>some (b.1,a.2,b.2))
theorem jrd :mK 27 (bX [.agg [.mtk 800000 .str 9 true,.tre 800001 Y16 126],pI] [pI,.mtk 800000 .str 9 true,.tre 800001 Y16 126] (c3A (jb0 N))):=
 mO (fC (jdf N) (fC (jqK N) ja)) func27 rfl N .no _ (rs:=[800000,800001])
def jrq :Sh:=⟨.mtk 800000 Y18 99 true::pI::dz 3 (pI::dz 23 []),[]⟩
def jbW (k:Z12) (l:Int):Option (Int×Z13):=
 (iter (fun h (b,c,a)=>bif decide (a<(b.length:Int))then oB (jr N c) fun e=>(if 0<=a/\a<(b.length:Int)then oB (b[a.toNat]?) fun d=>(if fits (c+1)then oB (jr N (c+1)) fun i=>(if 0<=a/\a<((b.set a.toNat (e,d.2)).length:Int)then oB ((b.set a.toNat (e,d.2))[a.toNat]?) fun f=>(if fits ((c+1)+1)then if fits (a+1)then h (((b.set a.toNat (e,d.2)).set a.toNat (f.1,i)),((c+1)+1),(a+1))else none else none)else none)else none)else none)else some (c,b)) N (k,l,(0:Int)))
theorem jo0 :mK 120 (bX [.mtk 800000 Y18 99 true,pI] [pI,.mtk 800000 Y18 99 true] (c2A (jbW N))):=
 mO (fC (jaz N) ja) func120 rfl N (.seq .no (.seq (.seq .no (.block (.loop jrq .no))) .no)) _ (rs:=[800000])
def js9 :Sh:=⟨.mtk 800000 Y15 169 true::pI::dz 3 (pI::dz 22 []),[]⟩
def jbP (j:Z6) (k:Int):Option (Int×Z7):=
 (iter (fun h (b,c,a)=>bif decide (a<(b.length:Int))then oB (jr N c) fun e=>(if 0<=a/\a<(b.length:Int)then oB (b[a.toNat]?) fun d=>(if fits (c+1)then if 0<=a/\a<((b.set a.toNat (e,d.2)).length:Int)then oB ((b.set a.toNat (e,d.2))[a.toNat]?) fun f=>(if fits ((c+1)+1)then if fits (a+1)then h (((b.set a.toNat (e,d.2)).set a.toNat (f.1,(c+1))),((c+1)+1),(a+1))else none else none)else none else none)else none)else some (c,b)) N (j,k,(0:Int)))
theorem js2 :mK 121 (bX [.mtk 800000 Y15 169 true,pI] [pI,.mtk 800000 Y15 169 true] (c2A (jbP N))):=
 mO (fC (jaz N) ja) func121 rfl N (.seq .no (.seq (.seq .no (.block (.loop js9 .no))) .no)) _ (rs:=[800000])
def jml :Sh:=⟨.tre 800000 Y4 77::pI::dz 3 (pI::dz 28 []),[]⟩
def jb4 (m:List Z0) (n:Int):Option (Int×(List Z0)):=
 (iter (fun k (b,c,a)=>bif decide (a<(b.length:Int))then if 0<=a/\a<(b.length:Int)then oB (b[a.toNat]?) fun d=>(if fits (c+1)then if 0<=a/\a<((b.set a.toNat (c,d.2)).length:Int)then oB ((b.set a.toNat (c,d.2))[a.toNat]?) fun j=>(oB (jbW N j.2.1 (c+1)) fun e=>if 0<=a/\a<((b.set a.toNat (c,d.2)).length:Int)then oB ((b.set a.toNat (c,d.2))[a.toNat]?) fun o=>(oB (jbP N o.2.2 e.1) fun i=>if fits (a+1)then k ((((b.set a.toNat (c,d.2)).modify a.toNat fun h=>(h.1,h.2.1,i.2)).modify a.toNat fun f=>(f.1,e.2,f.2.2)),i.1,(a+1))else none)else none)else none else none)else none else some (c,b)) N (m,n,(0:Int)))
theorem jnb :mK 71 (bX [.tre 800000 Y4 77,pI] [pI,.tre 800000 Y4 77] (c2A (jb4 N))):=
 mO (fC (jo0 N) (fC (js2 N) ja)) func71 rfl N (.seq .no (.seq (.seq .no (.block (.loop jml .no))) .no)) _ (rs:=[800000])
def jl9 :Sh:=⟨.mtk 800000 tI 3 true::pI::dz 3 (pI::dz 13 []),[]⟩
def jco (f:List Int) (h:Int):Option (Int×(List Int)):=
 (iter (fun d (b,c,a)=>bif decide (a<(b.length:Int))then if 0<=a/\a<(b.length:Int)then oB (b[a.toNat]?) fun i=>(if fits (c+1)then if fits (a+1)then d ((b.set a.toNat c),(c+1),(a+1))else none else none)else none else some (c,b)) N (f,h,(0:Int)))
theorem jr1 :mK 73 (bX [.mtk 800000 tI 3 true,pI] [pI,.mtk 800000 tI 3 true] (c2A (jco N))):=
 mO ja func73 rfl N (.seq .no (.seq (.seq .no (.block (.loop jl9 .no))) .no)) _ (rs:=[800000])
def jnn :Sh:=⟨.tre 800000 Y12 136::pI::dz 3 (pI::dz 21 []),[]⟩
def jcm (k:Z5) (l:Int):Option (Int×Z10):=
 (iter (fun h (b,c,a)=>bif decide (a<(b.length:Int))then if 0<=a/\a<(b.length:Int)then oB (b[a.toNat]?) fun d=>(if fits (c+1)then if 0<=a/\a<((b.set a.toNat (c,d.2)).length:Int)then oB ((b.set a.toNat (c,d.2))[a.toNat]?) fun f=>(oB (jco N f.2 (c+1)) fun e=>if fits (a+1)then h (((b.set a.toNat (c,d.2)).modify a.toNat fun i=>(i.1,e.2)),e.1,(a+1))else none)else none else none)else none else some (c,b)) N (k,l,(0:Int)))
theorem jrg :mK 122 (bX [.tre 800000 Y12 136,pI] [pI,.tre 800000 Y12 136] (c2A (jcm N))):=
 mO (fC (jr1 N) ja) func122 rfl N (.seq .no (.seq (.seq .no (.block (.loop jnn .no))) .no)) _ (rs:=[800000])
def jkI :Sh:=⟨.tre 800000 Y6 89::pI::dz 3 (pI::dz 30 []),[]⟩
def jcD (m:List Z1) (n:Int):Option (Int×(List Z1)):=
 (iter (fun k (b,d,a)=>bif decide (a<(b.length:Int))then oB (jr N d) fun f=>(if 0<=a/\a<(b.length:Int)then oB (b[a.toNat]?) fun e=>(if fits (d+1)then oB (jr N (d+1)) fun h=>(if 0<=a/\a<((b.set a.toNat (f,e.2)).length:Int)then oB ((b.set a.toNat (f,e.2))[a.toNat]?) fun c=>(if fits ((d+1)+1)then if 0<=a/\a<(((b.set a.toNat (f,e.2)).set a.toNat (c.1,h,c.2.2)).length:Int)then oB (((b.set a.toNat (f,e.2)).set a.toNat (c.1,h,c.2.2))[a.toNat]?) fun o=>(oB (jcm N o.2.2 ((d+1)+1)) fun i=>if fits (a+1)then k ((((b.set a.toNat (f,e.2)).set a.toNat (c.1,h,c.2.2)).modify a.toNat fun j=>(j.1,j.2.1,i.2)),i.1,(a+1))else none)else none else none)else none)else none)else none)else some (d,b)) N (m,n,(0:Int)))
theorem jlr :mK 72 (bX [.tre 800000 Y6 89,pI] [pI,.tre 800000 Y6 89] (c2A (jcD N))):=
 mO (fC (jaz N) (fC (jrg N) ja)) func72 rfl N (.seq .no (.seq (.seq .no (.block (.loop jkI .no))) .no)) _ (rs:=[800000])
def jIe :Sh:=⟨.tre 800000 Y1 55::pI::dz 3 (pI::dz 30 []),[]⟩
def jKd (o:List Z3) (p:Int):Option (Int×(List Z3)):=
 (iter (fun k (b,h,a)=>bif decide (a<(b.length:Int))then if 0<=a/\a<(b.length:Int)then oB (b[a.toNat]?) fun l=>(oB (jb4 N l.1.1 h) fun d=>if 0<=a/\a<(b.length:Int)then oB (b[a.toNat]?) fun j=>(oB (jcD N j.1.2 d.1) fun e=>if 0<=a/\a<(b.length:Int)then oB (b[a.toNat]?) fun q=>(oB (jco N q.2 e.1) fun c=>if fits (a+1)then k ((((b.modify a.toNat fun m=>(m.1,c.2)).modify a.toNat fun f=>((f.1.1,e.2),f.2)).modify a.toNat fun i=>((d.2,i.1.2),i.2)),c.1,(a+1))else none)else none)else none)else none else some (h,b)) N (o,p,(0:Int)))
theorem jIE :mK 28 (bX [.tre 800000 Y1 55,pI] [pI,.tre 800000 Y1 55] (c2A (jKd N))):=
 mO (fC (jnb N) (fC (jlr N) (fC (jr1 N) ja))) func28 rfl N (.seq .no (.seq (.seq .no (.block (.loop jIe .no))) .no)) _ (rs:=[800000])
def jJX (c:List Z2) (e:List Z4) (f:List Z3) (d:Int):Option (Int×(List Z2)×(List Z4)×(List Z3)):=
 (oB (jb0 N c e d) fun a=>oB (jKd N f a.1) fun b=>some (b.1,a.2.1,a.2.2,b.2))
theorem jJp :mK 9 (bX [.agg [.mtk 800000 .str 9 true,.tre 800001 Y16 126,.tre 800002 Y1 55],pI] [pI,.mtk 800000 .str 9 true,.tre 800001 Y16 126,.tre 800002 Y1 55] (c4A (jJX N))):=
 mO (fC (jrd N) (fC (jIE N) ja)) func9 rfl N .no _ (rs:=[800000,800001,800002])
def jo4 :Sh:=⟨.pv (.sl .str)::pI::dz 3 (pI::dz 16 []),[]⟩
def ja4 (i:List Z2) (j:Int):Z11:=
 (iter (fun d (c,a,b)=>bif decide (b<(c.length:Int))then oB (idx c b) fun e=>(oB (jr N a) fun f=>bif !decide (e=f)then some (-1)else if fits (a+1)then if fits (b+1)then d (c,(a+1),(b+1))else none else none)else some a) N (i,j,(0:Int)))
theorem jrD :mK 74 (bX [.pv (.sl .str),pI] [pI] (c2A (ja4 N))):=
 mO (fC (jaz N) ja) func74 rfl N (.seq .no (.seq (.seq .no (.block (.loop jo4 .no))) .no)) _
def jMM :Sh:=⟨.pv Y14::pI::dz 3 (pI::dz 26 []),[]⟩
def jKc (k:List Z4) (l:Int):Z11:=
 (iter (fun f (c,d,a)=>bif decide (a<(c.length:Int))then oB (idx c a) fun h=>(oB (ja4 N h.1 d) fun b=>bif decide (b<0)then some (-1)else oB (idx c a) fun e=>oB (jr N b) fun i=>bif !decide (e.2=i)then some (-1)else if fits (b+1)then if fits (a+1)then f (c,(b+1),(a+1))else none else none)else some d) N (k,l,(0:Int)))
theorem jMk :mK 75 (bX [.pv Y14,pI] [pI] (c2A (jKc N))):=
 mO (fC (jrD N) (fC (jaz N) ja)) func75 rfl N (.seq .no (.seq (.seq .no (.block (.loop jMM .no))) .no)) _
def jJ4 (c:List Z2) (e:List Z4) (d:Int):Z11:=
 (oB (ja4 N c d) fun a=>bif decide (a<0)then some (-1)else oB (jKc N e a) fun b=>bif decide (b<0)then some (-1)else some b)
theorem jLQ :mK 29 (bX [.agg [.pv (.sl .str),.pv Y14],pI] [pI] (c3A (jJ4 N))):=
 mO (fC (jrD N) (fC (jMk N) ja)) func29 rfl N .no _
def jK5 :Sh:=⟨.pv Y17::pI::dz 3 (pI::dz 27 []),[]⟩
def jJ8 (k:Z12) (l:Int):Z11:=
 (iter (fun e (c,a,b)=>bif decide (b<(c.length:Int))then oB (idx c b) fun f=>(oB (jr N a) fun h=>bif !decide (f.1=h)then some (-1)else if fits (a+1)then oB (idx c b) fun d=>(oB (jr N (a+1)) fun i=>bif !decide (d.2=i)then some (-1)else if fits ((a+1)+1)then if fits (b+1)then e (c,((a+1)+1),(b+1))else none else none)else none)else some a) N (k,l,(0:Int)))
theorem jLR :mK 123 (bX [.pv Y17,pI] [pI] (c2A (jJ8 N))):=
 mO (fC (jaz N) ja) func123 rfl N (.seq .no (.seq (.seq .no (.block (.loop jK5 .no))) .no)) _
def jNb :Sh:=⟨.pv Y13::pI::dz 3 (pI::dz 26 []),[]⟩
def jJ2 (j:Z6) (k:Int):Z11:=
 (iter (fun e (c,a,b)=>bif decide (b<(c.length:Int))then oB (idx c b) fun f=>(oB (jr N a) fun h=>bif !decide (f.1=h)then some (-1)else if fits (a+1)then oB (idx c b) fun d=>(bif !decide (d.2=(a+1))then some (-1)else if fits ((a+1)+1)then if fits (b+1)then e (c,((a+1)+1),(b+1))else none else none)else none)else some a) N (j,k,(0:Int)))
theorem jMG :mK 124 (bX [.pv Y13,pI] [pI] (c2A (jJ2 N))):=
 mO (fC (jaz N) ja) func124 rfl N (.seq .no (.seq (.seq .no (.block (.loop jNb .no))) .no)) _
def jMl :Sh:=⟨.pv Y3::pI::dz 3 (pI::dz 34 []),[]⟩
def jJY (k:List Z0) (l:Int):Z11:=
 (iter (fun h (b,c,a)=>bif decide (a<(b.length:Int))then oB (idx b a) fun i=>(bif !decide (i.1=c)then some (-1)else if fits (c+1)then oB (idx b a) fun f=>(oB (jJ8 N f.2.1 (c+1)) fun d=>bif decide (d<0)then some (-1)else oB (idx b a) fun m=>oB (jJ2 N m.2.2 d) fun e=>bif decide (e<0)then some (-1)else if fits (a+1)then h (b,e,(a+1))else none)else none)else some c) N (k,l,(0:Int)))
theorem jKZ :mK 76 (bX [.pv Y3,pI] [pI] (c2A (jJY N))):=
 mO (fC (jLR N) (fC (jMG N) ja)) func76 rfl N (.seq .no (.seq (.seq .no (.block (.loop jMl .no))) .no)) _
def jEr :Sh:=⟨.pv Y19::pI::dz 3 (pI::dz 15 []),[]⟩
def jEi (h:List Int) (i:Int):Z11:=
 (iter (fun d (c,a,b)=>bif decide (b<(c.length:Int))then oB (idx c b) fun e=>(bif !decide (e=a)then some (-1)else if fits (a+1)then if fits (b+1)then d (c,(a+1),(b+1))else none else none)else some a) N (h,i,(0:Int)))
theorem jEn :mK 78 (bX [.pv Y19,pI] [pI] (c2A (jEi N))):=
 mO ja func78 rfl N (.seq .no (.seq (.seq .no (.block (.loop jEr .no))) .no)) _
def jMS :Sh:=⟨.pv Y11::pI::dz 3 (pI::dz 25 []),[]⟩
def jJ1 (j:Z5) (k:Int):Z11:=
 (iter (fun f (c,b,a)=>bif decide (a<(c.length:Int))then oB (idx c a) fun h=>(bif !decide (h.1=b)then some (-1)else if fits (b+1)then oB (idx c a) fun e=>(oB (jEi N e.2 (b+1)) fun d=>bif decide (d<0)then some (-1)else if fits (a+1)then f (c,d,(a+1))else none)else none)else some b) N (j,k,(0:Int)))
theorem jMN :mK 125 (bX [.pv Y11,pI] [pI] (c2A (jJ1 N))):=
 mO (fC (jEn N) ja) func125 rfl N (.seq .no (.seq (.seq .no (.block (.loop jMS .no))) .no)) _
def jK2 :Sh:=⟨.pv Y5::pI::dz 3 (pI::dz 36 []),[]⟩
def jKa (l:List Z1) (m:Int):Z11:=
 (iter (fun f (c,a,b)=>bif decide (b<(c.length:Int))then oB (idx c b) fun h=>(oB (jr N a) fun i=>bif !decide (h.1=i)then some (-1)else if fits (a+1)then oB (idx c b) fun e=>(oB (jr N (a+1)) fun j=>bif !decide (e.2.1=j)then some (-1)else if fits ((a+1)+1)then oB (idx c b) fun n=>(oB (jJ1 N n.2.2 ((a+1)+1)) fun d=>bif decide (d<0)then some (-1)else if fits (b+1)then f (c,d,(b+1))else none)else none)else none)else some a) N (l,m,(0:Int)))
theorem jLJ :mK 77 (bX [.pv Y5,pI] [pI] (c2A (jKa N))):=
 mO (fC (jaz N) (fC (jMN N) ja)) func77 rfl N (.seq .no (.seq (.seq .no (.block (.loop jK2 .no))) .no)) _
def jMb :Sh:=⟨.pv Y0::pI::dz 3 (pI::dz 36 []),[]⟩
def jJ6 (l:List Z3) (m:Int):Z11:=
 (iter (fun i (b,f,a)=>bif decide (a<(b.length:Int))then oB (idx b a) fun j=>(oB (jJY N j.1.1 f) fun d=>bif decide (d<0)then some (-1)else oB (idx b a) fun h=>oB (jKa N h.1.2 d) fun e=>bif decide (e<0)then some (-1)else oB (idx b a) fun n=>oB (jEi N n.2 e) fun c=>bif decide (c<0)then some (-1)else if fits (a+1)then i (b,c,(a+1))else none)else some f) N (l,m,(0:Int)))
theorem jMy :mK 30 (bX [.pv Y0,pI] [pI] (c2A (jJ6 N))):=
 mO (fC (jKZ N) (fC (jLJ N) (fC (jEn N) ja))) func30 rfl N (.seq .no (.seq (.seq .no (.block (.loop jMb .no))) .no)) _
def jJT (c:List Z2) (e:List Z4) (f:List Z3) (d:Int):Z11:=
 (oB (jJ4 N c e d) fun a=>bif decide (a<0)then some (-1)else oB (jJ6 N f a) fun b=>bif decide (b<0)then some (-1)else some b)
theorem jLE :mK 10 (bX [.agg [.pv (.sl .str),.pv Y14,.pv Y0],pI] [pI] (c4A (jJT N))):=
 mO (fC (jLQ N) (fC (jMy N) ja)) func10 rfl N .no _
noncomputable def j4D (e:List Z2) (f:List Z4) (h:List Z3) (k:Int):Z8:=
 (oB (jJ5 N e f h 1048576) fun t=>bif decide (t<0)then some true else oB (jJM N e f h) fun j=>oB (s_IndexMerge_m N j.1 j.2.1 j.2.2 k) fun a=>oB (jJM N e f h) fun c=>oB (i_IndexMerge_m N c.1 c.2.1 c.2.2 k) fun b=>oB (jJN N b.1 b.2.1 b.2.2.1 a.1 a.2.1 a.2.2.1) fun p=>bif !p then some false else bif !(b.2.2.2==a.2.2.2)then some false else oB (jJM N e f h) fun l=>oB (jJN N c.1 c.2.1 c.2.2 l.1 l.2.1 l.2.2) fun q=>bif !q then some false else oB (jJX N c.1 c.2.1 c.2.2 1) fun r=>bif decide (r.1<0)then some false else oB (jJN N b.1 b.2.1 b.2.2.1 a.1 a.2.1 a.2.2.1) fun u=>bif !u then some false else bif !(b.2.2.2==a.2.2.2)then some false else oB (jJX N b.1 b.2.1 b.2.2.1 1) fun d=>oB (jJT N d.2.1 d.2.2.1 d.2.2.2 1) fun o=>bif decide (o<0)then some false else bif !decide (o=d.1)then some false else oB (jJM N e f h) fun m=>oB (i_IndexMerge_m N m.1 m.2.1 m.2.2 k) fun i=>oB (jJN N i.1 i.2.1 i.2.2.1 a.1 a.2.1 a.2.2.1) fun v=>bif !v then some false else bif !(i.2.2.2==a.2.2.2)then some false else oB (jJT N d.2.1 d.2.2.1 d.2.2.2 1) fun n=>bif decide (n<0)then some false else bif !decide (n=d.1)then some false else some true)
noncomputable def j4E (N:Nat):Model:=⟨⟨[.agg [.pv (.sl .str),.pv Y14,.pv Y0],pI],[]⟩,⟨[pB],[]⟩,c4A (j4D N)⟩
theorem j4I :mK 3 (j4E N):=
 mO (fC (jIX N) (fC (jJt N) (fC (jNO N) (fC (jRM N) (fC (jIY N) (fC (jJp N) (fC (jLE N) ja))))))) func3 rfl N .no (j4E N) (dw:=[23,29,33,38,47,48,58,71,79,81,86,95])
end Go.Proofs.YtcinmmojlcchfaaGreat
