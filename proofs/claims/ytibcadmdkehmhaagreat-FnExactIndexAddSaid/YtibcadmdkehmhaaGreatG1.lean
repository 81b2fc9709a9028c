import Derived.Test.YtibcadmdkehmhaaGreatG1A
set_option linter.unusedVariables false
set_option linter.unusedSimpArgs false
namespace Go.Proofs.YtibcadmdkehmhaaGreat
open Go.RowKit Go.Proofs.Tryz
variable (N : Nat)
open Option renaming bind -> oB
def k__slices_xorshift_Next_m (N:Nat) (a:Int):Option (Int×Int):=
 (if 0<=(13:Int)then if 0<=(7:Int)then if 0<=(17:Int)then some ((bitsI .xor .u64 (bitsI .xor .u64 (bitsI .xor .u64 a (IntKind.u64.wrap (a*2^(min (13:Int).toNat (IntKind.bits .u64))))) ((bitsI .xor .u64 a (IntKind.u64.wrap (a*2^(min (13:Int).toNat (IntKind.bits .u64))))).fdiv (2^(min (7:Int).toNat (IntKind.bits .u64))))) (IntKind.u64.wrap ((bitsI .xor .u64 (bitsI .xor .u64 a (IntKind.u64.wrap (a*2^(min (13:Int).toNat (IntKind.bits .u64))))) ((bitsI .xor .u64 a (IntKind.u64.wrap (a*2^(min (13:Int).toNat (IntKind.bits .u64))))).fdiv (2^(min (7:Int).toNat (IntKind.bits .u64)))))*2^(min (17:Int).toNat (IntKind.bits .u64))))),(bitsI .xor .u64 (bitsI .xor .u64 (bitsI .xor .u64 a (IntKind.u64.wrap (a*2^(min (13:Int).toNat (IntKind.bits .u64))))) ((bitsI .xor .u64 a (IntKind.u64.wrap (a*2^(min (13:Int).toNat (IntKind.bits .u64))))).fdiv (2^(min (7:Int).toNat (IntKind.bits .u64))))) (IntKind.u64.wrap ((bitsI .xor .u64 (bitsI .xor .u64 a (IntKind.u64.wrap (a*2^(min (13:Int).toNat (IntKind.bits .u64))))) ((bitsI .xor .u64 a (IntKind.u64.wrap (a*2^(min (13:Int).toNat (IntKind.bits .u64))))).fdiv (2^(min (7:Int).toNat (IntKind.bits .u64)))))*2^(min (17:Int).toNat (IntKind.bits .u64))))))else none else none else none)
theorem jet :mK 207 ⟨⟨[.box 900000 0],[(900000,false,[.pv (.int .u64)])]⟩,⟨[.pv (.int .u64)],[(900000,false,[.pv (.int .u64)])]⟩,c1A (k__slices_xorshift_Next_m N)⟩:=
 mO ja func207 rfl N .no _ (rs:=[900000])
section
variable {Y γ ρ : Type} (c : γ -> Y -> Y -> Option Int)
def swpG (d:List Y) (i j:Int) (k:List Y->Option ρ):Option ρ:=
 if 0<=j/\j<(d.length:Int)then oB (d[j.toNat]?) fun e=>if 0<=i/\i<(d.length:Int)then oB (d[i.toNat]?) fun e2=>
  if 0<=i/\i<(d.length:Int)then oB (d[i.toNat]?) fun e3=>if 0<=j/\j<((d.set i.toNat e).length:Int)then oB ((d.set i.toNat e)[j.toNat]?) fun e4=>k ((d.set i.toNat e).set j.toNat e2)
  else none else none else none else none
def cmpG (ks:γ) (d:List Y) (i j:Int) (k:Int->Option ρ):Option ρ:=
 if 0<=i/\i<(d.length:Int)then oB (d[i.toNat]?) fun e=>if 0<=j/\j<(d.length:Int)then oB (d[j.toNat]?) fun e2=>oB (c ks e e2) k else none else none
def cmpP (ks:γ) (d:List Y) (j:Int) (k:Int->Option ρ):Option ρ:=
 if 0<=j/\j<(d.length:Int)then oB (d[j.toNat]?) fun e=>if fits (j-1)then if 0<=(j-1)/\(j-1)<(d.length:Int)then oB (d[(j-1).toNat]?) fun e2=>oB (c ks e e2) k else none else none else none
def swpP (d:List Y) (j:Int) (k:List Y->Option ρ):Option ρ:=if fits (j-1)then if fits (j-1)then swpG d j (j-1) k else none else none
def insG (N:Nat) (d:List Y) (a b:Int) (ks:γ):Option (List Y):=
 if fits (a+1)then iter (fun go (g:List Y×Int×Int×γ×Int)=>
  match g with
  |(d2,a2,b2,ks2,i)=>
  bif decide (i<b2)then
   iter (fun go2 (g:List Y×Int×Int×γ×Int×Int)=>
    match g with
    |(d3,a3,b3,ks3,i2,j)=>
    bif decide (a3<j)then cmpP c ks3 d3 j fun r=>bif decide (r<0)then swpP d3 j fun d=>if fits (j-1)then go2 (d,a3,b3,ks3,i2,j-1)else none
     else if fits (i2+1)then go (d3,a3,b3,ks3,i2+1)else none
    else if fits (i2+1)then go (d3,a3,b3,ks3,i2+1)else none) N (d2,a2,b2,ks2,i,i)
  else some d2) N (d,a,b,ks,a+1)else none
def siftG (N:Nat) (data:List Y) (lo:Int) (hi:Int) (first:Int) (cmp:γ):Option ((List Y)):=
 (iter (fun go (g:(List Y)×Int×Int×γ×Int)=>
   match g with
   |(data2,hi2,first2,cmp2,root)=>
   (if fits (2*root)then(if fits ((2*root)+1)then(bif(decide (hi2<=((2*root)+1)))then
      (some data2)
      else
      (meet (fun(g:(List Y)×Int×Int×γ×Int×Int)=>
        match g with
        |(data3,hi3,first3,cmp3,root2,child)=>
        (if fits (first3+root2)then(if 0<=(first3+root2)/\(first3+root2)<(data3.length:Int)then
          (oB (data3[(first3+root2).toNat]?) fun e3=>
           (if fits (first3+child)then(if 0<=(first3+child)/\(first3+child)<(data3.length:Int)then
             (oB (data3[(first3+child).toNat]?) fun e4=>
              (oB (c cmp3 e3 e4) fun r2=>
               (bif(!(decide (r2<0)))then
                (some data3)
                else
                (if fits (first3+root2)then(if fits (first3+child)then(if fits (first3+child)then(if 0<=(first3+child)/\(first3+child)<(data3.length:Int)then
                    (oB (data3[(first3+child).toNat]?) fun e5=>
                     (if fits (first3+root2)then(if 0<=(first3+root2)/\(first3+root2)<(data3.length:Int)then
                       (oB (data3[(first3+root2).toNat]?) fun e6=>
                        (if 0<=(first3+root2)/\(first3+root2)<(data3.length:Int)then
                         (oB (data3[(first3+root2).toNat]?) fun e7=>
                          (if 0<=(first3+child)/\(first3+child)<((data3.set (first3+root2).toNat e5).length:Int)then
                           (oB ((data3.set (first3+root2).toNat e5)[(first3+child).toNat]?) fun e8=>
                            (go (((data3.set (first3+root2).toNat e5).set (first3+child).toNat e6),hi3,first3,cmp3,child)))
                           else none))
                         else none))
                       else none)else none))
                    else none)else none)else none)else none))))
             else none)else none))
          else none)else none)) fun J=>
       (if fits (((2*root)+1)+1)then(bif(decide ((((2*root)+1)+1)<hi2))then
         (if fits (first2+((2*root)+1))then(if 0<=(first2+((2*root)+1))/\(first2+((2*root)+1))<(data2.length:Int)then
           (oB (data2[(first2+((2*root)+1)).toNat]?) fun e=>
            (if fits (first2+((2*root)+1))then(if fits ((first2+((2*root)+1))+1)then(if 0<=((first2+((2*root)+1))+1)/\((first2+((2*root)+1))+1)<(data2.length:Int)then
               (oB (data2[((first2+((2*root)+1))+1).toNat]?) fun e2=>
                (oB (c cmp2 e e2) fun r=>
                 (bif(decide (r<0))then
                  (if fits (((2*root)+1)+1)then(J (data2,hi2,first2,cmp2,root,(((2*root)+1)+1)))else none)
                  else
                  (J (data2,hi2,first2,cmp2,root,((2*root)+1))))))
               else none)else none)else none))
           else none)else none)
         else
         (J (data2,hi2,first2,cmp2,root,((2*root)+1))))else none)))else none)else none)) N (data,hi,first,cmp,lo))
def heapG (N:Nat) (data:List Y) (a:Int) (b:Int) (cmp:γ):Option ((List Y)):=
 (if fits (b-a)then(if fits ((b-a)-1)then(if 2≠0 then
    (if fits (((b-a)-1).tdiv 2)then(iter (fun go (g:(List Y)×γ×Int×Int×Int×Int)=>
       match g with
       |(data2,cmp2,first,lo,hi,i)=>
       (bif(decide ((0:Int)<=i))then
        (oB (siftG c N data2 i hi first cmp2) fun r=>
         (if fits (i-1)then(go (r,cmp2,first,lo,hi,(i-1)))else none))
        else
        (if fits (hi-1)then(iter (fun go2 (g:(List Y)×γ×Int×Int×Int)=>
           match g with
           |(data3,cmp3,first2,lo2,i2)=>
           (bif(decide ((0:Int)<=i2))then
            (if fits (first2+i2)then(if fits (first2+i2)then swpG data3 first2 (first2+i2) fun d=>(oB (siftG c N d lo2 i2 first2 cmp3) fun r2=>
                       (if fits (i2-1)then(go2 (r2,cmp3,first2,lo2,(i2-1)))else none))else none)else none)
            else
            (some data3))) N (data2,cmp2,first,lo,(hi-1)))else none))) N (data,cmp,a,0,(b-a),(((b-a)-1).tdiv 2)))else none)
    else none)else none)else none)
def breakG (N:Nat) (data:List Y) (a:Int) (b:Int) (cmp:γ):Option (List Y):=
 (if fits (b-a)then(bif(decide ((8:Int)<=(b-a)))then
   (oB (k_slices_nextPowerOfTwo_m N (b-a)) fun r=>
    (if 4≠0 then
     (if fits ((b-a).tdiv 4)then(if fits (((b-a).tdiv 4)*2)then(if fits (a+(((b-a).tdiv 4)*2))then(if fits ((a+(((b-a).tdiv 4)*2))-1)then(iter (fun go (g:(List Y)×Int×Int×Int×Int×Int)=>
           match g with
           |(data2,a2,length,modulus,idx0,random)=>
           (if 4≠0 then
            (if fits (length.tdiv 4)then(if fits ((length.tdiv 4)*2)then(if fits (a2+((length.tdiv 4)*2))then(if fits ((a2+((length.tdiv 4)*2))+1)then(bif(decide (idx0<=((a2+((length.tdiv 4)*2))+1)))then
                 (oB (k__slices_xorshift_Next_m N random) fun r2=>
                  (meet (fun(g:(List Y)×Int×Int×Int×Int×Int×Int)=>
                    match g with
                    |(data3,a3,length2,modulus2,idx02,other,random2)=>
                    (if fits (a3+other)then(if fits (a3+other)then swpG data3 idx02 (a3+other) fun d=>(if fits (idx02+1)then(go (d,a3,length2,modulus2,(idx02+1),random2))else none)else none)else none)) fun J=>
                   (bif(decide (length<=(IntKind.i64.wrap (bitsI .and .u64 r2.1 (IntKind.u64.wrap (modulus-1))))))then
                    (if fits ((IntKind.i64.wrap (bitsI .and .u64 r2.1 (IntKind.u64.wrap (modulus-1))))-length)then(J (data2,a2,length,modulus,idx0,((IntKind.i64.wrap (bitsI .and .u64 r2.1 (IntKind.u64.wrap (modulus-1))))-length),r2.2))else none)
                    else
                    (J (data2,a2,length,modulus,idx0,(IntKind.i64.wrap (bitsI .and .u64 r2.1 (IntKind.u64.wrap (modulus-1)))),r2.2)))))
                 else
                 (some data2))else none)else none)else none)else none)
            else none)) N (data,a,(b-a),r,((a+(((b-a).tdiv 4)*2))-1),(IntKind.u64.wrap (b-a))))else none)else none)else none)else none)
     else none))
   else
   (some data))else none)
def order2G (N:Nat) (data:List Y) (a:Int) (b:Int) (cmp:γ) (b2:Int):Option (Int×Int×(List Y)×Int):=
 cmpG c cmp data b a fun r=>(bif(decide (r<0))then(if fits (b2+1)then(some (b,a,data,(b2+1)))else none)else(some (a,b,data,b2)))
def medianG (N:Nat) (data:List Y) (a:Int) (b:Int) (c0:Int) (cmp:γ) (b2:Int):Option (Int×(List Y)×Int):=
 (oB (order2G c N data a b cmp b2) fun r=>
  (oB (order2G c N r.2.2.1 r.2.1 c0 cmp r.2.2.2) fun r2=>
   (oB (order2G c N r2.2.2.1 r.1 r2.1 cmp r2.2.2.2) fun r3=>
    (some (r3.2.1,r3.2.2.1,r3.2.2.2)))))
def medianAdjacentG (N:Nat) (data:List Y) (a:Int) (cmp:γ) (b:Int):Option (Int×(List Y)×Int):=
 (if fits (a-1)then(if fits (a+1)then(oB (medianG c N data (a-1) a (a+1) cmp b) fun r=>
    (some (r.1,r.2.1,r.2.2)))else none)else none)
def choosePivotG (N:Nat) (data:List Y) (a:Int) (b:Int) (cmp:γ):Option (Int×Int×(List Y)):=
 (if fits (b-a)then(if 4≠0 then
   (if fits ((b-a).tdiv 4)then(if fits (((b-a).tdiv 4)*1)then(if fits (a+(((b-a).tdiv 4)*1))then(if 4≠0 then
       (if fits ((b-a).tdiv 4)then(if fits (((b-a).tdiv 4)*2)then(if fits (a+(((b-a).tdiv 4)*2))then(if 4≠0 then
           (if fits ((b-a).tdiv 4)then(if fits (((b-a).tdiv 4)*3)then(if fits (a+(((b-a).tdiv 4)*3))then(meet (fun(g:(List Y)×Int×Int)=>
                match g with
                |(data3,j2,swaps2)=>
                (bif(decide (swaps2=0))then
                 (some (j2,1,data3))
                 else
                 (bif(decide (swaps2=12))then
                  (some (j2,2,data3))
                  else
                  (some (j2,0,data3))))) fun J=>
               (bif(decide ((8:Int)<=(b-a)))then
                (meet (fun(g:(List Y)×γ×Int×Int×Int×Int)=>
                  match g with
                  |(data2,cmp2,i,j,k,swaps)=>
                  (oB (medianG c N data2 i j k cmp2 swaps) fun r4=>
                   (J (r4.2.1,r4.1,r4.2.2)))) fun J2=>
                 (bif(decide ((50:Int)<=(b-a)))then
                  (oB (medianAdjacentG c N data (a+(((b-a).tdiv 4)*1)) cmp 0) fun r=>
                   (oB (medianAdjacentG c N r.2.1 (a+(((b-a).tdiv 4)*2)) cmp r.2.2) fun r2=>
                    (oB (medianAdjacentG c N r2.2.1 (a+(((b-a).tdiv 4)*3)) cmp r2.2.2) fun r3=>
                     (J2 (r3.2.1,cmp,r.1,r2.1,r3.1,r3.2.2)))))
                  else
                  (J2 (data,cmp,(a+(((b-a).tdiv 4)*1)),(a+(((b-a).tdiv 4)*2)),(a+(((b-a).tdiv 4)*3)),0))))
                else
                (J (data,(a+(((b-a).tdiv 4)*2)),0))))else none)else none)else none)
           else none)else none)else none)else none)
       else none)else none)else none)else none)
   else none)else none)
def reverseRangeG (N:Nat) (data:List Y) (a:Int) (b:Int) (cmp:γ):Option ((List Y)):=
 (if fits (b-1)then(iter (fun go (g:(List Y)×Int×Int)=>
    match g with
    |(data2,i,j)=>
    (bif(decide (i<j))then swpG data2 i j fun d=>(if fits (i+1)then(if fits (j-1)then(go (d,(i+1),(j-1)))else none)else none)
     else
     (some data2))) N (data,a,(b-1)))else none)
def shDown (k:(List Y×Int×Int×γ×Int×Int)->Option ρ) (N:Nat) (g:List Y×Int×Int×γ×Int×Int×Int):Option ρ:=
 iter (fun go3 (g:(List Y)×Int×Int×γ×Int×Int×Int)=>
  match g with
  |(d,a,b,ks,i,j,j4)=>
  bif decide ((1:Int)<=j4)then cmpP c ks d j4 fun r=>bif !decide (r<0)then k (d,a,b,ks,i,j)else swpP d j4 fun d'=>if fits (j4-1)then go3 (d',a,b,ks,i,j,j4-1)else none
  else k (d,a,b,ks,i,j)) N g
def shUp (k:(List Y×Int×Int×γ×Int×Int)->Option ρ) (N:Nat) (g:List Y×Int×Int×γ×Int×Int×Int):Option ρ:=
 iter (fun go4 (g:(List Y)×Int×Int×γ×Int×Int×Int)=>
  match g with
  |(d,a,b,ks,i,j,j4)=>
  bif decide (j4<b)then cmpP c ks d j4 fun r=>bif !decide (r<0)then(if fits (j+1)then k (d,a,b,ks,i,j+1)else none)else swpP d j4 fun d'=>if fits (j4+1)then go4 (d',a,b,ks,i,j,j4+1)else none
  else if fits (j+1)then k (d,a,b,ks,i,j+1)else none) N g
def pisX (N:Nat) (go:(List Y×Int×Int×γ×Int×Int)->Option (Bool×List Y)) (d:List Y) (a b:Int) (ks:γ) (i j:Int):Option (Bool×List Y):=
 bif decide (i=b)then some (true,d)else if fits (b-a)then bif decide ((b-a)<50)then some (false,d)else
  swpP d i fun d'=>meet (fun(g:List Y×Int×Int×γ×Int×Int)=>
   match g with
   |(d5,a5,b5,ks5,i4,j5)=>
   if fits (b5-i4)then bif decide ((2:Int)<=(b5-i4))then if fits (i4+1)then shUp c go N (d5,a5,b5,ks5,i4,j5,i4+1)else none
    else(if fits (j5+1)then go (d5,a5,b5,ks5,i4,j5+1)else none)else none) fun J=>
   if fits (i-a)then bif decide ((2:Int)<=(i-a))then if fits (i-1)then shDown c J N (d',a,b,ks,i,j,i-1)else none else J (d',a,b,ks,i,j)else none
 else none
def pisG (N:Nat) (d:List Y) (a b:Int) (ks:γ):Option (Bool×List Y):=
 if fits (a+1)then iter (fun go (g:List Y×Int×Int×γ×Int×Int)=>
  match g with
  |(d2,a2,b2,ks2,i,j)=>
  bif decide (j<5)then
   iter (fun go2 (g:List Y×Int×Int×γ×Int×Int)=>
    match g with
    |(d3,a3,b3,ks3,i2,j2)=>
    bif decide (i2<b3)then cmpP c ks3 d3 i2 fun r=>bif !decide (r<0)then(if fits (i2+1)then go2 (d3,a3,b3,ks3,i2+1,j2)else none)else pisX c N go d3 a3 b3 ks3 i2 j2
    else pisX c N go d3 a3 b3 ks3 i2 j2) N (d2,a2,b2,ks2,i,j)
  else some (false,d2)) N (d,a,b,ks,a+1,0)else none
def partE (go3:(List Y×Int×γ×Int×Int)->Option (Int×Bool×List Y)) (fl:Bool) (g:List Y×Int×γ×Int×Int):Option (Int×Bool×List Y):=
 match g with
 |(d,a,ks,i,j)=>
 bif decide (j<i)then swpG d j a fun d'=>some (j,fl,d')else swpG d i j fun d'=>if fits (i+1)then if fits (j-1)then go3 (d',a,ks,i+1,j-1)else none else none
def partD (k:(List Y×Int×γ×Int×Int)->Option ρ) (N:Nat) (g:List Y×Int×γ×Int×Int):Option ρ:=
 iter (fun go (g:List Y×Int×γ×Int×Int)=>
  match g with
  |(d,a,ks,i,j)=>
  bif decide (i<=j)then cmpG c ks d j a fun r=>bif !decide (r<0)then(if fits (j-1)then go (d,a,ks,i,j-1)else none)else k (d,a,ks,i,j)
  else k (d,a,ks,i,j)) N g
def partU (k:(List Y×Int×γ×Int×Int)->Option ρ) (N:Nat) (g:List Y×Int×γ×Int×Int):Option ρ:=
 iter (fun go (g:List Y×Int×γ×Int×Int)=>
  match g with
  |(d,a,ks,i,j)=>
  bif decide (i<=j)then cmpG c ks d i a fun r=>bif decide (r<0)then(if fits (i+1)then go (d,a,ks,i+1,j)else none)else k (d,a,ks,i,j)
  else k (d,a,ks,i,j)) N g
def partG (N:Nat) (d:List Y) (a b p:Int) (ks:γ):Option (Int×Bool×List Y):=
 swpG d a p fun d=>if fits (a+1)then if fits (b-1)then
  partU c (fun g=>partD c (partE (fun g=>iter (fun go3 g=>partU c (fun g=>partD c (partE go3 false) N g) N g) N g) true) N g) N (d,a,ks,a+1,b-1)
 else none else none
def peqE (go:(List Y×Int×γ×Int×Int)->Option (Int×List Y)) (g:List Y×Int×γ×Int×Int):Option (Int×List Y):=
 match g with
 |(d,a,ks,i,j)=>
 bif decide (j<i)then some (i,d)else swpG d i j fun d'=>if fits (i+1)then if fits (j-1)then go (d',a,ks,i+1,j-1)else none else none
def peqD (k:(List Y×Int×γ×Int×Int)->Option ρ) (N:Nat) (g:List Y×Int×γ×Int×Int):Option ρ:=
 iter (fun go (g:List Y×Int×γ×Int×Int)=>
  match g with
  |(d,a,ks,i,j)=>
  bif decide (i<=j)then cmpG c ks d a j fun r=>bif decide (r<0)then(if fits (j-1)then go (d,a,ks,i,j-1)else none)else k (d,a,ks,i,j)
  else k (d,a,ks,i,j)) N g
def peqU (k:(List Y×Int×γ×Int×Int)->Option ρ) (N:Nat) (g:List Y×Int×γ×Int×Int):Option ρ:=
 iter (fun go (g:List Y×Int×γ×Int×Int)=>
  match g with
  |(d,a,ks,i,j)=>
  bif decide (i<=j)then cmpG c ks d a i fun r=>bif !decide (r<0)then(if fits (i+1)then go (d,a,ks,i+1,j)else none)else k (d,a,ks,i,j)
  else k (d,a,ks,i,j)) N g
def peqG (N:Nat) (d:List Y) (a b p:Int) (ks:γ):Option (Int×List Y):=
 swpG d a p fun d=>if fits (a+1)then if fits (b-1)then iter (fun go g=>peqU c (fun g=>peqD c (peqE go) N g) N g) N (d,a,ks,a+1,b-1)else none else none
def pdqG (hs:List Y->Int->Int->γ->Option (List Y)) (pe:List Y->Int->Int->Int->γ->Option (Int×List Y)) (N:Nat):(D:Nat)->(List Y)->Int->Int->Int->γ->Option ((List Y))
 |0,_,_,_,_,_=>none
 |D+1,data,a,b,limit,cmp=>
 (iter (fun go (g:(List Y)×Int×Int×Int×γ×Bool×Bool)=>
   match g with
   |(data2,a2,b2,limit2,cmp2,wasBalanced,wasPartitioned)=>
   (if fits (b2-a2)then(bif(decide ((b2-a2)<=12))then
     (oB (insG c N data2 a2 b2 cmp2) fun r=>
      (some r))
     else
     (bif(decide (limit2=0))then
      (oB (hs data2 a2 b2 cmp2) fun r2=>
       (some r2))
      else
      (meet (fun(g:(List Y)×Int×Int×Int×γ×Bool×Bool×Int)=>
        match g with
        |(data3,a3,b3,limit3,cmp3,wasBalanced2,wasPartitioned2,length)=>
        (oB (choosePivotG c N data3 a3 b3 cmp3) fun r4=>
         (meet (fun(g:(List Y)×Int×Int×Int×γ×Bool×Bool×Int×Int×Int)=>
           match g with
           |(data4,a4,b4,limit4,cmp4,wasBalanced3,wasPartitioned3,length2,pivot,hint)=>
           (meet (fun(g:(List Y)×Int×Int×Int×γ×Bool×Bool×Int×Int)=>
             match g with
             |(data5,a5,b5,limit5,cmp5,wasBalanced4,wasPartitioned4,length3,pivot2)=>
             (bif(decide ((0:Int)<a5))then
              (if fits (a5-1)then(if 0<=(a5-1)/\(a5-1)<(data5.length:Int)then
                (oB (data5[(a5-1).toNat]?) fun e=>
                 (if 0<=pivot2/\pivot2<(data5.length:Int)then
                  (oB (data5[pivot2.toNat]?) fun e2=>
                   (oB (c cmp5 e e2) fun r7=>
                    (bif(!(decide (r7<0)))then
                     (oB (pe data5 a5 b5 pivot2 cmp5) fun r8=>
                      (go (r8.2,r8.1,b5,limit5,cmp5,wasBalanced4,wasPartitioned4)))
                     else
                     (oB (partG c N data5 a5 b5 pivot2 cmp5) fun r9=>
                      (if fits (r9.1-a5)then(if fits (b5-r9.1)then(if 8≠0 then
                         (if fits (length3.tdiv 8)then(bif(decide ((r9.1-a5)<(b5-r9.1)))then
                           (oB (pdqG hs pe N D r9.2.2 a5 r9.1 limit5 cmp5) fun r10=>
                            (if fits (r9.1+1)then(go (r10,(r9.1+1),b5,limit5,cmp5,(decide ((length3.tdiv 8)<=(r9.1-a5))),r9.2.1))else none))
                           else
                           (if fits (r9.1+1)then(oB (pdqG hs pe N D r9.2.2 (r9.1+1) b5 limit5 cmp5) fun r11=>
                             (go (r11,a5,r9.1,limit5,cmp5,(decide ((length3.tdiv 8)<=(b5-r9.1))),r9.2.1)))else none))else none)
                         else none)else none)else none)))))
                  else none))
                else none)else none)
              else
              (oB (partG c N data5 a5 b5 pivot2 cmp5) fun r12=>
               (if fits (r12.1-a5)then(if fits (b5-r12.1)then(if 8≠0 then
                  (if fits (length3.tdiv 8)then(bif(decide ((r12.1-a5)<(b5-r12.1)))then
                    (oB (pdqG hs pe N D r12.2.2 a5 r12.1 limit5 cmp5) fun r13=>
                     (if fits (r12.1+1)then(go (r13,(r12.1+1),b5,limit5,cmp5,(decide ((length3.tdiv 8)<=(r12.1-a5))),r12.2.1))else none))
                    else
                    (if fits (r12.1+1)then(oB (pdqG hs pe N D r12.2.2 (r12.1+1) b5 limit5 cmp5) fun r14=>
                      (go (r14,a5,r12.1,limit5,cmp5,(decide ((length3.tdiv 8)<=(b5-r12.1))),r12.2.1)))else none))else none)
                  else none)else none)else none)))) fun J3=>
            (bif wasBalanced3 then
             (bif wasPartitioned3 then
              (bif(decide (hint=1))then
               (oB (pisG c N data4 a4 b4 cmp4) fun r6=>
                (bif r6.1 then
                 (some r6.2)
                 else
                 (J3 (r6.2,a4,b4,limit4,cmp4,wasBalanced3,wasPartitioned3,length2,pivot))))
               else
               (J3 (data4,a4,b4,limit4,cmp4,wasBalanced3,wasPartitioned3,length2,pivot)))
              else
              (J3 (data4,a4,b4,limit4,cmp4,wasBalanced3,wasPartitioned3,length2,pivot)))
             else
             (J3 (data4,a4,b4,limit4,cmp4,wasBalanced3,wasPartitioned3,length2,pivot))))) fun J2=>
          (bif(decide (r4.2.1=2))then
           (oB (reverseRangeG N r4.2.2 a3 b3 cmp3) fun r5=>
            (if fits (b3-1)then(if fits (r4.1-a3)then(if fits ((b3-1)-(r4.1-a3))then(J2 (r5,a3,b3,limit3,cmp3,wasBalanced2,wasPartitioned2,length,((b3-1)-(r4.1-a3)),1))else none)else none)else none))
           else
           (J2 (r4.2.2,a3,b3,limit3,cmp3,wasBalanced2,wasPartitioned2,length,r4.1,r4.2.1)))))) fun J=>
       (bif(!wasBalanced)then
        (oB (breakG N data2 a2 b2 cmp2) fun r3=>
         (if fits (limit2-1)then(J (r3,a2,b2,(limit2-1),cmp2,wasBalanced,wasPartitioned,(b2-a2)))else none))
        else
        (J (data2,a2,b2,limit2,cmp2,wasBalanced,wasPartitioned,(b2-a2)))))))else none)) N (data,a,b,limit,cmp,true,true))
end
def cmp669 (N:Nat):(Unit)->Z0->Z0->Option Int:=(fun(cmp:Unit) (e e2:Int×Z13×Z9)=>i_allAlive_1_m N e.1 e.2.1 e.2.2 e2.1 e2.2.1 e2.2.2)
def jIw :Sh:=⟨.mtk 800000 Y4 79 false::pI::pI:: .clo 80 []::dz 4 (pI::dz 44 []),[]⟩
def jJn :Sh:=⟨.mtk 800000 Y4 79 false::pI::pI:: .clo 80 []::dz 4 (pI::pI::dz 43 []),[]⟩
def jJk (c:List Z0) (d:Int) (a:Int) (b:Unit):Z15:=insG (cmp669 N) N c d a b
 
theorem jIC :mK 179 (bX [.mtk 800000 Y4 79 false,pI,pI,.clo 80 []] [.tup [],.mtk 800000 Y4 79 false] (c4A (jJk N))):=
 mO (fC (jHC N) ja) func179 rfl N (.seq .no (.block (.loop jIw (.seq .no (.seq (.block (.seq .no (.block (.loop jJn .no)))) .no))))) _ (rs:=[800000])
def jI7 :Sh:=⟨.mtk 800000 Y4 79 false:: .dead::pI::pI:: .clo 80 []::dz 5 (pI::dz 71 []),[]⟩
def jJE :Sh:=⟨.mtk 800000 Y4 79 false:: .dead::pI::pI:: .clo 80 []::dz 5 (pI::pI::dz 70 []),[]⟩
def jJr (b:List Z0) (d:Int) (c:Int) (e:Int) (a:Unit):Z15:=siftG (cmp669 N) N b d c e a
 
theorem jIA :mK 210 (bX [.mtk 800000 Y4 79 false,pI,pI,pI,.clo 80 []] [.tup [],.mtk 800000 Y4 79 false] (c5A (jJr N))):=
 mO (fC (jHC N) ja) func210 rfl N (.seq .no (.block (.loop jI7 (.block (.seq .no (.seq .no (.meet jJE .no .no))))))) _ (rs:=[800000])
def jH9 :Sh:=⟨.mtk 800000 Y4 79 false:: .dead:: .dead:: .clo 80 []::dz 4 (pI::pI::pI::pI::dz 48 []),[]⟩
def jIK :Sh:=⟨.mtk 800000 Y4 79 false:: .dead:: .dead:: .clo 80 []::dz 4 (pI::pI:: .dead:: .dead::pI::dz 47 []),[]⟩
def jIj (c:List Z0) (d:Int) (a:Int) (b:Unit):Z15:=heapG (cmp669 N) N c d a b
 
theorem jJa :mK 180 (bX [.mtk 800000 Y4 79 false,pI,pI,.clo 80 []] [.tup [],.mtk 800000 Y4 79 false] (c4A (jIj N))):=
 mO (fC (jIA N) ja) func180 rfl N (.seq .no (.seq .no (.seq .no (.seq (.seq .no (.block (.loop jH9 .no))) (.seq .no (.block (.loop jIK .no))))))) _ (rs:=[800000])
def jH6 :Sh:=⟨.mtk 800000 Y4 79 false::pI::dz 6 (pI:: .box 9 0:: .pv (.int .u64)::pI::dz 55 []),[(9,false,[.pv (.int .u64)])]⟩
def jJm :Sh:=⟨.mtk 800000 Y4 79 false::pI::dz 6 (pI:: .box 9 0:: .pv (.int .u64)::pI::pI::dz 54 []),[(9,false,[.pv (.int .u64)])]⟩
def jI4 (c:List Z0) (d:Int) (a:Int) (b:Unit):Z15:=breakG N c d a b
 
theorem jIs :mK 181 (bX [.mtk 800000 Y4 79 false,pI,pI,.clo 80 []] [.tup [],.mtk 800000 Y4 79 false] (c4A (jI4 N))):=
 mO (fC (jhv N) (fC (jet N) ja)) func181 rfl N (.seq .no (.seq .no (.cond (.seq .no (.seq .no (.seq .no (.block (.loop jH6 (.seq .no (.seq (.block (.seq .no (.meet jJm .no .no))) .no))))))) .no))) _ (rs:=[800000])
def jJC (d:List Z0) (e:Int) (a:Int) (c:Unit) (b:Int):Option (Int×Int×(List Z0)×Int):=order2G (cmp669 N) N d e a c b
 
theorem jIo :mK 221 ⟨⟨[.mtk 800000 Y4 79 false,pI,pI,.box 900003 0,.clo 80 []],[(900003,false,[pI])]⟩,⟨[.tup [pI,pI],.mtk 800000 Y4 79 false],[(900003,false,[pI])]⟩,c5A (jJC N)⟩:=
 mO (fC (jHC N) ja) func221 rfl N .no _ (rs:=[900003,800000])
def jII (d:List Z0) (e:Int) (a:Int) (f:Int) (c:Unit) (b:Int):Option (Int×(List Z0)×Int):=medianG (cmp669 N) N d e a f c b
 
theorem jHQ :mK 212 ⟨⟨[.mtk 800000 Y4 79 false,pI,pI,pI,.box 900004 0,.clo 80 []],[(900004,false,[pI])]⟩,⟨[pI,.mtk 800000 Y4 79 false],[(900004,false,[pI])]⟩,c6A (jII N)⟩:=
 mO (fC (jIo N) ja) func212 rfl N .no _ (rs:=[900004,800000])
def jIn (c:List Z0) (d:Int) (b:Unit) (a:Int):Option (Int×(List Z0)×Int):=medianAdjacentG (cmp669 N) N c d b a
 
theorem jI9 :mK 211 ⟨⟨[.mtk 800000 Y4 79 false,pI,.box 900002 0,.clo 80 []],[(900002,false,[pI])]⟩,⟨[pI,.mtk 800000 Y4 79 false],[(900002,false,[pI])]⟩,c4A (jIn N)⟩:=
 mO (fC (jHQ N) ja) func211 rfl N .no _ (rs:=[900002,800000])
def jJw :Sh:=⟨.mtk 800000 Y4 79 false:: .dead:: .dead:: .clo 80 []::dz 7 (.box 11 0::pI::pI::pI::dz 48 []),[(11,false,[pI])]⟩
def jI6 :Sh:=⟨.mtk 800000 Y4 79 false::dz 10 (.box 11 0:: .dead::pI::dz 49 []),[(11,false,[pI])]⟩
def jIq (c:List Z0) (d:Int) (a:Int) (b:Unit):Option (Int×Int×(List Z0)):=choosePivotG (cmp669 N) N c d a b
 
theorem jJz :mK 182 (bX [.mtk 800000 Y4 79 false,pI,pI,.clo 80 []] [.tup [pI,pI],.mtk 800000 Y4 79 false] (c4A (jIq N))):=
 mO (fC (jI9 N) (fC (jHQ N) ja)) func182 rfl N (.seq .no (.seq .no (.seq .no (.seq .no (.seq .no (.seq .no (.meet jI6 (.seq .no (.cond (.meet jJw .no .no) .no)) .no))))))) _ (rs:=[800000])
def jJB :Sh:=⟨.mtk 800000 Y4 79 false::dz 7 (pI::pI::dz 24 []),[]⟩
def jJs (c:List Z0) (d:Int) (a:Int) (b:Unit):Z15:=reverseRangeG N c d a b
 
theorem jIk :mK 183 (bX [.mtk 800000 Y4 79 false,pI,pI,.clo 80 []] [.tup [],.mtk 800000 Y4 79 false] (c4A (jJs N))):=
 mO ja func183 rfl N (.seq .no (.seq .no (.block (.loop jJB .no)))) _ (rs:=[800000])
def jHL :Sh:=⟨.mtk 800000 Y4 79 false::pI::pI:: .clo 80 []::dz 5 (pI::pI::dz 130 []),[]⟩
def jJh :Sh:=⟨.mtk 800000 Y4 79 false::pI::pI:: .clo 80 []::dz 5 (pI::pI::pI::dz 129 []),[]⟩
def jIF :Sh:=⟨.mtk 800000 Y4 79 false::pI::pI:: .clo 80 []::dz 5 (pI::pI:: .dead::pI::dz 128 []),[]⟩
def jIx (c:List Z0) (d:Int) (a:Int) (b:Unit):Option (Bool×(List Z0)):=pisG (cmp669 N) N c d a b
 
theorem jI1 :mK 184 (bX [.mtk 800000 Y4 79 false,pI,pI,.clo 80 []] [pB,.mtk 800000 Y4 79 false] (c4A (jIx N))):=
 mO (fC (jHC N) ja) func184 rfl N (.seq .no (.seq .no (.seq (.seq .no (.block (.loop jHL (.seq .no (.seq (.block (.seq (.block (.loop jHL .no)) (.seq .no (.seq .no (.seq .no (.meet jHL (.seq .no (.cond (.seq .no (.block (.loop jJh .no))) .no)) (.seq .no (.cond (.seq .no (.block (.loop jIF .no))) .no)))))))) .no))))) .no))) _ (rs:=[800000])
def jHK :Sh:=⟨.mtk 800000 Y4 79 false::pI:: .dead:: .dead:: .clo 80 []::dz 6 (pI::pI::dz 77 []),[]⟩
def jIh (c:List Z0) (d:Int) (a:Int) (e:Int) (b:Unit):Option (Int×(List Z0)):=peqG (cmp669 N) N c d a e b
 
theorem jH7 :mK 185 (bX [.mtk 800000 Y4 79 false,pI,pI,pI,.clo 80 []] [pI,.mtk 800000 Y4 79 false] (c5A (jIh N))):=
 mO (fC (jHC N) ja) func185 rfl N (.seq .no (.seq .no (.seq .no (.seq (.block (.loop jHK (.block (.seq (.block (.loop jHK .no)) (.seq (.block (.loop jHK .no)) .no))))) .no)))) _ (rs:=[800000])
def jHD :Sh:=⟨.mtk 800000 Y4 79 false::pI:: .dead:: .dead:: .clo 80 []::dz 7 (pI::pI::dz 164 []),[]⟩
def jIZ (c:List Z0) (d:Int) (a:Int) (e:Int) (b:Unit):Option (Int×Bool×(List Z0)):=partG (cmp669 N) N c d a e b
 
theorem jJc :mK 186 (bX [.mtk 800000 Y4 79 false,pI,pI,pI,.clo 80 []] [.tup [pI,pB],.mtk 800000 Y4 79 false] (c5A (jIZ N))):=
 mO (fC (jHC N) ja) func186 rfl N (.seq .no (.seq .no (.seq .no (.seq (.block (.loop jHD .no)) (.seq (.block (.loop jHD .no)) (.seq .no (.seq .no (.seq .no (.seq .no (.seq (.block (.loop jHD (.block (.seq (.block (.loop jHD .no)) (.seq (.block (.loop jHD .no)) .no))))) .no)))))))))) _ (rs:=[800000])
def jIv :Sh:=⟨.mtk 800000 Y4 79 false::pI::pI::pI:: .clo 80 []::dz 5 (pB::pB::dz 136 []),[]⟩
def jIt :Sh:=⟨.mtk 800000 Y4 79 false::pI::pI::pI:: .clo 80 []::dz 5 (pB::pB::pI::pI::dz 134 []),[]⟩
def jIU :Sh:=⟨.mtk 800000 Y4 79 false::pI::pI::pI:: .clo 80 []::dz 5 (pB::pB::pI::pI::pI::dz 133 []),[]⟩
def jID :Sh:=⟨.mtk 800000 Y4 79 false::pI::pI::pI:: .clo 80 []::dz 5 (pB::pB::pI::dz 135 []),[]⟩
def jHN (N D:Nat) (f:List Z0) (a b limit:Int) (e:Unit):Z15:=pdqG (cmp669 N) (fun d a b c=>heapG (cmp669 N) N d a b c) (fun d a b h c=>peqG (cmp669 N) N d a b h c) N D f a b limit e
 
def jHF (N D:Nat):Model:=⟨⟨[.mtk 800000 Y4 79 false,pI,pI,pI,.clo 80 []],[]⟩,⟨[.tup [],.mtk 800000 Y4 79 false],[]⟩,c5A (jHN N D)⟩
theorem jJo (N D:Nat) (ih:mK 138 (jHF N D)):mK 138 (jHF N (D+1)):=
 mO (fC ih (fC (jIC N) (fC (jJa N) (fC (jIs N) (fC (jJz N) (fC (jIk N) (fC (jI1 N) (fC (jHC N) (fC (jH7 N) (fC (jJc N) ja)))))))))) func138 rfl N (.seq .no (.seq .no (.block (.loop jIv (.block (.seq .no (.seq .no (.seq .no (.meet jID .no (.seq .no (.meet jIU .no (.meet jIt .no .no)))))))))))) (jHF N (D+1)) (rs:=[800000])
theorem jHV (N:Nat):∀D,mK 138 (jHF N D)
 |0=>modelOk_none ⟨_,func138,by decide,by kernel_rfl⟩ _ (fun a=>rfl)
 |D+1=>jJo N D (jHV N D)
def k_slices_SortFunc_669_m (a:List Z0) (d:Unit):Z15:=
 (oB (k_math_bits_Len_m N (IntKind.u64.wrap (a.length:Int))) fun b=>oB (jHN N N a 0 (a.length:Int) b ()) fun c=>some c)
theorem jIu :mK 79 (bX [.mtk 800000 Y4 79 false,.clo 80 []] [.tup [],.mtk 800000 Y4 79 false] (c2A (k_slices_SortFunc_669_m N))):=
 mO (fC (jda N) (fC (jHV N N) ja)) func79 rfl N .no _ (rs:=[800000])
def jH5 :Sh:=⟨dz 3 (.mtk 600003 Y4 79 false::dz 3 (.pv Y0::pI::pI::dz 11 [])),[]⟩
def i_allAlive_m (e:List Z3):Z15:=
 (iter (fun i (b,h,f,a)=>bif decide (a<f)then oB (idx h a) fun c=>(oB (i_Live_alive_m N c.1.1 c.1.2 c.2) fun d=>if room b.length d.length 56 then if fits (a+1)then i ((b++d),h,f,(a+1))else none else none)else oB (k_slices_SortFunc_669_m N b ()) fun j=>some j) N (([]:List Z0),e,(e.length:Int),(0:Int)))
theorem jHR :mK 31 (bX [.pv Y0] [.own 1 Y4 79 false] (c1A (i_allAlive_m N))):=
 mO (fC (jH4 N) (fC (jIu N) ja)) func31 rfl N (.seq .no (.seq .no (.seq (.seq .no (.block (.loop jH5 .no))) .no))) _ (wr:=[6,16])
def jIf :Sh:=⟨.dead:: .box 1 0::dz 14 (.pv Y0::pI::pI::dz 13 []),[(1,false,[.pv (.sl .str),.pv Y14,.pv Y0])]⟩
noncomputable def i_IndexOk_m (d:List Z2) (f:List Z4) (b:List Z3):Z8:=
 (oB (jaj N d f) fun l=>bif !l then some false else bif decide ((5:Int)<b.length)then some false else iter (fun n (i,k,a,j,h,e)=>bif decide (a<k)then oB (idx i a) fun c=>(oB (i_liveOk_m N j h c.1.1 c.1.2 c.2) fun p=>bif !p then some false else if fits (a+1)then n (i,k,(a+1),j,h,e)else none)else oB (i_allAlive_m N e) fun o=>oB (jbf N o) fun m=>some m) N (b,(b.length:Int),(0:Int),d,f,b))
theorem jIr :mK 27 (bX [.agg [.pv (.sl .str),.pv Y14,.pv Y0]] [pB] (c3A (i_IndexOk_m N))):=
 mO (fC (jdX N) (fC (jJD N) (fC (jHR N) (fC (jjU N) ja)))) func27 rfl N (.seq .no (.seq .no (.seq (.seq .no (.block (.loop jIf .no))) .no))) _
def jM7 :Sh:=⟨.dead:: .dead:: .box 2 0:: .box 3 0::dz 9 (.pv Y14::pI::pI::dz 17 []),[(2,false,[.nils,.nils]),(3,false,[.own 700300 .str 9 true,.own 700301 Y16 156 true])]⟩
def i_cloneConf_m (f:List Z2) (e:List Z4):Option ((List Z2)×(List Z4)):=
 (if room ([]:List Z2).length f.length 16 then iter (fun j (i,d,b,h,c)=>bif decide (b<d)then oB (idx i b) fun a=>(if room ([]:List Z2).length a.1.length 16 then if room c.length ([((([]:List Z2)++a.1),a.2)]:List Z4).length 40 then if fits (b+1)then j (i,d,(b+1),h,(c++([((([]:List Z2)++a.1),a.2)]:List Z4)))else none else none else none)else some (h,c)) N (e,(e.length:Int),(0:Int),(([]:List Z2)++f),([]:List Z4))else none)
theorem jLo :mK 69 (bX [.agg [.pv (.sl .str),.pv Y14]] [.agg [.own 1 .str 9 true,.own 2 Y16 156 true]] (c2A (i_cloneConf_m N))):=
 mO ja func69 rfl N (.seq .no (.seq .no (.seq (.seq .no (.block (.loop jM7 .no))) .no))) _
def jLd :Sh:=⟨.dead:: .dead:: .box 2 0:: .box 3 0::dz 18 (.pv Y5::pI::pI::dz 37 []),[(2,false,[.nils,.nils,.nils]),(3,false,[.own 700300 Y4 79 true,.own 700301 Y6 106 true,.own 700302 tI 3 true])]⟩
def jMw :Sh:=⟨.dead:: .dead:: .box 2 0:: .box 3 0:: .dead:: .box 5 0:: .own 600006 Y12 164 true::dz 15 (.pv Y5::pI::pI::dz 5 (.pv Y11::pI::pI::dz 29 [])),[(2,false,[.nils,.nils,.nils]),(3,false,[.own 700300 Y4 79 true,.own 700301 Y6 106 true,.own 700302 tI 3 true]),(5,false,[pS,pS,.pv Y11])]⟩
def i_cloneLive_m (B:List Z0) (o:List Z1) (t:List Int):Option ((List Z0)×(List Z1)×(List Int)):=
 (oB (jbV N B) fun z=>if room ([]:List Int).length t.length 8 then iter (fun A (l,v,j,u,w,y)=>bif decide (j<v)then oB (idx l j) fun a=>(iter (fun C (c,m,p,e,q,x,d,r,i,n,f,h,D)=>bif decide (d<x)then oB (idx q d) fun b=>(if room ([]:List Int).length b.2.length 8 then if room c.length ([(b.1,(([]:List Int)++b.2))]:List Z5).length 32 then if fits (d+1)then C ((c++([(b.1,(([]:List Int)++b.2))]:List Z5)),m,p,e,q,x,(d+1),r,i,n,f,h,D)else none else none else none)else if room i.length ([(f,h,c)]:List Z1).length 56 then if fits (e+1)then A (m,p,(e+1),r,(i++([(f,h,c)]:List Z1)),n)else none else none) N (([]:List Z5),l,v,j,a.2.2,(a.2.2.length:Int),(0:Int),u,w,y,a.1,a.2.1,a.2.2))else some (u,w,y)) N (o,(o.length:Int),(0:Int),z,([]:List Z1),(([]:List Int)++t))else none)
theorem jLF :mK 70 (bX [.agg [.pv Y3,.pv Y5,.pv Y19]] [.agg [.own 1 Y4 79 true,.own 2 Y6 106 true,.own 3 tI 3 true]] (c3A (i_cloneLive_m N))):=
 mO (fC (joC N) ja) func70 rfl N (.seq .no (.seq .no (.seq (.seq .no (.block (.loop jLd (.seq .no (.seq .no (.seq (.block (.seq .no (.seq .no (.seq (.seq .no (.block (.loop jMw .no))) .no)))) .no)))))) .no))) _
def jM3 :Sh:=⟨.dead:: .dead:: .box 2 0:: .box 3 0::dz 8 (.pv Y0::pI::pI::dz 12 []),[(2,false,[.nils,.nils,.nils]),(3,false,[.own 700300 .str 9 true,.own 700301 Y16 156 true,.own 700302 Y1 62 true])]⟩
def i_cloneIndex_m (l:List Z2) (m:List Z4) (k:List Z3):Z18:=
 (oB (i_cloneConf_m N l m) fun e=>iter (fun n (h,i,b,f,j,c)=>bif decide (b<i)then oB (idx h b) fun d=>(oB (i_cloneLive_m N d.1.1 d.1.2 d.2) fun a=>if room c.length ([((a.1,a.2.1),a.2.2)]:List Z3).length 72 then if fits (b+1)then n (h,i,(b+1),f,j,(c++([((a.1,a.2.1),a.2.2)]:List Z3)))else none else none)else some (f,j,c)) N (k,(k.length:Int),(0:Int),e.1,e.2,([]:List Z3)))
theorem jLT :mK 28 (bX [.agg [.pv (.sl .str),.pv Y14,.pv Y0]] [.agg [.own 1 .str 9 true,.own 2 Y16 156 true,.own 3 Y1 62 true]] (c3A (i_cloneIndex_m N))):=
 mO (fC (jLo N) (fC (jLF N) ja)) func28 rfl N (.seq .no (.seq .no (.seq (.seq .no (.block (.loop jM3 .no))) .no))) _
def jRw :Sh:=⟨dz 3 (.own 600003 tI 3 true::dz 3 (.pv Y3::pI::pI::dz 10 [])),[]⟩
def i_idsOf_m (e:List Z0):Z17:=
 (iter (fun h (b,f,c,a)=>bif decide (a<c)then oB (idx f a) fun d=>(if room b.length ([d.1]:List Int).length 8 then if fits (a+1)then h ((b++([d.1]:List Int)),f,c,(a+1))else none else none)else some b) N (([]:List Int),e,(e.length:Int),(0:Int)))
theorem jQ8 :mK 45 (bX [.pv Y3] [.own 1 tI 3 true] (c1A (i_idsOf_m N))):=
 mO ja func45 rfl N (.seq .no (.seq .no (.seq (.seq .no (.block (.loop jRw .no))) .no))) _
def jLs :Sh:=⟨.mtk 800000 tI 3 true::pI::dz 5 (pI::pI::dz 10 []),[]⟩
def k_slices_Index_484_v2_m (e:List Int) (h:Int):Option Z5:=
 (iter (fun f (b,c,d,a)=>bif decide (a<d)then if 0<=a/\a<(b.length:Int)then oB (b[a.toNat]?) fun i=>(bif decide (c=i)then some (a,b)else if fits (a+1)then f (b,c,d,(a+1))else none)else none else some ((-1),b)) N (e,h,(e.length:Int),(0:Int)))
theorem jLH :mK 152 (bX [.mtk 800000 tI 3 true,pI] [pI,.mtk 800000 tI 3 true] (c2A (k_slices_Index_484_v2_m N))):=
 mO ja func152 rfl N (.seq .no (.seq (.seq .no (.block (.loop jLs .no))) .no)) _ (rs:=[800000])
def k_slices_Contains_735_v2_m (c:List Int) (b:Int):Option (Bool×(List Int)):=
 (oB (k_slices_Index_484_v2_m N c b) fun a=>some ((decide ((0:Int)<=a.1)),a.2))
theorem jLe :mK 101 (bX [.mtk 800000 tI 3 true,pI] [pB,.mtk 800000 tI 3 true] (c2A (k_slices_Contains_735_v2_m N))):=
 mO (fC (jLH N) ja) func101 rfl N .no _ (rs:=[800000])
def jMu :Sh:=⟨.dead:: .box 1 0:: .dead:: .own 600003 Y4 79 false::dz 5 (.pv Y3::pI::pI::dz 15 []),[(1,false,[.pv Y3,.pv Y5,.mtk 800002 tI 3 true])]⟩
def i_Live_alive_v2_m (e:List Z0) (o:List Z1) (m:List Int):Option ((List Z0)×(List Int)):=
 (iter (fun j (b,d,f,a,l,i,k)=>bif decide (a<f)then oB (idx d a) fun h=>(oB (k_slices_Contains_735_v2_m N k h.1) fun c=>bif !c.1 then if room b.length ([h]:List Z0).length 56 then if fits (a+1)then j ((b++([h]:List Z0)),d,f,(a+1),l,i,c.2)else none else none else if fits (a+1)then j (b,d,f,(a+1),l,i,c.2)else none)else some (b,k)) N (([]:List Z0),e,(e.length:Int),(0:Int),e,o,m))
theorem jLZ :mK 78 (bX [.agg [.pv Y3,.pv Y5,.mtk 800002 tI 3 true]] [.own 1 Y4 79 false,.mtk 800002 tI 3 true] (c3A (i_Live_alive_v2_m N))):=
 mO (fC (jLe N) ja) func78 rfl N (.seq .no (.seq .no (.seq (.seq .no (.block (.loop jMu .no))) .no))) _ (rs:=[800002])
def k_cmp_Less_67_m (b:Int) (a:Int):Z8:=
 (oB (k_cmp_isNaN_538_m N b) fun c=>bif c then oB (k_cmp_isNaN_538_m N a) fun d=>(bif !d then some true else some (decide (b<a)))else some (decide (b<a)))
theorem jA5 :mK 194 (bX [pI,pI] [pB] (c2A (k_cmp_Less_67_m N))):=
 mO (fC (joK N) ja) func194 rfl N .no _
def jMa :Sh:=⟨.mtk 800000 tI 3 true::pI::pI::dz 3 (pI::dz 42 []),[]⟩
def jMW :Sh:=⟨.mtk 800000 tI 3 true::pI::pI::dz 3 (pI::pI::dz 41 []),[]⟩
def jKD (u:List Int) (h:Int) (p:Int):Z17:=
 (if fits (h+1)then iter (fun k (m,r,l,f)=>bif decide (f<l)then iter (fun t (b,d,i,c,a)=>bif decide (d<a)then if 0<=a/\a<(b.length:Int)then oB (b[a.toNat]?) fun q=>(if fits (a-1)then if 0<=(a-1)/\(a-1)<(b.length:Int)then oB (b[(a-1).toNat]?) fun o=>(oB (k_cmp_Less_67_m N q o) fun n=>bif n then if fits (a-1)then if fits (a-1)then if 0<=(a-1)/\(a-1)<(b.length:Int)then oB (b[(a-1).toNat]?) fun e=>(if 0<=a/\a<(b.length:Int)then oB (b[a.toNat]?) fun v=>(if 0<=a/\a<(b.length:Int)then oB (b[a.toNat]?) fun x=>(if 0<=(a-1)/\(a-1)<((b.set a.toNat e).length:Int)then oB ((b.set a.toNat e)[(a-1).toNat]?) fun w=>(if fits (a-1)then t (((b.set a.toNat e).set (a-1).toNat v),d,i,c,(a-1))else none)else none)else none)else none)else none else none else none else if fits (c+1)then k (b,d,i,(c+1))else none)else none else none)else none else if fits (c+1)then k (b,d,i,(c+1))else none) N (m,r,l,f,f)else some m) N (u,h,p,(h+1))else none)
theorem jMr :mK 188 (bX [.mtk 800000 tI 3 true,pI,pI] [.tup [],.mtk 800000 tI 3 true] (c3A (jKD N))):=
 mO (fC (jA5 N) ja) func188 rfl N (.seq .no (.block (.loop jMa (.seq .no (.seq (.block (.seq .no (.block (.loop jMW .no)))) .no))))) _ (rs:=[800000])
def jLj :Sh:=⟨.mtk 800000 tI 3 true:: .dead::pI::pI::dz 4 (pI::dz 67 []),[]⟩
def jMO :Sh:=⟨.mtk 800000 tI 3 true:: .dead::pI::pI::dz 4 (pI::pI::dz 66 []),[]⟩
def jKh (y:List Int) (v:Int) (r:Int) (p:Int):Z17:=
 (iter (fun n (h,i,f,b)=>if fits (2*b)then if fits ((2*b)+1)then bif decide (i<=((2*b)+1))then some h else(meet (fun(l:Z14)=>match l with|(d,x,a,c,e)=>if fits (a+c)then if 0<=(a+c)/\(a+c)<(d.length:Int)then oB (d[(a+c).toNat]?) fun u=>(if fits (a+e)then if 0<=(a+e)/\(a+e)<(d.length:Int)then oB (d[(a+e).toNat]?) fun z=>(oB (k_cmp_Less_67_m N u z) fun q=>bif !q then some d else if fits (a+c)then if fits (a+e)then if fits (a+e)then if 0<=(a+e)/\(a+e)<(d.length:Int)then oB (d[(a+e).toNat]?) fun k=>(if fits (a+c)then if 0<=(a+c)/\(a+c)<(d.length:Int)then oB (d[(a+c).toNat]?) fun w=>(if 0<=(a+c)/\(a+c)<(d.length:Int)then oB (d[(a+c).toNat]?) fun A=>(if 0<=(a+e)/\(a+e)<((d.set (a+c).toNat k).length:Int)then oB ((d.set (a+c).toNat k)[(a+e).toNat]?) fun B=>(n (((d.set (a+c).toNat k).set (a+e).toNat w),x,a,e))else none)else none)else none else none)else none else none else none else none)else none else none)else none else none) fun j=>if fits (((2*b)+1)+1)then bif decide ((((2*b)+1)+1)<i)then if fits (f+((2*b)+1))then if 0<=(f+((2*b)+1))/\(f+((2*b)+1))<(h.length:Int)then oB (h[(f+((2*b)+1)).toNat]?) fun t=>(if fits (f+((2*b)+1))then if fits ((f+((2*b)+1))+1)then if 0<=((f+((2*b)+1))+1)/\((f+((2*b)+1))+1)<(h.length:Int)then oB (h[((f+((2*b)+1))+1).toNat]?) fun o=>(oB (k_cmp_Less_67_m N t o) fun m=>bif m then if fits (((2*b)+1)+1)then j (h,i,f,b,(((2*b)+1)+1))else none else j (h,i,f,b,((2*b)+1)))else none else none else none)else none else none else(j (h,i,f,b,((2*b)+1)))else none)else none else none) N (y,r,p,v))
theorem jMR :mK 214 (bX [.mtk 800000 tI 3 true,pI,pI,pI] [.tup [],.mtk 800000 tI 3 true] (c4A (jKh N))):=
 mO (fC (jA5 N) ja) func214 rfl N (.seq .no (.block (.loop jLj (.block (.seq .no (.seq .no (.meet jMO .no .no))))))) _ (rs:=[800000])
def jNf :Sh:=⟨.mtk 800000 tI 3 true::dz 5 (pI::pI::pI::pI::dz 46 []),[]⟩
def jNc :Sh:=⟨.mtk 800000 tI 3 true::dz 5 (pI::pI:: .dead:: .dead::pI::dz 45 []),[]⟩
def jKw (u:List Int) (d:Int) (e:Int):Z17:=
 (if fits (e-d)then if fits ((e-d)-1)then if 2≠0 then if fits (((e-d)-1).tdiv 2)then iter (fun p (n,i,m,f,h)=>bif decide ((0:Int)<=h)then oB (jKh N n h f i) fun o=>(if fits (h-1)then p (o,i,m,f,(h-1))else none)else if fits (f-1)then iter (fun t (c,a,l,b)=>bif decide ((0:Int)<=b)then if fits (a+b)then if fits (a+b)then if 0<=(a+b)/\(a+b)<(c.length:Int)then oB (c[(a+b).toNat]?) fun j=>(if 0<=a/\a<(c.length:Int)then oB (c[a.toNat]?) fun q=>(if 0<=a/\a<(c.length:Int)then oB (c[a.toNat]?) fun v=>(if 0<=(a+b)/\(a+b)<((c.set a.toNat j).length:Int)then oB ((c.set a.toNat j)[(a+b).toNat]?) fun w=>(oB (jKh N ((c.set a.toNat j).set (a+b).toNat q) l b a) fun r=>if fits (b-1)then t (r,a,l,(b-1))else none)else none)else none)else none)else none else none else none else some c) N (n,i,m,(f-1))else none) N (u,d,(0:Int),(e-d),(((e-d)-1).tdiv 2))else none else none else none else none)
theorem jLI :mK 189 (bX [.mtk 800000 tI 3 true,pI,pI] [.tup [],.mtk 800000 tI 3 true] (c3A (jKw N))):=
 mO (fC (jMR N) ja) func189 rfl N (.seq .no (.seq .no (.seq .no (.seq (.seq .no (.block (.loop jNf .no))) (.seq .no (.block (.loop jNc .no))))))) _ (rs:=[800000])
def jKY :Sh:=⟨.mtk 800000 tI 3 true::pI::dz 4 (pI:: .box 7 0:: .pv (.int .u64)::pI::dz 55 []),[(7,false,[.pv (.int .u64)])]⟩
def jMt :Sh:=⟨.mtk 800000 tI 3 true::pI::dz 4 (pI:: .box 7 0:: .pv (.int .u64)::pI::pI::dz 54 []),[(7,false,[.pv (.int .u64)])]⟩
def jKH (q:List Int) (a:Int) (d:Int):Z17:=
 (if fits (d-a)then bif decide ((8:Int)<=(d-a))then oB (k_slices_nextPowerOfTwo_m N (d-a)) fun r=>(if 4≠0 then if fits ((d-a).tdiv 4)then if fits (((d-a).tdiv 4)*2)then if fits (a+(((d-a).tdiv 4)*2))then if fits ((a+(((d-a).tdiv 4)*2))-1)then iter (fun u (n,k,e,j,m,w)=>if 4≠0 then if fits (e.tdiv 4)then if fits ((e.tdiv 4)*2)then if fits (k+((e.tdiv 4)*2))then if fits ((k+((e.tdiv 4)*2))+1)then bif decide (m<=((k+((e.tdiv 4)*2))+1))then oB (k__slices_xorshift_Next_m N w) fun i=>(meet (fun(o:(List Int)×Int×Int×Int×Int×Int×Int)=>match o with|(h,c,x,y,b,f,t)=>if fits (c+f)then if fits (c+f)then if 0<=(c+f)/\(c+f)<(h.length:Int)then oB (h[(c+f).toNat]?) fun l=>(if 0<=b/\b<(h.length:Int)then oB (h[b.toNat]?) fun v=>(if 0<=b/\b<(h.length:Int)then oB (h[b.toNat]?) fun z=>(if 0<=(c+f)/\(c+f)<((h.set b.toNat l).length:Int)then oB ((h.set b.toNat l)[(c+f).toNat]?) fun A=>(if fits (b+1)then u (((h.set b.toNat l).set (c+f).toNat v),c,x,y,(b+1),t)else none)else none)else none)else none)else none else none else none) fun p=>bif decide (e<=(IntKind.i64.wrap (bitsI .and .u64 i.1 (IntKind.u64.wrap (j-1)))))then if fits ((IntKind.i64.wrap (bitsI .and .u64 i.1 (IntKind.u64.wrap (j-1))))-e)then p (n,k,e,j,m,((IntKind.i64.wrap (bitsI .and .u64 i.1 (IntKind.u64.wrap (j-1))))-e),i.2)else none else p (n,k,e,j,m,(IntKind.i64.wrap (bitsI .and .u64 i.1 (IntKind.u64.wrap (j-1)))),i.2))else(some n)else none else none else none else none else none) N (q,a,(d-a),r,((a+(((d-a).tdiv 4)*2))-1),(IntKind.u64.wrap (d-a)))else none else none else none else none else none)else(some q)else none)
theorem jMF :mK 190 (bX [.mtk 800000 tI 3 true,pI,pI] [.tup [],.mtk 800000 tI 3 true] (c3A (jKH N))):=
 mO (fC (jhv N) (fC (jet N) ja)) func190 rfl N (.seq .no (.seq .no (.cond (.seq .no (.seq .no (.seq .no (.block (.loop jKY (.seq .no (.seq (.block (.seq .no (.meet jMt .no .no))) .no))))))) .no))) _ (rs:=[800000])
def jJ7 (a:List Int) (b:Int) (c:Int) (d:Int):Option (Int×Int×(List Int)×Int):=
 (if 0<=c/\c<(a.length:Int)then oB (a[c.toNat]?) fun h=>(if 0<=b/\b<(a.length:Int)then oB (a[b.toNat]?) fun f=>(oB (k_cmp_Less_67_m N h f) fun e=>bif e then if fits (d+1)then some (c,b,a,(d+1))else none else some (b,c,a,d))else none)else none)
theorem jLg :mK 223 ⟨⟨[.mtk 800000 tI 3 true,pI,pI,.box 900003 0],[(900003,false,[pI])]⟩,⟨[.tup [pI,pI],.mtk 800000 tI 3 true],[(900003,false,[pI])]⟩,c4A (jJ7 N)⟩:=
 mO (fC (jA5 N) ja) func223 rfl N .no _ (rs:=[900003,800000])
def jKl (i:List Int) (d:Int) (f:Int) (e:Int) (h:Int):Option (Int×(List Int)×Int):=
 (oB (jJ7 N i d f h) fun a=>oB (jJ7 N a.2.2.1 a.2.1 e a.2.2.2) fun c=>oB (jJ7 N c.2.2.1 a.1 c.1 c.2.2.2) fun b=>some (b.2.1,b.2.2.1,b.2.2.2))
theorem jKO :mK 216 ⟨⟨[.mtk 800000 tI 3 true,pI,pI,pI,.box 900004 0],[(900004,false,[pI])]⟩,⟨[pI,.mtk 800000 tI 3 true],[(900004,false,[pI])]⟩,c5A (jKl N)⟩:=
 mO (fC (jLg N) ja) func216 rfl N .no _ (rs:=[900004,800000])
def jKb (d:List Int) (a:Int) (c:Int):Option (Int×(List Int)×Int):=
 (if fits (a-1)then if fits (a+1)then oB (jKl N d (a-1) a (a+1) c) fun b=>(some (b.1,b.2.1,b.2.2))else none else none)
theorem jLb :mK 215 ⟨⟨[.mtk 800000 tI 3 true,pI,.box 900002 0],[(900002,false,[pI])]⟩,⟨[pI,.mtk 800000 tI 3 true],[(900002,false,[pI])]⟩,c3A (jKb N)⟩:=
 mO (fC (jKO N) ja) func215 rfl N .no _ (rs:=[900002,800000])
def jLc :Sh:=⟨.mtk 800000 tI 3 true::dz 8 (.box 9 0::pI::pI::pI::dz 44 []),[(9,false,[pI])]⟩
def jM6 :Sh:=⟨.mtk 800000 tI 3 true::dz 8 (.box 9 0:: .dead::pI::dz 45 []),[(9,false,[pI])]⟩
def jKT (h:List Int) (a:Int) (b:Int):Option (Int×Int×(List Int)):=
 (if fits (b-a)then if 4≠0 then if fits ((b-a).tdiv 4)then if fits (((b-a).tdiv 4)*1)then if fits (a+(((b-a).tdiv 4)*1))then if 4≠0 then if fits ((b-a).tdiv 4)then if fits (((b-a).tdiv 4)*2)then if fits (a+(((b-a).tdiv 4)*2))then if 4≠0 then if fits ((b-a).tdiv 4)then if fits (((b-a).tdiv 4)*3)then if fits (a+(((b-a).tdiv 4)*3))then meet (fun(j:(List Int)×Int×Int)=>match j with|(i,k,m)=>bif decide (m=0)then some (k,1,i)else bif decide (m=12)then some (k,2,i)else some (k,0,i)) fun l=>(bif decide ((8:Int)<=(b-a))then meet (fun(j:Z14)=>match j with|(t,r,o,p,q)=>oB (jKl N t r o p q) fun d=>l (d.2.1,d.1,d.2.2)) fun n=>(bif decide ((50:Int)<=(b-a))then oB (jKb N h (a+(((b-a).tdiv 4)*1)) 0) fun c=>(oB (jKb N c.2.1 (a+(((b-a).tdiv 4)*2)) c.2.2) fun e=>oB (jKb N e.2.1 (a+(((b-a).tdiv 4)*3)) e.2.2) fun f=>n (f.2.1,c.1,e.1,f.1,f.2.2))else n (h,(a+(((b-a).tdiv 4)*1)),(a+(((b-a).tdiv 4)*2)),(a+(((b-a).tdiv 4)*3)),0))else l (h,(a+(((b-a).tdiv 4)*2)),0))else none else none else none else none else none else none else none else none else none else none else none else none else none)
theorem jMB :mK 191 (bX [.mtk 800000 tI 3 true,pI,pI] [.tup [pI,pI],.mtk 800000 tI 3 true] (c3A (jKT N))):=
 mO (fC (jLb N) (fC (jKO N) ja)) func191 rfl N (.seq .no (.seq .no (.seq .no (.seq .no (.seq .no (.seq .no (.meet jM6 (.seq .no (.cond (.meet jLc .no .no) .no)) .no))))))) _ (rs:=[800000])
def jLt :Sh:=⟨.mtk 800000 tI 3 true::dz 5 (pI::pI::dz 24 []),[]⟩
def jKC (j:List Int) (f:Int) (e:Int):Z17:=
 (if fits (e-1)then iter (fun i (c,a,b)=>bif decide (a<b)then if 0<=b/\b<(c.length:Int)then oB (c[b.toNat]?) fun d=>(if 0<=a/\a<(c.length:Int)then oB (c[a.toNat]?) fun h=>(if 0<=a/\a<(c.length:Int)then oB (c[a.toNat]?) fun l=>(if 0<=b/\b<((c.set a.toNat d).length:Int)then oB ((c.set a.toNat d)[b.toNat]?) fun m=>(if fits (a+1)then if fits (b-1)then i (((c.set a.toNat d).set b.toNat h),(a+1),(b-1))else none else none)else none)else none)else none)else none else some c) N (j,f,(e-1))else none)
theorem jLn :mK 192 (bX [.mtk 800000 tI 3 true,pI,pI] [.tup [],.mtk 800000 tI 3 true] (c3A (jKC N))):=
 mO ja func192 rfl N (.seq .no (.seq .no (.block (.loop jLt .no)))) _ (rs:=[800000])
def jKk :Sh:=⟨.mtk 800000 tI 3 true::pI::pI::dz 4 (pI::pI::dz 124 []),[]⟩
def jMz :Sh:=⟨.mtk 800000 tI 3 true::pI::pI::dz 4 (pI::pI::pI::dz 123 []),[]⟩
def jMq :Sh:=⟨.mtk 800000 tI 3 true::pI::pI::dz 4 (pI::pI:: .dead::pI::dz 122 []),[]⟩
def jKt (data:List Int) (a:Int) (b:Int):Option (Bool×(List Int)):=
 (if fits (a+1)then iter (fun go (data2,a2,b2,i,j)=>bif decide (j<5)then iter (fun go2 (data3,a3,b3,i2,j2)=>bif decide (i2<b3)then if 0<=i2/\i2<(data3.length:Int)then oB (data3[i2.toNat]?) fun e=>(if fits (i2-1)then if 0<=(i2-1)/\(i2-1)<(data3.length:Int)then oB (data3[(i2-1).toNat]?) fun e2=>(oB (k_cmp_Less_67_m N e e2) fun r=>bif !r then if fits (i2+1)then go2 (data3,a3,b3,(i2+1),j2)else none else bif decide (i2=b3)then some (true,data3)else if fits (b3-a3)then bif decide ((b3-a3)<50)then some (false,data3)else(if fits (i2-1)then if fits (i2-1)then if 0<=(i2-1)/\(i2-1)<(data3.length:Int)then oB (data3[(i2-1).toNat]?) fun e3=>(if 0<=i2/\i2<(data3.length:Int)then oB (data3[i2.toNat]?) fun e4=>(if 0<=i2/\i2<(data3.length:Int)then oB (data3[i2.toNat]?) fun e5=>(if 0<=(i2-1)/\(i2-1)<((data3.set i2.toNat e3).length:Int)then oB ((data3.set i2.toNat e3)[(i2-1).toNat]?) fun e6=>(meet (fun(g:Z14)=>match g with|(data5,a5,b5,i4,j5)=>if fits (b5-i4)then bif decide ((2:Int)<=(b5-i4))then if fits (i4+1)then iter (fun go4 (data6,a6,b6,i5,j6,j7)=>bif decide (j7<b6)then if 0<=j7/\j7<(data6.length:Int)then oB (data6[j7.toNat]?) fun e13=>(if fits (j7-1)then if 0<=(j7-1)/\(j7-1)<(data6.length:Int)then oB (data6[(j7-1).toNat]?) fun e14=>(oB (k_cmp_Less_67_m N e13 e14) fun r3=>bif !r3 then if fits (j6+1)then go (data6,a6,b6,i5,(j6+1))else none else if fits (j7-1)then if fits (j7-1)then if 0<=(j7-1)/\(j7-1)<(data6.length:Int)then oB (data6[(j7-1).toNat]?) fun e15=>(if 0<=j7/\j7<(data6.length:Int)then oB (data6[j7.toNat]?) fun e16=>(if 0<=j7/\j7<(data6.length:Int)then oB (data6[j7.toNat]?) fun e17=>(if 0<=(j7-1)/\(j7-1)<((data6.set j7.toNat e15).length:Int)then oB ((data6.set j7.toNat e15)[(j7-1).toNat]?) fun e18=>(if fits (j7+1)then go4 (((data6.set j7.toNat e15).set (j7-1).toNat e16),a6,b6,i5,j6,(j7+1))else none)else none)else none)else none)else none else none else none)else none else none)else none else if fits (j6+1)then go (data6,a6,b6,i5,(j6+1))else none) N (data5,a5,b5,i4,j5,(i4+1))else none else(if fits (j5+1)then go (data5,a5,b5,i4,(j5+1))else none)else none) fun J=>if fits (i2-a3)then bif decide ((2:Int)<=(i2-a3))then if fits (i2-1)then iter (fun go3 (data4,a4,b4,i3,j3,j4)=>bif decide ((1:Int)<=j4)then if 0<=j4/\j4<(data4.length:Int)then oB (data4[j4.toNat]?) fun e7=>(if fits (j4-1)then if 0<=(j4-1)/\(j4-1)<(data4.length:Int)then oB (data4[(j4-1).toNat]?) fun e8=>(oB (k_cmp_Less_67_m N e7 e8) fun r2=>bif !r2 then J (data4,a4,b4,i3,j3)else if fits (j4-1)then if fits (j4-1)then if 0<=(j4-1)/\(j4-1)<(data4.length:Int)then oB (data4[(j4-1).toNat]?) fun e9=>(if 0<=j4/\j4<(data4.length:Int)then oB (data4[j4.toNat]?) fun e10=>(if 0<=j4/\j4<(data4.length:Int)then oB (data4[j4.toNat]?) fun e11=>(if 0<=(j4-1)/\(j4-1)<((data4.set j4.toNat e9).length:Int)then oB ((data4.set j4.toNat e9)[(j4-1).toNat]?) fun e12=>(if fits (j4-1)then go3 (((data4.set j4.toNat e9).set (j4-1).toNat e10),a4,b4,i3,j3,(j4-1))else none)else none)else none)else none)else none else none else none)else none else none)else none else J (data4,a4,b4,i3,j3)) N (((data3.set i2.toNat e3).set (i2-1).toNat e4),a3,b3,i2,j2,(i2-1))else none else(J (((data3.set i2.toNat e3).set (i2-1).toNat e4),a3,b3,i2,j2))else none)else none)else none)else none)else none else none else none)else none)else none else none)else none else bif decide (i2=b3)then some (true,data3)else if fits (b3-a3)then bif decide ((b3-a3)<50)then some (false,data3)else(if fits (i2-1)then if fits (i2-1)then if 0<=(i2-1)/\(i2-1)<(data3.length:Int)then oB (data3[(i2-1).toNat]?) fun e19=>(if 0<=i2/\i2<(data3.length:Int)then oB (data3[i2.toNat]?) fun e20=>(if 0<=i2/\i2<(data3.length:Int)then oB (data3[i2.toNat]?) fun e21=>(if 0<=(i2-1)/\(i2-1)<((data3.set i2.toNat e19).length:Int)then oB ((data3.set i2.toNat e19)[(i2-1).toNat]?) fun e22=>(meet (fun(g:Z14)=>match g with|(data8,a8,b8,i7,j10)=>if fits (b8-i7)then bif decide ((2:Int)<=(b8-i7))then if fits (i7+1)then iter (fun go6 (data9,a9,b9,i8,j11,j12)=>bif decide (j12<b9)then if 0<=j12/\j12<(data9.length:Int)then oB (data9[j12.toNat]?) fun e29=>(if fits (j12-1)then if 0<=(j12-1)/\(j12-1)<(data9.length:Int)then oB (data9[(j12-1).toNat]?) fun e30=>(oB (k_cmp_Less_67_m N e29 e30) fun r5=>bif !r5 then if fits (j11+1)then go (data9,a9,b9,i8,(j11+1))else none else if fits (j12-1)then if fits (j12-1)then if 0<=(j12-1)/\(j12-1)<(data9.length:Int)then oB (data9[(j12-1).toNat]?) fun e31=>(if 0<=j12/\j12<(data9.length:Int)then oB (data9[j12.toNat]?) fun e32=>(if 0<=j12/\j12<(data9.length:Int)then oB (data9[j12.toNat]?) fun e33=>(if 0<=(j12-1)/\(j12-1)<((data9.set j12.toNat e31).length:Int)then oB ((data9.set j12.toNat e31)[(j12-1).toNat]?) fun e34=>(if fits (j12+1)then go6 (((data9.set j12.toNat e31).set (j12-1).toNat e32),a9,b9,i8,j11,(j12+1))else none)else none)else none)else none)else none else none else none)else none else none)else none else if fits (j11+1)then go (data9,a9,b9,i8,(j11+1))else none) N (data8,a8,b8,i7,j10,(i7+1))else none else(if fits (j10+1)then go (data8,a8,b8,i7,(j10+1))else none)else none) fun J2=>if fits (i2-a3)then bif decide ((2:Int)<=(i2-a3))then if fits (i2-1)then iter (fun go5 (data7,a7,b7,i6,j8,j9)=>bif decide ((1:Int)<=j9)then if 0<=j9/\j9<(data7.length:Int)then oB (data7[j9.toNat]?) fun e23=>(if fits (j9-1)then if 0<=(j9-1)/\(j9-1)<(data7.length:Int)then oB (data7[(j9-1).toNat]?) fun e24=>(oB (k_cmp_Less_67_m N e23 e24) fun r4=>bif !r4 then J2 (data7,a7,b7,i6,j8)else if fits (j9-1)then if fits (j9-1)then if 0<=(j9-1)/\(j9-1)<(data7.length:Int)then oB (data7[(j9-1).toNat]?) fun e25=>(if 0<=j9/\j9<(data7.length:Int)then oB (data7[j9.toNat]?) fun e26=>(if 0<=j9/\j9<(data7.length:Int)then oB (data7[j9.toNat]?) fun e27=>(if 0<=(j9-1)/\(j9-1)<((data7.set j9.toNat e25).length:Int)then oB ((data7.set j9.toNat e25)[(j9-1).toNat]?) fun e28=>(if fits (j9-1)then go5 (((data7.set j9.toNat e25).set (j9-1).toNat e26),a7,b7,i6,j8,(j9-1))else none)else none)else none)else none)else none else none else none)else none else none)else none else J2 (data7,a7,b7,i6,j8)) N (((data3.set i2.toNat e19).set (i2-1).toNat e20),a3,b3,i2,j2,(i2-1))else none else(J2 (((data3.set i2.toNat e19).set (i2-1).toNat e20),a3,b3,i2,j2))else none)else none)else none)else none)else none else none else none)else none) N (data2,a2,b2,i,j)else some (false,data2)) N (data,a,b,(a+1),(0:Int))else none)
theorem jMH :mK 193 (bX [.mtk 800000 tI 3 true,pI,pI] [pB,.mtk 800000 tI 3 true] (c3A (jKt N))):=
 mO (fC (jA5 N) ja) func193 rfl N (.seq .no (.seq .no (.seq (.seq .no (.block (.loop jKk (.seq .no (.seq (.block (.seq (.block (.loop jKk .no)) (.seq .no (.seq .no (.seq .no (.meet jKk (.seq .no (.cond (.seq .no (.block (.loop jMz .no))) .no)) (.seq .no (.cond (.seq .no (.block (.loop jMq .no))) .no)))))))) .no))))) .no))) _ (rs:=[800000])
def jKf :Sh:=⟨.mtk 800000 tI 3 true::pI::dz 7 (pI::pI::dz 73 []),[]⟩
def jKu (i:List Int) (h:Int) (y:Int) (k:Int):Option Z5:=
 (if 0<=k/\k<(i.length:Int)then oB (i[k.toNat]?) fun t=>(if 0<=h/\h<(i.length:Int)then oB (i[h.toNat]?) fun P=>(if 0<=h/\h<(i.length:Int)then oB (i[h.toNat]?) fun af=>(if 0<=k/\k<((i.set h.toNat t).length:Int)then oB ((i.set h.toNat t)[k.toNat]?) fun ad=>(if fits (h+1)then if fits (y-1)then iter (fun q (L,C,G,Q)=>iter (fun K (l,o,j,r)=>bif decide (j<=r)then if 0<=o/\o<(l.length:Int)then oB (l[o.toNat]?) fun E=>(if 0<=j/\j<(l.length:Int)then oB (l[j.toNat]?) fun D=>(oB (k_cmp_Less_67_m N E D) fun z=>bif !z then if fits (j+1)then K (l,o,(j+1),r)else none else iter (fun X (e,p,a,c)=>bif decide (a<=c)then if 0<=p/\p<(e.length:Int)then oB (e[p.toNat]?) fun V=>(if 0<=c/\c<(e.length:Int)then oB (e[c.toNat]?) fun W=>(oB (k_cmp_Less_67_m N V W) fun S=>bif S then if fits (c-1)then X (e,p,a,(c-1))else none else bif decide (c<a)then some (a,e)else if 0<=c/\c<(e.length:Int)then oB (e[c.toNat]?) fun u=>(if 0<=a/\a<(e.length:Int)then oB (e[a.toNat]?) fun H=>(if 0<=a/\a<(e.length:Int)then oB (e[a.toNat]?) fun aa=>(if 0<=c/\c<((e.set a.toNat u).length:Int)then oB ((e.set a.toNat u)[c.toNat]?) fun ab=>(if fits (a+1)then if fits (c-1)then q (((e.set a.toNat u).set c.toNat H),p,(a+1),(c-1))else none else none)else none)else none)else none)else none)else none)else none else bif decide (c<a)then some (a,e)else if 0<=c/\c<(e.length:Int)then oB (e[c.toNat]?) fun v=>(if 0<=a/\a<(e.length:Int)then oB (e[a.toNat]?) fun O=>(if 0<=a/\a<(e.length:Int)then oB (e[a.toNat]?) fun aj=>(if 0<=c/\c<((e.set a.toNat v).length:Int)then oB ((e.set a.toNat v)[c.toNat]?) fun ae=>(if fits (a+1)then if fits (c-1)then q (((e.set a.toNat v).set c.toNat O),p,(a+1),(c-1))else none else none)else none)else none)else none)else none) N (l,o,j,r))else none)else none else iter (fun T (f,n,b,d)=>bif decide (b<=d)then if 0<=n/\n<(f.length:Int)then oB (f[n.toNat]?) fun U=>(if 0<=d/\d<(f.length:Int)then oB (f[d.toNat]?) fun A=>(oB (k_cmp_Less_67_m N U A) fun I=>bif I then if fits (d-1)then T (f,n,b,(d-1))else none else bif decide (d<b)then some (b,f)else if 0<=d/\d<(f.length:Int)then oB (f[d.toNat]?) fun w=>(if 0<=b/\b<(f.length:Int)then oB (f[b.toNat]?) fun B=>(if 0<=b/\b<(f.length:Int)then oB (f[b.toNat]?) fun ag=>(if 0<=d/\d<((f.set b.toNat w).length:Int)then oB ((f.set b.toNat w)[d.toNat]?) fun ac=>(if fits (b+1)then if fits (d-1)then q (((f.set b.toNat w).set d.toNat B),n,(b+1),(d-1))else none else none)else none)else none)else none)else none)else none)else none else bif decide (d<b)then some (b,f)else if 0<=d/\d<(f.length:Int)then oB (f[d.toNat]?) fun x=>(if 0<=b/\b<(f.length:Int)then oB (f[b.toNat]?) fun R=>(if 0<=b/\b<(f.length:Int)then oB (f[b.toNat]?) fun ah=>(if 0<=d/\d<((f.set b.toNat x).length:Int)then oB ((f.set b.toNat x)[d.toNat]?) fun ai=>(if fits (b+1)then if fits (d-1)then q (((f.set b.toNat x).set d.toNat R),n,(b+1),(d-1))else none else none)else none)else none)else none)else none) N (l,o,j,r)) N (L,C,G,Q)) N (((i.set h.toNat t).set k.toNat P),h,(h+1),(y-1))else none else none)else none)else none)else none)else none)
theorem jMs :mK 195 (bX [.mtk 800000 tI 3 true,pI,pI,pI] [pI,.mtk 800000 tI 3 true] (c4A (jKu N))):=
 mO (fC (jA5 N) ja) func195 rfl N (.seq .no (.seq .no (.seq .no (.seq (.block (.loop jKf (.block (.seq (.block (.loop jKf .no)) (.seq (.block (.loop jKf .no)) .no))))) .no)))) _ (rs:=[800000])
def jJV :Sh:=⟨.mtk 800000 tI 3 true::pI::dz 8 (pI::pI::dz 156 []),[]⟩
def jKo (data:List Int) (a:Int) (b:Int) (pivot:Int):Option (Int×Bool×(List Int)):=
 (if 0<=pivot/\pivot<(data.length:Int)then oB (data[pivot.toNat]?) fun e=>(if 0<=a/\a<(data.length:Int)then oB (data[a.toNat]?) fun e2=>(if 0<=a/\a<(data.length:Int)then oB (data[a.toNat]?) fun e3=>(if 0<=pivot/\pivot<((data.set a.toNat e).length:Int)then oB ((data.set a.toNat e)[pivot.toNat]?) fun e4=>(if fits (a+1)then if fits (b-1)then iter (fun go (data2,a2,i,j)=>bif decide (i<=j)then if 0<=i/\i<(data2.length:Int)then oB (data2[i.toNat]?) fun e5=>(if 0<=a2/\a2<(data2.length:Int)then oB (data2[a2.toNat]?) fun e6=>(oB (k_cmp_Less_67_m N e5 e6) fun r=>bif r then if fits (i+1)then go (data2,a2,(i+1),j)else none else iter (fun go2 (data3,a3,i2,j2)=>bif decide (i2<=j2)then if 0<=j2/\j2<(data3.length:Int)then oB (data3[j2.toNat]?) fun e7=>(if 0<=a3/\a3<(data3.length:Int)then oB (data3[a3.toNat]?) fun e8=>(oB (k_cmp_Less_67_m N e7 e8) fun r2=>bif !r2 then if fits (j2-1)then go2 (data3,a3,i2,(j2-1))else none else bif decide (j2<i2)then if 0<=a3/\a3<(data3.length:Int)then oB (data3[a3.toNat]?) fun e9=>(if 0<=j2/\j2<(data3.length:Int)then oB (data3[j2.toNat]?) fun e10=>(if 0<=j2/\j2<(data3.length:Int)then oB (data3[j2.toNat]?) fun e11=>(if 0<=a3/\a3<((data3.set j2.toNat e9).length:Int)then oB ((data3.set j2.toNat e9)[a3.toNat]?) fun e12=>(some (j2,true,((data3.set j2.toNat e9).set a3.toNat e10)))else none)else none)else none)else none else if 0<=j2/\j2<(data3.length:Int)then oB (data3[j2.toNat]?) fun e13=>(if 0<=i2/\i2<(data3.length:Int)then oB (data3[i2.toNat]?) fun e14=>(if 0<=i2/\i2<(data3.length:Int)then oB (data3[i2.toNat]?) fun e15=>(if 0<=j2/\j2<((data3.set i2.toNat e13).length:Int)then oB ((data3.set i2.toNat e13)[j2.toNat]?) fun e16=>(if fits (i2+1)then if fits (j2-1)then iter (fun go3 (data4,a4,i3,j3)=>iter (fun go4 (data5,a5,i4,j4)=>bif decide (i4<=j4)then if 0<=i4/\i4<(data5.length:Int)then oB (data5[i4.toNat]?) fun e17=>(if 0<=a5/\a5<(data5.length:Int)then oB (data5[a5.toNat]?) fun e18=>(oB (k_cmp_Less_67_m N e17 e18) fun r3=>bif r3 then if fits (i4+1)then go4 (data5,a5,(i4+1),j4)else none else iter (fun go5 (data6,a6,i5,j5)=>bif decide (i5<=j5)then if 0<=j5/\j5<(data6.length:Int)then oB (data6[j5.toNat]?) fun e19=>(if 0<=a6/\a6<(data6.length:Int)then oB (data6[a6.toNat]?) fun e20=>(oB (k_cmp_Less_67_m N e19 e20) fun r4=>bif !r4 then if fits (j5-1)then go5 (data6,a6,i5,(j5-1))else none else bif decide (j5<i5)then if 0<=a6/\a6<(data6.length:Int)then oB (data6[a6.toNat]?) fun e21=>(if 0<=j5/\j5<(data6.length:Int)then oB (data6[j5.toNat]?) fun e22=>(if 0<=j5/\j5<(data6.length:Int)then oB (data6[j5.toNat]?) fun e23=>(if 0<=a6/\a6<((data6.set j5.toNat e21).length:Int)then oB ((data6.set j5.toNat e21)[a6.toNat]?) fun e24=>(some (j5,false,((data6.set j5.toNat e21).set a6.toNat e22)))else none)else none)else none)else none else if 0<=j5/\j5<(data6.length:Int)then oB (data6[j5.toNat]?) fun e25=>(if 0<=i5/\i5<(data6.length:Int)then oB (data6[i5.toNat]?) fun e26=>(if 0<=i5/\i5<(data6.length:Int)then oB (data6[i5.toNat]?) fun e27=>(if 0<=j5/\j5<((data6.set i5.toNat e25).length:Int)then oB ((data6.set i5.toNat e25)[j5.toNat]?) fun e28=>(if fits (i5+1)then if fits (j5-1)then go3 (((data6.set i5.toNat e25).set j5.toNat e26),a6,(i5+1),(j5-1))else none else none)else none)else none)else none)else none)else none)else none else bif decide (j5<i5)then if 0<=a6/\a6<(data6.length:Int)then oB (data6[a6.toNat]?) fun e29=>(if 0<=j5/\j5<(data6.length:Int)then oB (data6[j5.toNat]?) fun e30=>(if 0<=j5/\j5<(data6.length:Int)then oB (data6[j5.toNat]?) fun e31=>(if 0<=a6/\a6<((data6.set j5.toNat e29).length:Int)then oB ((data6.set j5.toNat e29)[a6.toNat]?) fun e32=>(some (j5,false,((data6.set j5.toNat e29).set a6.toNat e30)))else none)else none)else none)else none else if 0<=j5/\j5<(data6.length:Int)then oB (data6[j5.toNat]?) fun e33=>(if 0<=i5/\i5<(data6.length:Int)then oB (data6[i5.toNat]?) fun e34=>(if 0<=i5/\i5<(data6.length:Int)then oB (data6[i5.toNat]?) fun e35=>(if 0<=j5/\j5<((data6.set i5.toNat e33).length:Int)then oB ((data6.set i5.toNat e33)[j5.toNat]?) fun e36=>(if fits (i5+1)then if fits (j5-1)then go3 (((data6.set i5.toNat e33).set j5.toNat e34),a6,(i5+1),(j5-1))else none else none)else none)else none)else none)else none) N (data5,a5,i4,j4))else none)else none else iter (fun go6 (data7,a7,i6,j6)=>bif decide (i6<=j6)then if 0<=j6/\j6<(data7.length:Int)then oB (data7[j6.toNat]?) fun e37=>(if 0<=a7/\a7<(data7.length:Int)then oB (data7[a7.toNat]?) fun e38=>(oB (k_cmp_Less_67_m N e37 e38) fun r5=>bif !r5 then if fits (j6-1)then go6 (data7,a7,i6,(j6-1))else none else bif decide (j6<i6)then if 0<=a7/\a7<(data7.length:Int)then oB (data7[a7.toNat]?) fun e39=>(if 0<=j6/\j6<(data7.length:Int)then oB (data7[j6.toNat]?) fun e40=>(if 0<=j6/\j6<(data7.length:Int)then oB (data7[j6.toNat]?) fun e41=>(if 0<=a7/\a7<((data7.set j6.toNat e39).length:Int)then oB ((data7.set j6.toNat e39)[a7.toNat]?) fun e42=>(some (j6,false,((data7.set j6.toNat e39).set a7.toNat e40)))else none)else none)else none)else none else if 0<=j6/\j6<(data7.length:Int)then oB (data7[j6.toNat]?) fun e43=>(if 0<=i6/\i6<(data7.length:Int)then oB (data7[i6.toNat]?) fun e44=>(if 0<=i6/\i6<(data7.length:Int)then oB (data7[i6.toNat]?) fun e45=>(if 0<=j6/\j6<((data7.set i6.toNat e43).length:Int)then oB ((data7.set i6.toNat e43)[j6.toNat]?) fun e46=>(if fits (i6+1)then if fits (j6-1)then go3 (((data7.set i6.toNat e43).set j6.toNat e44),a7,(i6+1),(j6-1))else none else none)else none)else none)else none)else none)else none)else none else bif decide (j6<i6)then if 0<=a7/\a7<(data7.length:Int)then oB (data7[a7.toNat]?) fun e47=>(if 0<=j6/\j6<(data7.length:Int)then oB (data7[j6.toNat]?) fun e48=>(if 0<=j6/\j6<(data7.length:Int)then oB (data7[j6.toNat]?) fun e49=>(if 0<=a7/\a7<((data7.set j6.toNat e47).length:Int)then oB ((data7.set j6.toNat e47)[a7.toNat]?) fun e50=>(some (j6,false,((data7.set j6.toNat e47).set a7.toNat e48)))else none)else none)else none)else none else if 0<=j6/\j6<(data7.length:Int)then oB (data7[j6.toNat]?) fun e51=>(if 0<=i6/\i6<(data7.length:Int)then oB (data7[i6.toNat]?) fun e52=>(if 0<=i6/\i6<(data7.length:Int)then oB (data7[i6.toNat]?) fun e53=>(if 0<=j6/\j6<((data7.set i6.toNat e51).length:Int)then oB ((data7.set i6.toNat e51)[j6.toNat]?) fun e54=>(if fits (i6+1)then if fits (j6-1)then go3 (((data7.set i6.toNat e51).set j6.toNat e52),a7,(i6+1),(j6-1))else none else none)else none)else none)else none)else none) N (data5,a5,i4,j4)) N (data4,a4,i3,j3)) N (((data3.set i2.toNat e13).set j2.toNat e14),a3,(i2+1),(j2-1))else none else none)else none)else none)else none)else none)else none)else none else bif decide (j2<i2)then if 0<=a3/\a3<(data3.length:Int)then oB (data3[a3.toNat]?) fun e55=>(if 0<=j2/\j2<(data3.length:Int)then oB (data3[j2.toNat]?) fun e56=>(if 0<=j2/\j2<(data3.length:Int)then oB (data3[j2.toNat]?) fun e57=>(if 0<=a3/\a3<((data3.set j2.toNat e55).length:Int)then oB ((data3.set j2.toNat e55)[a3.toNat]?) fun e58=>(some (j2,true,((data3.set j2.toNat e55).set a3.toNat e56)))else none)else none)else none)else none else if 0<=j2/\j2<(data3.length:Int)then oB (data3[j2.toNat]?) fun e59=>(if 0<=i2/\i2<(data3.length:Int)then oB (data3[i2.toNat]?) fun e60=>(if 0<=i2/\i2<(data3.length:Int)then oB (data3[i2.toNat]?) fun e61=>(if 0<=j2/\j2<((data3.set i2.toNat e59).length:Int)then oB ((data3.set i2.toNat e59)[j2.toNat]?) fun e62=>(if fits (i2+1)then if fits (j2-1)then iter (fun go7 (data8,a8,i7,j7)=>iter (fun go8 (data9,a9,i8,j8)=>bif decide (i8<=j8)then if 0<=i8/\i8<(data9.length:Int)then oB (data9[i8.toNat]?) fun e63=>(if 0<=a9/\a9<(data9.length:Int)then oB (data9[a9.toNat]?) fun e64=>(oB (k_cmp_Less_67_m N e63 e64) fun r6=>bif r6 then if fits (i8+1)then go8 (data9,a9,(i8+1),j8)else none else iter (fun go9 (data10,a10,i9,j9)=>bif decide (i9<=j9)then if 0<=j9/\j9<(data10.length:Int)then oB (data10[j9.toNat]?) fun e65=>(if 0<=a10/\a10<(data10.length:Int)then oB (data10[a10.toNat]?) fun e66=>(oB (k_cmp_Less_67_m N e65 e66) fun r7=>bif !r7 then if fits (j9-1)then go9 (data10,a10,i9,(j9-1))else none else bif decide (j9<i9)then if 0<=a10/\a10<(data10.length:Int)then oB (data10[a10.toNat]?) fun e67=>(if 0<=j9/\j9<(data10.length:Int)then oB (data10[j9.toNat]?) fun e68=>(if 0<=j9/\j9<(data10.length:Int)then oB (data10[j9.toNat]?) fun e69=>(if 0<=a10/\a10<((data10.set j9.toNat e67).length:Int)then oB ((data10.set j9.toNat e67)[a10.toNat]?) fun e70=>(some (j9,false,((data10.set j9.toNat e67).set a10.toNat e68)))else none)else none)else none)else none else if 0<=j9/\j9<(data10.length:Int)then oB (data10[j9.toNat]?) fun e71=>(if 0<=i9/\i9<(data10.length:Int)then oB (data10[i9.toNat]?) fun e72=>(if 0<=i9/\i9<(data10.length:Int)then oB (data10[i9.toNat]?) fun e73=>(if 0<=j9/\j9<((data10.set i9.toNat e71).length:Int)then oB ((data10.set i9.toNat e71)[j9.toNat]?) fun e74=>(if fits (i9+1)then if fits (j9-1)then go7 (((data10.set i9.toNat e71).set j9.toNat e72),a10,(i9+1),(j9-1))else none else none)else none)else none)else none)else none)else none)else none else bif decide (j9<i9)then if 0<=a10/\a10<(data10.length:Int)then oB (data10[a10.toNat]?) fun e75=>(if 0<=j9/\j9<(data10.length:Int)then oB (data10[j9.toNat]?) fun e76=>(if 0<=j9/\j9<(data10.length:Int)then oB (data10[j9.toNat]?) fun e77=>(if 0<=a10/\a10<((data10.set j9.toNat e75).length:Int)then oB ((data10.set j9.toNat e75)[a10.toNat]?) fun e78=>(some (j9,false,((data10.set j9.toNat e75).set a10.toNat e76)))else none)else none)else none)else none else if 0<=j9/\j9<(data10.length:Int)then oB (data10[j9.toNat]?) fun e79=>(if 0<=i9/\i9<(data10.length:Int)then oB (data10[i9.toNat]?) fun e80=>(if 0<=i9/\i9<(data10.length:Int)then oB (data10[i9.toNat]?) fun e81=>(if 0<=j9/\j9<((data10.set i9.toNat e79).length:Int)then oB ((data10.set i9.toNat e79)[j9.toNat]?) fun e82=>(if fits (i9+1)then if fits (j9-1)then go7 (((data10.set i9.toNat e79).set j9.toNat e80),a10,(i9+1),(j9-1))else none else none)else none)else none)else none)else none) N (data9,a9,i8,j8))else none)else none else iter (fun go10 (data11,a11,i10,j10)=>bif decide (i10<=j10)then if 0<=j10/\j10<(data11.length:Int)then oB (data11[j10.toNat]?) fun e83=>(if 0<=a11/\a11<(data11.length:Int)then oB (data11[a11.toNat]?) fun e84=>(oB (k_cmp_Less_67_m N e83 e84) fun r8=>bif !r8 then if fits (j10-1)then go10 (data11,a11,i10,(j10-1))else none else bif decide (j10<i10)then if 0<=a11/\a11<(data11.length:Int)then oB (data11[a11.toNat]?) fun e85=>(if 0<=j10/\j10<(data11.length:Int)then oB (data11[j10.toNat]?) fun e86=>(if 0<=j10/\j10<(data11.length:Int)then oB (data11[j10.toNat]?) fun e87=>(if 0<=a11/\a11<((data11.set j10.toNat e85).length:Int)then oB ((data11.set j10.toNat e85)[a11.toNat]?) fun e88=>(some (j10,false,((data11.set j10.toNat e85).set a11.toNat e86)))else none)else none)else none)else none else if 0<=j10/\j10<(data11.length:Int)then oB (data11[j10.toNat]?) fun e89=>(if 0<=i10/\i10<(data11.length:Int)then oB (data11[i10.toNat]?) fun e90=>(if 0<=i10/\i10<(data11.length:Int)then oB (data11[i10.toNat]?) fun e91=>(if 0<=j10/\j10<((data11.set i10.toNat e89).length:Int)then oB ((data11.set i10.toNat e89)[j10.toNat]?) fun e92=>(if fits (i10+1)then if fits (j10-1)then go7 (((data11.set i10.toNat e89).set j10.toNat e90),a11,(i10+1),(j10-1))else none else none)else none)else none)else none)else none)else none)else none else bif decide (j10<i10)then if 0<=a11/\a11<(data11.length:Int)then oB (data11[a11.toNat]?) fun e93=>(if 0<=j10/\j10<(data11.length:Int)then oB (data11[j10.toNat]?) fun e94=>(if 0<=j10/\j10<(data11.length:Int)then oB (data11[j10.toNat]?) fun e95=>(if 0<=a11/\a11<((data11.set j10.toNat e93).length:Int)then oB ((data11.set j10.toNat e93)[a11.toNat]?) fun e96=>(some (j10,false,((data11.set j10.toNat e93).set a11.toNat e94)))else none)else none)else none)else none else if 0<=j10/\j10<(data11.length:Int)then oB (data11[j10.toNat]?) fun e97=>(if 0<=i10/\i10<(data11.length:Int)then oB (data11[i10.toNat]?) fun e98=>(if 0<=i10/\i10<(data11.length:Int)then oB (data11[i10.toNat]?) fun e99=>(if 0<=j10/\j10<((data11.set i10.toNat e97).length:Int)then oB ((data11.set i10.toNat e97)[j10.toNat]?) fun e100=>(if fits (i10+1)then if fits (j10-1)then go7 (((data11.set i10.toNat e97).set j10.toNat e98),a11,(i10+1),(j10-1))else none else none)else none)else none)else none)else none) N (data9,a9,i8,j8)) N (data8,a8,i7,j7)) N (((data3.set i2.toNat e59).set j2.toNat e60),a3,(i2+1),(j2-1))else none else none)else none)else none)else none)else none) N (data2,a2,i,j))else none)else none else iter (fun go11 (data12,a12,i11,j11)=>bif decide (i11<=j11)then if 0<=j11/\j11<(data12.length:Int)then oB (data12[j11.toNat]?) fun e101=>(if 0<=a12/\a12<(data12.length:Int)then oB (data12[a12.toNat]?) fun e102=>(oB (k_cmp_Less_67_m N e101 e102) fun r9=>bif !r9 then if fits (j11-1)then go11 (data12,a12,i11,(j11-1))else none else bif decide (j11<i11)then if 0<=a12/\a12<(data12.length:Int)then oB (data12[a12.toNat]?) fun e103=>(if 0<=j11/\j11<(data12.length:Int)then oB (data12[j11.toNat]?) fun e104=>(if 0<=j11/\j11<(data12.length:Int)then oB (data12[j11.toNat]?) fun e105=>(if 0<=a12/\a12<((data12.set j11.toNat e103).length:Int)then oB ((data12.set j11.toNat e103)[a12.toNat]?) fun e106=>(some (j11,true,((data12.set j11.toNat e103).set a12.toNat e104)))else none)else none)else none)else none else if 0<=j11/\j11<(data12.length:Int)then oB (data12[j11.toNat]?) fun e107=>(if 0<=i11/\i11<(data12.length:Int)then oB (data12[i11.toNat]?) fun e108=>(if 0<=i11/\i11<(data12.length:Int)then oB (data12[i11.toNat]?) fun e109=>(if 0<=j11/\j11<((data12.set i11.toNat e107).length:Int)then oB ((data12.set i11.toNat e107)[j11.toNat]?) fun e110=>(if fits (i11+1)then if fits (j11-1)then iter (fun go12 (data13,a13,i12,j12)=>iter (fun go13 (data14,a14,i13,j13)=>bif decide (i13<=j13)then if 0<=i13/\i13<(data14.length:Int)then oB (data14[i13.toNat]?) fun e111=>(if 0<=a14/\a14<(data14.length:Int)then oB (data14[a14.toNat]?) fun e112=>(oB (k_cmp_Less_67_m N e111 e112) fun r10=>bif r10 then if fits (i13+1)then go13 (data14,a14,(i13+1),j13)else none else iter (fun go14 (data15,a15,i14,j14)=>bif decide (i14<=j14)then if 0<=j14/\j14<(data15.length:Int)then oB (data15[j14.toNat]?) fun e113=>(if 0<=a15/\a15<(data15.length:Int)then oB (data15[a15.toNat]?) fun e114=>(oB (k_cmp_Less_67_m N e113 e114) fun r11=>bif !r11 then if fits (j14-1)then go14 (data15,a15,i14,(j14-1))else none else bif decide (j14<i14)then if 0<=a15/\a15<(data15.length:Int)then oB (data15[a15.toNat]?) fun e115=>(if 0<=j14/\j14<(data15.length:Int)then oB (data15[j14.toNat]?) fun e116=>(if 0<=j14/\j14<(data15.length:Int)then oB (data15[j14.toNat]?) fun e117=>(if 0<=a15/\a15<((data15.set j14.toNat e115).length:Int)then oB ((data15.set j14.toNat e115)[a15.toNat]?) fun e118=>(some (j14,false,((data15.set j14.toNat e115).set a15.toNat e116)))else none)else none)else none)else none else if 0<=j14/\j14<(data15.length:Int)then oB (data15[j14.toNat]?) fun e119=>(if 0<=i14/\i14<(data15.length:Int)then oB (data15[i14.toNat]?) fun e120=>(if 0<=i14/\i14<(data15.length:Int)then oB (data15[i14.toNat]?) fun e121=>(if 0<=j14/\j14<((data15.set i14.toNat e119).length:Int)then oB ((data15.set i14.toNat e119)[j14.toNat]?) fun e122=>(if fits (i14+1)then if fits (j14-1)then go12 (((data15.set i14.toNat e119).set j14.toNat e120),a15,(i14+1),(j14-1))else none else none)else none)else none)else none)else none)else none)else none else bif decide (j14<i14)then if 0<=a15/\a15<(data15.length:Int)then oB (data15[a15.toNat]?) fun e123=>(if 0<=j14/\j14<(data15.length:Int)then oB (data15[j14.toNat]?) fun e124=>(if 0<=j14/\j14<(data15.length:Int)then oB (data15[j14.toNat]?) fun e125=>(if 0<=a15/\a15<((data15.set j14.toNat e123).length:Int)then oB ((data15.set j14.toNat e123)[a15.toNat]?) fun e126=>(some (j14,false,((data15.set j14.toNat e123).set a15.toNat e124)))else none)else none)else none)else none else if 0<=j14/\j14<(data15.length:Int)then oB (data15[j14.toNat]?) fun e127=>(if 0<=i14/\i14<(data15.length:Int)then oB (data15[i14.toNat]?) fun e128=>(if 0<=i14/\i14<(data15.length:Int)then oB (data15[i14.toNat]?) fun e129=>(if 0<=j14/\j14<((data15.set i14.toNat e127).length:Int)then oB ((data15.set i14.toNat e127)[j14.toNat]?) fun e130=>(if fits (i14+1)then if fits (j14-1)then go12 (((data15.set i14.toNat e127).set j14.toNat e128),a15,(i14+1),(j14-1))else none else none)else none)else none)else none)else none) N (data14,a14,i13,j13))else none)else none else iter (fun go15 (data16,a16,i15,j15)=>bif decide (i15<=j15)then if 0<=j15/\j15<(data16.length:Int)then oB (data16[j15.toNat]?) fun e131=>(if 0<=a16/\a16<(data16.length:Int)then oB (data16[a16.toNat]?) fun e132=>(oB (k_cmp_Less_67_m N e131 e132) fun r12=>bif !r12 then if fits (j15-1)then go15 (data16,a16,i15,(j15-1))else none else bif decide (j15<i15)then if 0<=a16/\a16<(data16.length:Int)then oB (data16[a16.toNat]?) fun e133=>(if 0<=j15/\j15<(data16.length:Int)then oB (data16[j15.toNat]?) fun e134=>(if 0<=j15/\j15<(data16.length:Int)then oB (data16[j15.toNat]?) fun e135=>(if 0<=a16/\a16<((data16.set j15.toNat e133).length:Int)then oB ((data16.set j15.toNat e133)[a16.toNat]?) fun e136=>(some (j15,false,((data16.set j15.toNat e133).set a16.toNat e134)))else none)else none)else none)else none else if 0<=j15/\j15<(data16.length:Int)then oB (data16[j15.toNat]?) fun e137=>(if 0<=i15/\i15<(data16.length:Int)then oB (data16[i15.toNat]?) fun e138=>(if 0<=i15/\i15<(data16.length:Int)then oB (data16[i15.toNat]?) fun e139=>(if 0<=j15/\j15<((data16.set i15.toNat e137).length:Int)then oB ((data16.set i15.toNat e137)[j15.toNat]?) fun e140=>(if fits (i15+1)then if fits (j15-1)then go12 (((data16.set i15.toNat e137).set j15.toNat e138),a16,(i15+1),(j15-1))else none else none)else none)else none)else none)else none)else none)else none else bif decide (j15<i15)then if 0<=a16/\a16<(data16.length:Int)then oB (data16[a16.toNat]?) fun e141=>(if 0<=j15/\j15<(data16.length:Int)then oB (data16[j15.toNat]?) fun e142=>(if 0<=j15/\j15<(data16.length:Int)then oB (data16[j15.toNat]?) fun e143=>(if 0<=a16/\a16<((data16.set j15.toNat e141).length:Int)then oB ((data16.set j15.toNat e141)[a16.toNat]?) fun e144=>(some (j15,false,((data16.set j15.toNat e141).set a16.toNat e142)))else none)else none)else none)else none else if 0<=j15/\j15<(data16.length:Int)then oB (data16[j15.toNat]?) fun e145=>(if 0<=i15/\i15<(data16.length:Int)then oB (data16[i15.toNat]?) fun e146=>(if 0<=i15/\i15<(data16.length:Int)then oB (data16[i15.toNat]?) fun e147=>(if 0<=j15/\j15<((data16.set i15.toNat e145).length:Int)then oB ((data16.set i15.toNat e145)[j15.toNat]?) fun e148=>(if fits (i15+1)then if fits (j15-1)then go12 (((data16.set i15.toNat e145).set j15.toNat e146),a16,(i15+1),(j15-1))else none else none)else none)else none)else none)else none) N (data14,a14,i13,j13)) N (data13,a13,i12,j12)) N (((data12.set i11.toNat e107).set j11.toNat e108),a12,(i11+1),(j11-1))else none else none)else none)else none)else none)else none)else none)else none else bif decide (j11<i11)then if 0<=a12/\a12<(data12.length:Int)then oB (data12[a12.toNat]?) fun e149=>(if 0<=j11/\j11<(data12.length:Int)then oB (data12[j11.toNat]?) fun e150=>(if 0<=j11/\j11<(data12.length:Int)then oB (data12[j11.toNat]?) fun e151=>(if 0<=a12/\a12<((data12.set j11.toNat e149).length:Int)then oB ((data12.set j11.toNat e149)[a12.toNat]?) fun e152=>(some (j11,true,((data12.set j11.toNat e149).set a12.toNat e150)))else none)else none)else none)else none else if 0<=j11/\j11<(data12.length:Int)then oB (data12[j11.toNat]?) fun e153=>(if 0<=i11/\i11<(data12.length:Int)then oB (data12[i11.toNat]?) fun e154=>(if 0<=i11/\i11<(data12.length:Int)then oB (data12[i11.toNat]?) fun e155=>(if 0<=j11/\j11<((data12.set i11.toNat e153).length:Int)then oB ((data12.set i11.toNat e153)[j11.toNat]?) fun e156=>(if fits (i11+1)then if fits (j11-1)then iter (fun go16 (data17,a17,i16,j16)=>iter (fun go17 (data18,a18,i17,j17)=>bif decide (i17<=j17)then if 0<=i17/\i17<(data18.length:Int)then oB (data18[i17.toNat]?) fun e157=>(if 0<=a18/\a18<(data18.length:Int)then oB (data18[a18.toNat]?) fun e158=>(oB (k_cmp_Less_67_m N e157 e158) fun r13=>bif r13 then if fits (i17+1)then go17 (data18,a18,(i17+1),j17)else none else iter (fun go18 (data19,a19,i18,j18)=>bif decide (i18<=j18)then if 0<=j18/\j18<(data19.length:Int)then oB (data19[j18.toNat]?) fun e159=>(if 0<=a19/\a19<(data19.length:Int)then oB (data19[a19.toNat]?) fun e160=>(oB (k_cmp_Less_67_m N e159 e160) fun r14=>bif !r14 then if fits (j18-1)then go18 (data19,a19,i18,(j18-1))else none else bif decide (j18<i18)then if 0<=a19/\a19<(data19.length:Int)then oB (data19[a19.toNat]?) fun e161=>(if 0<=j18/\j18<(data19.length:Int)then oB (data19[j18.toNat]?) fun e162=>(if 0<=j18/\j18<(data19.length:Int)then oB (data19[j18.toNat]?) fun e163=>(if 0<=a19/\a19<((data19.set j18.toNat e161).length:Int)then oB ((data19.set j18.toNat e161)[a19.toNat]?) fun e164=>(some (j18,false,((data19.set j18.toNat e161).set a19.toNat e162)))else none)else none)else none)else none else if 0<=j18/\j18<(data19.length:Int)then oB (data19[j18.toNat]?) fun e165=>(if 0<=i18/\i18<(data19.length:Int)then oB (data19[i18.toNat]?) fun e166=>(if 0<=i18/\i18<(data19.length:Int)then oB (data19[i18.toNat]?) fun e167=>(if 0<=j18/\j18<((data19.set i18.toNat e165).length:Int)then oB ((data19.set i18.toNat e165)[j18.toNat]?) fun e168=>(if fits (i18+1)then if fits (j18-1)then go16 (((data19.set i18.toNat e165).set j18.toNat e166),a19,(i18+1),(j18-1))else none else none)else none)else none)else none)else none)else none)else none else bif decide (j18<i18)then if 0<=a19/\a19<(data19.length:Int)then oB (data19[a19.toNat]?) fun e169=>(if 0<=j18/\j18<(data19.length:Int)then oB (data19[j18.toNat]?) fun e170=>(if 0<=j18/\j18<(data19.length:Int)then oB (data19[j18.toNat]?) fun e171=>(if 0<=a19/\a19<((data19.set j18.toNat e169).length:Int)then oB ((data19.set j18.toNat e169)[a19.toNat]?) fun e172=>(some (j18,false,((data19.set j18.toNat e169).set a19.toNat e170)))else none)else none)else none)else none else if 0<=j18/\j18<(data19.length:Int)then oB (data19[j18.toNat]?) fun e173=>(if 0<=i18/\i18<(data19.length:Int)then oB (data19[i18.toNat]?) fun e174=>(if 0<=i18/\i18<(data19.length:Int)then oB (data19[i18.toNat]?) fun e175=>(if 0<=j18/\j18<((data19.set i18.toNat e173).length:Int)then oB ((data19.set i18.toNat e173)[j18.toNat]?) fun e176=>(if fits (i18+1)then if fits (j18-1)then go16 (((data19.set i18.toNat e173).set j18.toNat e174),a19,(i18+1),(j18-1))else none else none)else none)else none)else none)else none) N (data18,a18,i17,j17))else none)else none else iter (fun go19 (data20,a20,i19,j19)=>bif decide (i19<=j19)then if 0<=j19/\j19<(data20.length:Int)then oB (data20[j19.toNat]?) fun e177=>(if 0<=a20/\a20<(data20.length:Int)then oB (data20[a20.toNat]?) fun e178=>(oB (k_cmp_Less_67_m N e177 e178) fun r15=>bif !r15 then if fits (j19-1)then go19 (data20,a20,i19,(j19-1))else none else bif decide (j19<i19)then if 0<=a20/\a20<(data20.length:Int)then oB (data20[a20.toNat]?) fun e179=>(if 0<=j19/\j19<(data20.length:Int)then oB (data20[j19.toNat]?) fun e180=>(if 0<=j19/\j19<(data20.length:Int)then oB (data20[j19.toNat]?) fun e181=>(if 0<=a20/\a20<((data20.set j19.toNat e179).length:Int)then oB ((data20.set j19.toNat e179)[a20.toNat]?) fun e182=>(some (j19,false,((data20.set j19.toNat e179).set a20.toNat e180)))else none)else none)else none)else none else if 0<=j19/\j19<(data20.length:Int)then oB (data20[j19.toNat]?) fun e183=>(if 0<=i19/\i19<(data20.length:Int)then oB (data20[i19.toNat]?) fun e184=>(if 0<=i19/\i19<(data20.length:Int)then oB (data20[i19.toNat]?) fun e185=>(if 0<=j19/\j19<((data20.set i19.toNat e183).length:Int)then oB ((data20.set i19.toNat e183)[j19.toNat]?) fun e186=>(if fits (i19+1)then if fits (j19-1)then go16 (((data20.set i19.toNat e183).set j19.toNat e184),a20,(i19+1),(j19-1))else none else none)else none)else none)else none)else none)else none)else none else bif decide (j19<i19)then if 0<=a20/\a20<(data20.length:Int)then oB (data20[a20.toNat]?) fun e187=>(if 0<=j19/\j19<(data20.length:Int)then oB (data20[j19.toNat]?) fun e188=>(if 0<=j19/\j19<(data20.length:Int)then oB (data20[j19.toNat]?) fun e189=>(if 0<=a20/\a20<((data20.set j19.toNat e187).length:Int)then oB ((data20.set j19.toNat e187)[a20.toNat]?) fun e190=>(some (j19,false,((data20.set j19.toNat e187).set a20.toNat e188)))else none)else none)else none)else none else if 0<=j19/\j19<(data20.length:Int)then oB (data20[j19.toNat]?) fun e191=>(if 0<=i19/\i19<(data20.length:Int)then oB (data20[i19.toNat]?) fun e192=>(if 0<=i19/\i19<(data20.length:Int)then oB (data20[i19.toNat]?) fun e193=>(if 0<=j19/\j19<((data20.set i19.toNat e191).length:Int)then oB ((data20.set i19.toNat e191)[j19.toNat]?) fun e194=>(if fits (i19+1)then if fits (j19-1)then go16 (((data20.set i19.toNat e191).set j19.toNat e192),a20,(i19+1),(j19-1))else none else none)else none)else none)else none)else none) N (data18,a18,i17,j17)) N (data17,a17,i16,j16)) N (((data12.set i11.toNat e153).set j11.toNat e154),a12,(i11+1),(j11-1))else none else none)else none)else none)else none)else none) N (data2,a2,i,j)) N (((data.set a.toNat e).set pivot.toNat e2),a,(a+1),(b-1))else none else none)else none)else none)else none)else none)
theorem jL5 :mK 196 (bX [.mtk 800000 tI 3 true,pI,pI,pI] [.tup [pI,pB],.mtk 800000 tI 3 true] (c4A (jKo N))):=
 mO (fC (jA5 N) ja) func196 rfl N (.seq .no (.seq .no (.seq .no (.seq (.block (.loop jJV .no)) (.seq (.block (.loop jJV .no)) (.seq .no (.seq .no (.seq .no (.seq .no (.seq (.block (.loop jJV (.block (.seq (.block (.loop jJV .no)) (.seq (.block (.loop jJV .no)) .no))))) .no)))))))))) _ (rs:=[800000])
def jM4 :Sh:=⟨.mtk 800000 tI 3 true::pI::pI::pI::dz 4 (pB::pB::dz 124 []),[]⟩
def jLX :Sh:=⟨.mtk 800000 tI 3 true::pI::pI::pI::dz 4 (pB::pB::pI::pI::dz 122 []),[]⟩
def jK8 :Sh:=⟨.mtk 800000 tI 3 true::pI::pI::pI::dz 4 (pB::pB::pI::pI::pI::dz 121 []),[]⟩
def jLk :Sh:=⟨.mtk 800000 tI 3 true::pI::pI::pI::dz 4 (pB::pB::pI::dz 123 []),[]⟩
def k_slices_pdqsortOrdered_440_m (N:Nat):(D:Nat)->(List Int)->Int->Int->Int->Z17
 |0,_,_,_,_=>none
 |D+1,data,a,b,limit=>
 iter (fun go (g:(List Int)×Int×Int×Int×Bool×Bool)=>
 match g with
 |(data2,a2,b2,limit2,wasBalanced,wasPartitioned)=>
 if fits (b2-a2)then bif decide ((b2-a2)<=12)then
 oB (jKD N data2 a2 b2) fun r=>
 (some r)
 else
 (bif decide (limit2=0)then
 oB (jKw N data2 a2 b2) fun r2=>
 (some r2)
 else
 meet (fun(g:(List Int)×Int×Int×Int×Bool×Bool×Int)=>
 match g with
 |(data3,a3,b3,limit3,wasBalanced2,wasPartitioned2,length)=>
 oB (jKT N data3 a3 b3) fun r4=>
 meet (fun(g:(List Int)×Int×Int×Int×Bool×Bool×Int×Int×Int)=>
 match g with
 |(data4,a4,b4,limit4,wasBalanced3,wasPartitioned3,length2,pivot,hint)=>
 meet (fun(g:(List Int)×Int×Int×Int×Bool×Bool×Int×Int)=>
 match g with
 |(data5,a5,b5,limit5,wasBalanced4,wasPartitioned4,length3,pivot2)=>
 bif decide ((0:Int)<a5)then
 if fits (a5-1)then if 0<=(a5-1)/\(a5-1)<(data5.length:Int)then
 oB (data5[(a5-1).toNat]?) fun e=>
 (if 0<=pivot2/\pivot2<(data5.length:Int)then
 oB (data5[pivot2.toNat]?) fun e2=>
 (oB (k_cmp_Less_67_m N e e2) fun r7=>
 bif !r7 then
 oB (jKu N data5 a5 b5 pivot2) fun r8=>
 (go (r8.2,r8.1,b5,limit5,wasBalanced4,wasPartitioned4))
 else
 oB (jKo N data5 a5 b5 pivot2) fun r9=>
 if fits (r9.1-a5)then if fits (b5-r9.1)then if 8≠0 then
 if fits (length3.tdiv 8)then bif decide ((r9.1-a5)<(b5-r9.1))then
 oB (k_slices_pdqsortOrdered_440_m N D r9.2.2 a5 r9.1 limit5) fun r10=>
 (if fits (r9.1+1)then go (r10,(r9.1+1),b5,limit5,(decide ((length3.tdiv 8)<=(r9.1-a5))),r9.2.1)else none)
 else
 (if fits (r9.1+1)then oB (k_slices_pdqsortOrdered_440_m N D r9.2.2 (r9.1+1) b5 limit5) fun r11=>
 (go (r11,a5,r9.1,limit5,(decide ((length3.tdiv 8)<=(b5-r9.1))),r9.2.1))else none)else none
 else none else none else none)
 else none)
 else none else none
 else
 oB (jKo N data5 a5 b5 pivot2) fun r12=>
 if fits (r12.1-a5)then if fits (b5-r12.1)then if 8≠0 then
 if fits (length3.tdiv 8)then bif decide ((r12.1-a5)<(b5-r12.1))then
 oB (k_slices_pdqsortOrdered_440_m N D r12.2.2 a5 r12.1 limit5) fun r13=>
 (if fits (r12.1+1)then go (r13,(r12.1+1),b5,limit5,(decide ((length3.tdiv 8)<=(r12.1-a5))),r12.2.1)else none)
 else
 (if fits (r12.1+1)then oB (k_slices_pdqsortOrdered_440_m N D r12.2.2 (r12.1+1) b5 limit5) fun r14=>
 (go (r14,a5,r12.1,limit5,(decide ((length3.tdiv 8)<=(b5-r12.1))),r12.2.1))else none)else none
 else none else none else none) fun J3=>
 bif wasBalanced3 then
 bif wasPartitioned3 then
 bif decide (hint=1)then
 oB (jKt N data4 a4 b4) fun r6=>
 (bif r6.1 then
 some r6.2
 else
 J3 (r6.2,a4,b4,limit4,wasBalanced3,wasPartitioned3,length2,pivot))
 else
 (J3 (data4,a4,b4,limit4,wasBalanced3,wasPartitioned3,length2,pivot))
 else
 (J3 (data4,a4,b4,limit4,wasBalanced3,wasPartitioned3,length2,pivot))
 else
 J3 (data4,a4,b4,limit4,wasBalanced3,wasPartitioned3,length2,pivot)) fun J2=>
 bif decide (r4.2.1=2)then
 oB (jKC N r4.2.2 a3 b3) fun r5=>
 (if fits (b3-1)then if fits (r4.1-a3)then if fits ((b3-1)-(r4.1-a3))then J2 (r5,a3,b3,limit3,wasBalanced2,wasPartitioned2,length,((b3-1)-(r4.1-a3)),1)else none else none else none)
 else
 J2 (r4.2.2,a3,b3,limit3,wasBalanced2,wasPartitioned2,length,r4.1,r4.2.1)) fun J=>
 bif !wasBalanced then
 oB (jKH N data2 a2 b2) fun r3=>
 (if fits (limit2-1)then J (r3,a2,b2,(limit2-1),wasBalanced,wasPartitioned,(b2-a2))else none)
 else
 J (data2,a2,b2,limit2,wasBalanced,wasPartitioned,(b2-a2)))else none) N (data,a,b,limit,true,true)
def jJ9 (N D:Nat):Model:=⟨⟨[.mtk 800000 tI 3 true,pI,pI,pI],[]⟩,⟨[.tup [],.mtk 800000 tI 3 true],[]⟩,c4A (k_slices_pdqsortOrdered_440_m N D)⟩
theorem jK0 (N D:Nat) (ih:mK 153 (jJ9 N D)):mK 153 (jJ9 N (D+1)):=
 mO (fC ih (fC (jMr N) (fC (jLI N) (fC (jMF N) (fC (jMB N) (fC (jLn N) (fC (jMH N) (fC (jA5 N) (fC (jMs N) (fC (jL5 N) ja)))))))))) func153 rfl N (.seq .no (.seq .no (.block (.loop jM4 (.block (.seq .no (.seq .no (.seq .no (.meet jLk .no (.seq .no (.meet jK8 .no (.meet jLX .no .no)))))))))))) (jJ9 N (D+1)) (rs:=[800000])
theorem jKz (N:Nat):∀D,mK 153 (jJ9 N D)
 |0=>modelOk_none ⟨_,func153,by decide,by kernel_rfl⟩ _ (fun a=>rfl)
 |D+1=>jK0 N D (jKz N D)
def k_slices_Sort_287_m (a:List Int):Z17:=
 (oB (k_math_bits_Len_m N (IntKind.u64.wrap (a.length:Int))) fun b=>oB (k_slices_pdqsortOrdered_440_m N N a 0 (a.length:Int) b) fun c=>some c)
theorem jMQ :mK 102 (bX [.mtk 800000 tI 3 true] [.tup [],.mtk 800000 tI 3 true] (c1A (k_slices_Sort_287_m N))):=
 mO (fC (jda N) (fC (jKz N N) ja)) func102 rfl N .no _ (rs:=[800000])
def jMe :Sh:=⟨.box 900000 0:: .pv Y19::dz 3 (pI:: .own 600006 Y1 62 true::dz 8 (.trk 850002 Y1 62::pI::pI::dz 41 [])),[(900000,false,[.mtk 850000 .str 9 true,.tre 850001 Y16 156,.dead])]⟩
def jMV :Sh:=⟨.box 900000 0:: .pv Y19::dz 3 (pI:: .own 600006 Y1 62 true:: .dead:: .box 8 0::dz 6 (.trk 850002 Y1 62::pI::pI::dz 4 (.own 600022 Y4 79 false::pI::pI::dz 34 []))),[(8,false,[.own 700800 Y4 79 true,.own 700801 Y6 106 true,.mtk 700802 tI 3 true]),(900000,false,[.mtk 850000 .str 9 true,.tre 850001 Y16 156,.dead])]⟩
def jK6 :Sh:=⟨.box 900000 0:: .pv Y19::dz 3 (pI:: .own 600006 Y1 62 true:: .dead:: .box 8 0::dz 6 (.trk 850002 Y1 62::pI::pI::dz 30 (pB::dz 10 []))),[(8,false,[.own 700800 Y4 79 true,.own 700801 Y6 106 true,.own 700802 tI 3 true]),(900000,false,[.mtk 850000 .str 9 true,.tre 850001 Y16 156,.dead])]⟩
def i_Index_drop_m (af:List Int) (W:List Z2) (X:List Z4) (S:List Z3):Option (Int×(List Z2)×(List Z4)×(List Z3)):=
 (iter (fun Q (ab,I,B,b,L,a,T,A)=>bif decide (a<L)then if b.2.toNat<=a.toNat then oB (b.1[a.toNat]?) fun D=>(if b.2.toNat<=a.toNat then oB (b.1[a.toNat]?) fun R=>(if b.2.toNat<=a.toNat then oB (b.1[a.toNat]?) fun ae=>(if 0<=a/\a<(b.1.length:Int)then if a.toNat=a.toNat then if a.toNat=a.toNat then if a.toNat=a.toNat then if a.toNat=a.toNat then if a.toNat=a.toNat then if a.toNat=a.toNat then if b.2.toNat=a.toNat then oB (i_Live_alive_v2_m N D.1.1 R.1.2 ae.2) fun n=>(iter (fun K (i,j,o,c,u,p,t,r,d,k,f,h,v,w)=>bif decide (d<r)then oB (idx t d) fun q=>(oB (k_slices_Contains_735_m N i q.1) fun ac=>bif ac then if room h.length ([q.1]:List Int).length 8 then if fits (j+1)then if fits (d+1)then K (i,(j+1),o,(c.1,((c.2.toNat:Nat):Int)),u,p,t,r,(d+1),k,f,(h++([q.1]:List Int)),v,w)else none else none else none else if fits (d+1)then K (i,j,o,(c.1,((c.2.toNat:Nat):Int)),u,p,t,r,(d+1),k,f,h,v,w)else none)else oB (k_slices_Sort_287_m N h) fun aa=>meet (fun(e:(List Int)×Int×(List Z3)×((List Z3)×Int)×Int×Int×Bool×(List Z0)×(List Z1)×(List Int)×(List Z2)×(List Z4))=>match e with|(P,G,x,m,U,l,ad,C,H,E,y,O)=>bif ad then if room x.length ([((C,H),E)]:List Z3).length 72 then if fits (l+1)then Q (P,G,(x++([((C,H),E)]:List Z3)),(m.1,((m.2.toNat:Nat):Int)),U,(l+1),y,O)else none else none else if fits (l+1)then Q (P,G,x,(m.1,((m.2.toNat:Nat):Int)),U,(l+1),y,O)else none) fun V=>oB (i_Live_alive_v2_m N k f aa) fun z=>V (i,j,o,(c.1,((c.2.toNat:Nat):Int)),u,p,(decide ((0:Int)<z.1.length)),k,f,z.2,v,w)) N (ab,I,B,(b.1,((a.toNat+1:Nat):Int)),L,a,n.1,(n.1.length:Int),(0:Int),D.1.1,R.1.2,n.2,T,A))else none else none else none else none else none else none else none else none)else none)else none)else none else some (I,T,A,B)) N (af,(0:Int),([]:List Z3),(S,((0:Nat):Int)),(S.length:Int),(0:Int),W,X))
theorem jNa :mK 44 ⟨⟨[.box 900000 0,.pv Y19],[(900000,false,[.mtk 850000 .str 9 true,.tre 850001 Y16 156,.tre 850002 Y1 62])]⟩,⟨[pI],[(900000,false,[.mtk 850000 .str 9 true,.tre 850001 Y16 156,.own 1 Y1 62 true])]⟩,c4A (i_Index_drop_m N)⟩:=
 mO (fC (jLZ N) (fC (jIT N) (fC (jMQ N) ja))) func44 rfl N (.seq .no (.seq .no (.seq .no (.seq (.seq (.touch [.opn 900000 2]) (.block (.loop jMe (.seq .no (.seq .no (.seq (.block (.seq (.touch [.outs 15 17 [(0,200,79),(1,201,106),(2,202,3)]]) (.seq (.seq (.touch [.adv 15 17]) (.block (.loop jMV .no))) (.seq .no (.meet jK6 .no .no))))) .no)))))) .no)))) _ (wr:=[37]) (rs:=[900000,850000,850001,850002])
noncomputable def i_IndexAdd_m (c:List Z2) (d:List Z4) (h:List Z3) (e:List Z0):Option ((List Z2)×(List Z4)×(List Z3)×Bool):=
 (oB (i_IndexOk_m N c d h) fun j=>bif !j then some (([]:List Z2),([]:List Z4),([]:List Z3),false)else oB (i_cloneIndex_m N c d h) fun a=>bif decide ((e.length:Int)=0)then some (a.1,a.2.1,a.2.2,false)else oB (jbf N e) fun l=>bif !l then some (a.1,a.2.1,a.2.2,false)else oB (i_idsOf_m N e) fun k=>oB (i_Index_drop_m N k a.1 a.2.1 a.2.2) fun b=>oB (jbT N c d e) fun i=>if room b.2.2.2.length ([(i,([]:List Int))]:List Z3).length 72 then oB (i_IndexOk_m N b.2.1 b.2.2.1 (b.2.2.2++([(i,([]:List Int))]:List Z3))) fun m=>(bif !m then oB (i_cloneIndex_m N c d h) fun f=>(some (f.1,f.2.1,f.2.2,false))else some (b.2.1,b.2.2.1,(b.2.2.2++([(i,([]:List Int))]:List Z3)),true))else none)
theorem jRi :mK 15 (bX [.agg [.pv (.sl .str),.pv Y14,.pv Y0],.pv Y3] [.tup [.agg [.own 1 .str 9 true,.own 2 Y16 156 true,.own 3 Y1 62 true],pB]] (c4A (i_IndexAdd_m N))):=
 mO (fC (jIr N) (fC (jLT N) (fC (jjU N) (fC (jQ8 N) (fC (jNa N) (fC (jqC N) ja)))))) func15 rfl N .no _ (dw:=[12,40])
def jo5 :Sh:=⟨.pv (.sl .str):: .pv (.sl .str)::dz 3 (pI::dz 20 []),[]⟩
def j0 (c:List Z2) (d:List Z2):Z8:=
 (bif !decide ((c.length:Int)=(d.length:Int))then some false else iter (fun h (b,e,a)=>bif decide (a<(b.length:Int))then oB (idx b a) fun i=>(oB (idx e a) fun f=>bif !decide (i=f)then some false else if fits (a+1)then h (b,e,(a+1))else none)else some true) N (c,d,(0:Int)))
theorem jd6 :mK 82 (bX [.pv (.sl .str),.pv (.sl .str)] [pB] (c2A (j0 N))):=
 mO ja func82 rfl N (.seq .no (.seq .no (.seq (.seq .no (.block (.loop jo5 .no))) .no))) _
def jaR (d:List Z2) (e:List UInt8) (b:List Z2) (c:List UInt8):Z8:=
 (oB (j0 N d b) fun a=>bif !a then some false else bif !decide (e=c)then some false else some true)
theorem jqb :mK 140 (bX [.agg [.pv (.sl .str),pS],.agg [.pv (.sl .str),pS]] [pB] (c4A (jaR N))):=
 mO (fC (jd6 N) ja) func140 rfl N .no _
def jp9 :Sh:=⟨.pv Y14:: .pv Y14::dz 3 (pI::dz 21 []),[]⟩
def jdJ (c:List Z4) (e:List Z4):Z8:=
 (bif !decide ((c.length:Int)=(e.length:Int))then some false else iter (fun j (b,f,a)=>bif decide (a<(b.length:Int))then oB (idx b a) fun h=>(oB (idx f a) fun d=>oB (jaR N h.1 h.2 d.1 d.2) fun i=>bif !i then some false else if fits (a+1)then j (b,f,(a+1))else none)else some true) N (c,e,(0:Int)))
theorem jkU :mK 83 (bX [.pv Y14,.pv Y14] [pB] (c2A (jdJ N))):=
 mO (fC (jqb N) ja) func83 rfl N (.seq .no (.seq .no (.seq (.seq .no (.block (.loop jp9 .no))) .no))) _
def jcO (d:List Z2) (e:List Z4) (b:List Z2) (c:List Z4):Z8:=
 (oB (j0 N d b) fun a=>bif !a then some false else oB (jdJ N e c) fun f=>bif !f then some false else some true)
theorem jr8 :mK 32 (bX [.agg [.pv (.sl .str),.pv Y14],.agg [.pv (.sl .str),.pv Y14]] [pB] (c4A (jcO N))):=
 mO (fC (jd6 N) (fC (jkU N) ja)) func32 rfl N .no _
def jbd (N:Nat) (c:List UInt8) (d:List UInt8) (a:List UInt8) (b:List UInt8):Z8:=
 (bif !decide (c=a)then some false else bif !decide (d=b)then some false else some true)
theorem jmy :mK 154 (bX [.agg [pS,pS],.agg [pS,pS]] [pB] (c4A (jbd N))):=
 mO ja func154 rfl N .no _
def jqq :Sh:=⟨.pv Y17:: .pv Y17::dz 3 (pI::dz 21 []),[]⟩
def jdj (c:Z12) (e:Z12):Z8:=
 (bif !decide ((c.length:Int)=(e.length:Int))then some false else iter (fun j (b,f,a)=>bif decide (a<(b.length:Int))then oB (idx b a) fun h=>(oB (idx f a) fun d=>oB (jbd N h.1 h.2 d.1 d.2) fun i=>bif !i then some false else if fits (a+1)then j (b,f,(a+1))else none)else some true) N (c,e,(0:Int)))
theorem jmD :mK 103 (bX [.pv Y17,.pv Y17] [pB] (c2A (jdj N))):=
 mO (fC (jmy N) ja) func103 rfl N (.seq .no (.seq .no (.seq (.seq .no (.block (.loop jqq .no))) .no))) _
def jbo (N:Nat) (c:List UInt8) (d:Int) (a:List UInt8) (b:Int):Z8:=
 (bif !decide (c=a)then some false else bif !decide (d=b)then some false else some true)
theorem jtn :mK 155 (bX [.agg [pS,pI],.agg [pS,pI]] [pB] (c4A (jbo N))):=
 mO ja func155 rfl N .no _
def jtU :Sh:=⟨.pv Y13:: .pv Y13::dz 3 (pI::dz 21 []),[]⟩
def jdN (c:Z7) (e:Z7):Z8:=
 (bif !decide ((c.length:Int)=(e.length:Int))then some false else iter (fun j (b,f,a)=>bif decide (a<(b.length:Int))then oB (idx b a) fun h=>(oB (idx f a) fun d=>oB (jbo N h.1 h.2 d.1 d.2) fun i=>bif !i then some false else if fits (a+1)then j (b,f,(a+1))else none)else some true) N (c,e,(0:Int)))
theorem jkL :mK 104 (bX [.pv Y13,.pv Y13] [pB] (c2A (jdN N))):=
 mO (fC (jtn N) ja) func104 rfl N (.seq .no (.seq .no (.seq (.seq .no (.block (.loop jtU .no))) .no))) _
def jbi (b:Int) (h:Z12) (i:Z7) (e:Int) (f:Z12) (c:Z7):Z8:=
 (bif !decide (b=e)then some false else oB (jdj N h f) fun a=>bif !a then some false else oB (jdN N i c) fun d=>bif !d then some false else some true)
theorem jta :mK 46 (bX [.agg [pI,.pv Y17,.pv Y13],.agg [pI,.pv Y17,.pv Y13]] [pB] (c6A (jbi N))):=
 mO (fC (jmD N) (fC (jkL N) ja)) func46 rfl N .no _
def jqZ :Sh:=⟨.pv Y3:: .pv Y3::dz 3 (pI::dz 21 []),[]⟩
def jdZ (e:List Z0) (f:List Z0):Z8:=
 (bif !decide ((e.length:Int)=(f.length:Int))then some false else iter (fun j (d,h,a)=>bif decide (a<(d.length:Int))then oB (idx d a) fun c=>(oB (idx h a) fun b=>oB (jbi N c.1 c.2.1 c.2.2 b.1 b.2.1 b.2.2) fun i=>bif !i then some false else if fits (a+1)then j (d,h,(a+1))else none)else some true) N (e,f,(0:Int)))
theorem jmb :mK 16 (bX [.pv Y3,.pv Y3] [pB] (c2A (jdZ N))):=
 mO (fC (jta N) ja) func16 rfl N (.seq .no (.seq .no (.seq (.seq .no (.block (.loop jqZ .no))) .no))) _
def jea (c:List Int) (d:List Int):Z8:=
 (bif !decide ((c.length:Int)=(d.length:Int))then some false else iter (fun h (b,e,a)=>bif decide (a<(b.length:Int))then oB (idx b a) fun i=>(oB (idx e a) fun f=>bif !decide (i=f)then some false else if fits (a+1)then h (b,e,(a+1))else none)else some true) N (c,d,(0:Int)))
theorem jmk :mK 142 (bX [.pv Y19,.pv Y19] [pB] (c2A (jea N))):=
 mO ja func142 rfl N (.seq .no (.seq .no (.seq (.seq .no (.block (.loop jnI .no))) .no))) _
def jbl (d:Int) (e:List Int) (b:Int) (c:List Int):Z8:=
 (bif !decide (d=b)then some false else oB (jea N e c) fun a=>bif !a then some false else some true)
theorem jrv :mK 226 (bX [.agg [pI,.pv Y19],.agg [pI,.pv Y19]] [pB] (c4A (jbl N))):=
 mO (fC (jmk N) ja) func226 rfl N .no _
def jna :Sh:=⟨.pv Y11:: .pv Y11::dz 3 (pI::dz 21 []),[]⟩
def jdt (c:List Z5) (e:List Z5):Z8:=
 (bif !decide ((c.length:Int)=(e.length:Int))then some false else iter (fun j (b,f,a)=>bif decide (a<(b.length:Int))then oB (idx b a) fun h=>(oB (idx f a) fun d=>oB (jbl N h.1 h.2 d.1 d.2) fun i=>bif !i then some false else if fits (a+1)then j (b,f,(a+1))else none)else some true) N (c,e,(0:Int)))
theorem jrb :mK 222 (bX [.pv Y11,.pv Y11] [pB] (c2A (jdt N))):=
 mO (fC (jrv N) ja) func222 rfl N (.seq .no (.seq .no (.seq (.seq .no (.block (.loop jna .no))) .no))) _
def jaU (b:List UInt8) (f:List UInt8) (h:List Z5) (d:List UInt8) (e:List UInt8) (c:List Z5):Z8:=
 (bif !decide (b=d)then some false else bif !decide (f=e)then some false else oB (jdt N h c) fun a=>bif !a then some false else some true)
theorem jmZ :mK 213 (bX [.agg [pS,pS,.pv Y11],.agg [pS,pS,.pv Y11]] [pB] (c6A (jaU N))):=
 mO (fC (jrb N) ja) func213 rfl N .no _
def jkD :Sh:=⟨.pv Y5:: .pv Y5::dz 3 (pI::dz 21 []),[]⟩
def jdU (e:List Z1) (f:List Z1):Z8:=
 (bif !decide ((e.length:Int)=(f.length:Int))then some false else iter (fun j (d,h,a)=>bif decide (a<(d.length:Int))then oB (idx d a) fun c=>(oB (idx h a) fun b=>oB (jaU N c.1 c.2.1 c.2.2 b.1 b.2.1 b.2.2) fun i=>bif !i then some false else if fits (a+1)then j (d,h,(a+1))else none)else some true) N (e,f,(0:Int)))
theorem jkg :mK 187 (bX [.pv Y5,.pv Y5] [pB] (c2A (jdU N))):=
 mO (fC (jmZ N) ja) func187 rfl N (.seq .no (.seq .no (.seq (.seq .no (.block (.loop jkD .no))) .no))) _
def jbJ (d:List Z0) (e:List Z1) (b:List Z0) (c:List Z1):Z8:=
 (oB (jdZ N d b) fun a=>bif !a then some false else oB (jdU N e c) fun f=>bif !f then some false else some true)
theorem jnM :mK 141 (bX [.agg [.pv Y3,.pv Y5],.agg [.pv Y3,.pv Y5]] [pB] (c4A (jbJ N))):=
 mO (fC (jmb N) (fC (jkg N) ja)) func141 rfl N .no _
def jJW (b:List Z0) (h:List Z1) (i:List Int) (e:List Z0) (f:List Z1) (c:List Int):Z8:=
 (oB (jbJ N b h e f) fun a=>bif !a then some false else oB (jea N i c) fun d=>bif !d then some false else some true)
theorem jI3 :mK 84 (bX [.agg [.pv Y3,.pv Y5,.pv Y19],.agg [.pv Y3,.pv Y5,.pv Y19]] [pB] (c6A (jJW N))):=
 mO (fC (jnM N) (fC (jmk N) ja)) func84 rfl N .no _
def jIS :Sh:=⟨.pv Y0:: .pv Y0::dz 3 (pI::dz 21 []),[]⟩
def jKn (e:List Z3) (f:List Z3):Z8:=
 (bif !decide ((e.length:Int)=(f.length:Int))then some false else iter (fun j (d,h,a)=>bif decide (a<(d.length:Int))then oB (idx d a) fun c=>(oB (idx h a) fun b=>oB (jJW N c.1.1 c.1.2 c.2 b.1.1 b.1.2 b.2) fun i=>bif !i then some false else if fits (a+1)then j (d,h,(a+1))else none)else some true) N (e,f,(0:Int)))
theorem jIa :mK 33 (bX [.pv Y0,.pv Y0] [pB] (c2A (jKn N))):=
 mO (fC (jI3 N) ja) func33 rfl N (.seq .no (.seq .no (.seq (.seq .no (.block (.loop jIS .no))) .no))) _
def jJN (b:List Z2) (h:List Z4) (i:List Z3) (e:List Z2) (f:List Z4) (c:List Z3):Z8:=
 (oB (jcO N b h e f) fun a=>bif !a then some false else oB (jKn N i c) fun d=>bif !d then some false else some true)
theorem jIY :mK 9 (bX [.agg [.pv (.sl .str),.pv Y14,.pv Y0],.agg [.pv (.sl .str),.pv Y14,.pv Y0]] [pB] (c6A (jJN N))):=
 mO (fC (jr8 N) (fC (jIa N) ja)) func9 rfl N .no _
def jnU :Sh:=⟨pI:: .dead:: .dead::pS::dz 16 [],[]⟩
def jr (c:Int):Option (Z2):=
 (bif decide (c<=0)then some ([109,48]:List UInt8)else iter (fun d (a,b)=>bif decide ((0:Int)<a)then if 10≠0 then if fits (48+(a.tmod 10))then if(bytesOf ([(IntKind.u8.wrap (48+(a.tmod 10)))]:List Int)).length+b.length<=9223372036854775807 then if 10≠0 then if fits (a.tdiv 10)then d ((a.tdiv 10),((bytesOf ([(IntKind.u8.wrap (48+(a.tmod 10)))]:List Int))++b))else none else none else none else none else none else if([109]:List UInt8).length+b.length<=9223372036854775807 then some (([109]:List UInt8)++b)else none) N (c,([]:List UInt8)))
theorem jaz :mK 105 (bX [pI] [pS] (c1A (jr N))):=
 mO ja func105 rfl N (.seq .no (.seq .no (.seq .no (.seq (.block (.loop jnU .no)) .no)))) _
def jol :Sh:=⟨.mtk 800000 .str 9 true::pI::dz 3 (pI::dz 14 []),[]⟩
def jas (e:List Z2) (h:Int):Option (Int×(List Z2)):=
 (iter (fun f (b,c,a)=>bif decide (a<(b.length:Int))then oB (jr N c) fun d=>(if 0<=a/\a<(b.length:Int)then oB (b[a.toNat]?) fun j=>(if fits (c+1)then if fits (a+1)then f ((b.set a.toNat d),(c+1),(a+1))else none else none)else none)else some (c,b)) N (e,h,(0:Int)))
theorem jdf :mK 85 (bX [.mtk 800000 .str 9 true,pI] [pI,.mtk 800000 .str 9 true] (c2A (jas N))):=
 mO (fC (jaz N) ja) func85 rfl N (.seq .no (.seq (.seq .no (.block (.loop jol .no))) .no)) _ (rs:=[800000])
def jq1 :Sh:=⟨.tre 800000 Y16 156::pI::dz 3 (pI::dz 22 []),[]⟩
def jbZ (e:List Z4) (i:Int):Option (Int×(List Z4)):=
 (iter (fun h (b,d,a)=>bif decide (a<(b.length:Int))then if 0<=a/\a<(b.length:Int)then oB (b[a.toNat]?) fun m=>(oB (jas N m.1 d) fun c=>oB (jr N c.1) fun k=>if 0<=a/\a<(b.length:Int)then oB (b[a.toNat]?) fun f=>(if fits (c.1+1)then if fits (a+1)then h (((b.set a.toNat (f.1,k)).modify a.toNat fun l=>(c.2,l.2)),(c.1+1),(a+1))else none else none)else none)else none else some (d,b)) N (e,i,(0:Int)))
theorem jqK :mK 86 (bX [.tre 800000 Y16 156,pI] [pI,.tre 800000 Y16 156] (c2A (jbZ N))):=
 mO (fC (jdf N) (fC (jaz N) ja)) func86 rfl N (.seq .no (.seq (.seq .no (.block (.loop jq1 .no))) .no)) _ (rs:=[800000])
def jb0 (c:List Z2) (d:List Z4) (e:Int):Option (Int×(List Z2)×(List Z4)):=
 (oB (jas N c e) fun a=>oB (jbZ N d a.1) fun b=>some (b.1,a.2,b.2))
theorem jrd :mK 34 (bX [.agg [.mtk 800000 .str 9 true,.tre 800001 Y16 156],pI] [pI,.mtk 800000 .str 9 true,.tre 800001 Y16 156] (c3A (jb0 N))):=
 mO (fC (jdf N) (fC (jqK N) ja)) func34 rfl N .no _ (rs:=[800000,800001])
def jrq :Sh:=⟨.mtk 800000 Y18 116 true::pI::dz 3 (pI::dz 23 []),[]⟩
def jbW (f:Z12) (j:Int):Option (Int×Z13):=
 (iter (fun i (b,c,a)=>bif decide (a<(b.length:Int))then oB (jr N c) fun d=>(if 0<=a/\a<(b.length:Int)then oB (b[a.toNat]?) fun e=>(if fits (c+1)then oB (jr N (c+1)) fun l=>(if 0<=a/\a<((b.set a.toNat (d,e.2)).length:Int)then oB ((b.set a.toNat (d,e.2))[a.toNat]?) fun h=>(if fits ((c+1)+1)then if fits (a+1)then i (((b.set a.toNat (d,e.2)).set a.toNat (h.1,l)),((c+1)+1),(a+1))else none else none)else none)else none)else none)else some (c,b)) N (f,j,(0:Int)))
theorem jo0 :mK 47 (bX [.mtk 800000 Y18 116 true,pI] [pI,.mtk 800000 Y18 116 true] (c2A (jbW N))):=
 mO (fC (jaz N) ja) func47 rfl N (.seq .no (.seq (.seq .no (.block (.loop jrq .no))) .no)) _ (rs:=[800000])
def js9 :Sh:=⟨.mtk 800000 Y15 149 true::pI::dz 3 (pI::dz 22 []),[]⟩
def jbP (f:Z7) (j:Int):Option (Int×Z9):=
 (iter (fun i (b,c,a)=>bif decide (a<(b.length:Int))then oB (jr N c) fun d=>(if 0<=a/\a<(b.length:Int)then oB (b[a.toNat]?) fun e=>(if fits (c+1)then if 0<=a/\a<((b.set a.toNat (d,e.2)).length:Int)then oB ((b.set a.toNat (d,e.2))[a.toNat]?) fun h=>(if fits ((c+1)+1)then if fits (a+1)then i (((b.set a.toNat (d,e.2)).set a.toNat (h.1,(c+1))),((c+1)+1),(a+1))else none else none)else none else none)else none)else some (c,b)) N (f,j,(0:Int)))
theorem js2 :mK 48 (bX [.mtk 800000 Y15 149 true,pI] [pI,.mtk 800000 Y15 149 true] (c2A (jbP N))):=
 mO (fC (jaz N) ja) func48 rfl N (.seq .no (.seq (.seq .no (.block (.loop js9 .no))) .no)) _ (rs:=[800000])
def jml :Sh:=⟨.tre 800000 Y4 79::pI::dz 3 (pI::dz 28 []),[]⟩
def jb4 (j:List Z0) (m:Int):Option (Int×(List Z0)):=
 (iter (fun k (b,c,a)=>bif decide (a<(b.length:Int))then if 0<=a/\a<(b.length:Int)then oB (b[a.toNat]?) fun d=>(if fits (c+1)then if 0<=a/\a<((b.set a.toNat (c,d.2)).length:Int)then oB ((b.set a.toNat (c,d.2))[a.toNat]?) fun l=>(oB (jbW N l.2.1 (c+1)) fun e=>if 0<=a/\a<((b.set a.toNat (c,d.2)).length:Int)then oB ((b.set a.toNat (c,d.2))[a.toNat]?) fun o=>(oB (jbP N o.2.2 e.1) fun f=>if fits (a+1)then k ((((b.set a.toNat (c,d.2)).modify a.toNat fun i=>(i.1,i.2.1,f.2)).modify a.toNat fun h=>(h.1,e.2,h.2.2)),f.1,(a+1))else none)else none)else none else none)else none else some (c,b)) N (j,m,(0:Int)))
theorem jnb :mK 17 (bX [.tre 800000 Y4 79,pI] [pI,.tre 800000 Y4 79] (c2A (jb4 N))):=
 mO (fC (jo0 N) (fC (js2 N) ja)) func17 rfl N (.seq .no (.seq (.seq .no (.block (.loop jml .no))) .no)) _ (rs:=[800000])
def jl9 :Sh:=⟨.mtk 800000 tI 3 true::pI::dz 3 (pI::dz 13 []),[]⟩
def jco (d:List Int) (f:Int):Option Z5:=
 (iter (fun e (b,c,a)=>bif decide (a<(b.length:Int))then if 0<=a/\a<(b.length:Int)then oB (b[a.toNat]?) fun i=>(if fits (c+1)then if fits (a+1)then e ((b.set a.toNat c),(c+1),(a+1))else none else none)else none else some (c,b)) N (d,f,(0:Int)))
theorem jr1 :mK 88 (bX [.mtk 800000 tI 3 true,pI] [pI,.mtk 800000 tI 3 true] (c2A (jco N))):=
 mO ja func88 rfl N (.seq .no (.seq (.seq .no (.block (.loop jl9 .no))) .no)) _ (rs:=[800000])
def jnn :Sh:=⟨.tre 800000 Y12 164::pI::dz 3 (pI::dz 21 []),[]⟩
def jcm (f:List Z5) (j:Int):Option (Int×(List Z5)):=
 (iter (fun i (b,c,a)=>bif decide (a<(b.length:Int))then if 0<=a/\a<(b.length:Int)then oB (b[a.toNat]?) fun d=>(if fits (c+1)then if 0<=a/\a<((b.set a.toNat (c,d.2)).length:Int)then oB ((b.set a.toNat (c,d.2))[a.toNat]?) fun h=>(oB (jco N h.2 (c+1)) fun e=>if fits (a+1)then i (((b.set a.toNat (c,d.2)).modify a.toNat fun l=>(l.1,e.2)),e.1,(a+1))else none)else none else none)else none else some (c,b)) N (f,j,(0:Int)))
theorem jrg :mK 143 (bX [.tre 800000 Y12 164,pI] [pI,.tre 800000 Y12 164] (c2A (jcm N))):=
 mO (fC (jr1 N) ja) func143 rfl N (.seq .no (.seq (.seq .no (.block (.loop jnn .no))) .no)) _ (rs:=[800000])
def jkI :Sh:=⟨.tre 800000 Y6 106::pI::dz 3 (pI::dz 30 []),[]⟩
def jcD (k:List Z1) (m:Int):Option (Int×(List Z1)):=
 (iter (fun l (b,d,a)=>bif decide (a<(b.length:Int))then oB (jr N d) fun e=>(if 0<=a/\a<(b.length:Int)then oB (b[a.toNat]?) fun f=>(if fits (d+1)then oB (jr N (d+1)) fun h=>(if 0<=a/\a<((b.set a.toNat (e,f.2)).length:Int)then oB ((b.set a.toNat (e,f.2))[a.toNat]?) fun c=>(if fits ((d+1)+1)then if 0<=a/\a<(((b.set a.toNat (e,f.2)).set a.toNat (c.1,h,c.2.2)).length:Int)then oB (((b.set a.toNat (e,f.2)).set a.toNat (c.1,h,c.2.2))[a.toNat]?) fun o=>(oB (jcm N o.2.2 ((d+1)+1)) fun i=>if fits (a+1)then l ((((b.set a.toNat (e,f.2)).set a.toNat (c.1,h,c.2.2)).modify a.toNat fun j=>(j.1,j.2.1,i.2)),i.1,(a+1))else none)else none else none)else none)else none)else none)else some (d,b)) N (k,m,(0:Int)))
theorem jlr :mK 87 (bX [.tre 800000 Y6 106,pI] [pI,.tre 800000 Y6 106] (c2A (jcD N))):=
 mO (fC (jaz N) (fC (jrg N) ja)) func87 rfl N (.seq .no (.seq (.seq .no (.block (.loop jkI .no))) .no)) _ (rs:=[800000])
def jIe :Sh:=⟨.tre 800000 Y1 62::pI::dz 3 (pI::dz 30 []),[]⟩
def jKd (j:List Z3) (m:Int):Option (Int×(List Z3)):=
 (iter (fun k (b,h,a)=>bif decide (a<(b.length:Int))then if 0<=a/\a<(b.length:Int)then oB (b[a.toNat]?) fun p=>(oB (jb4 N p.1.1 h) fun c=>if 0<=a/\a<(b.length:Int)then oB (b[a.toNat]?) fun l=>(oB (jcD N l.1.2 c.1) fun e=>if 0<=a/\a<(b.length:Int)then oB (b[a.toNat]?) fun q=>(oB (jco N q.2 e.1) fun d=>if fits (a+1)then k ((((b.modify a.toNat fun o=>(o.1,d.2)).modify a.toNat fun i=>((i.1.1,e.2),i.2)).modify a.toNat fun f=>((c.2,f.1.2),f.2)),d.1,(a+1))else none)else none)else none)else none else some (h,b)) N (j,m,(0:Int)))
theorem jIE :mK 35 (bX [.tre 800000 Y1 62,pI] [pI,.tre 800000 Y1 62] (c2A (jKd N))):=
 mO (fC (jnb N) (fC (jlr N) (fC (jr1 N) ja))) func35 rfl N (.seq .no (.seq (.seq .no (.block (.loop jIe .no))) .no)) _ (rs:=[800000])
def jJX (c:List Z2) (d:List Z4) (f:List Z3) (e:Int):Option (Int×(List Z2)×(List Z4)×(List Z3)):=
 (oB (jb0 N c d e) fun a=>oB (jKd N f a.1) fun b=>some (b.1,a.2.1,a.2.2,b.2))
theorem jJp :mK 10 (bX [.agg [.mtk 800000 .str 9 true,.tre 800001 Y16 156,.tre 800002 Y1 62],pI] [pI,.mtk 800000 .str 9 true,.tre 800001 Y16 156,.tre 800002 Y1 62] (c4A (jJX N))):=
 mO (fC (jrd N) (fC (jIE N) ja)) func10 rfl N .no _ (rs:=[800000,800001,800002])
def jo4 :Sh:=⟨.pv (.sl .str)::pI::dz 3 (pI::dz 16 []),[]⟩
def ja4 (e:List Z2) (h:Int):Z11:=
 (iter (fun f (c,b,a)=>bif decide (a<(c.length:Int))then oB (idx c a) fun j=>(oB (jr N b) fun d=>bif !decide (j=d)then some (-1)else if fits (b+1)then if fits (a+1)then f (c,(b+1),(a+1))else none else none)else some b) N (e,h,(0:Int)))
theorem jrD :mK 89 (bX [.pv (.sl .str),pI] [pI] (c2A (ja4 N))):=
 mO (fC (jaz N) ja) func89 rfl N (.seq .no (.seq (.seq .no (.block (.loop jo4 .no))) .no)) _
def jMM :Sh:=⟨.pv Y14::pI::dz 3 (pI::dz 26 []),[]⟩
def jKc (e:List Z4) (i:Int):Z11:=
 (iter (fun h (c,d,a)=>bif decide (a<(c.length:Int))then oB (idx c a) fun l=>(oB (ja4 N l.1 d) fun b=>bif decide (b<0)then some (-1)else oB (idx c a) fun f=>oB (jr N b) fun k=>bif !decide (f.2=k)then some (-1)else if fits (b+1)then if fits (a+1)then h (c,(b+1),(a+1))else none else none)else some d) N (e,i,(0:Int)))
theorem jMk :mK 90 (bX [.pv Y14,pI] [pI] (c2A (jKc N))):=
 mO (fC (jrD N) (fC (jaz N) ja)) func90 rfl N (.seq .no (.seq (.seq .no (.block (.loop jMM .no))) .no)) _
def jJ4 (c:List Z2) (d:List Z4) (e:Int):Z11:=
 (oB (ja4 N c e) fun a=>bif decide (a<0)then some (-1)else oB (jKc N d a) fun b=>bif decide (b<0)then some (-1)else some b)
theorem jLQ :mK 36 (bX [.agg [.pv (.sl .str),.pv Y14],pI] [pI] (c3A (jJ4 N))):=
 mO (fC (jrD N) (fC (jMk N) ja)) func36 rfl N .no _
def jK5 :Sh:=⟨.pv Y17::pI::dz 3 (pI::dz 27 []),[]⟩
def jJ8 (e:Z12) (i:Int):Z11:=
 (iter (fun h (c,a,b)=>bif decide (b<(c.length:Int))then oB (idx c b) fun l=>(oB (jr N a) fun d=>bif !decide (l.1=d)then some (-1)else if fits (a+1)then oB (idx c b) fun f=>(oB (jr N (a+1)) fun k=>bif !decide (f.2=k)then some (-1)else if fits ((a+1)+1)then if fits (b+1)then h (c,((a+1)+1),(b+1))else none else none)else none)else some a) N (e,i,(0:Int)))
theorem jLR :mK 144 (bX [.pv Y17,pI] [pI] (c2A (jJ8 N))):=
 mO (fC (jaz N) ja) func144 rfl N (.seq .no (.seq (.seq .no (.block (.loop jK5 .no))) .no)) _
def jNb :Sh:=⟨.pv Y13::pI::dz 3 (pI::dz 26 []),[]⟩
def jJ2 (e:Z7) (i:Int):Z11:=
 (iter (fun h (c,a,b)=>bif decide (b<(c.length:Int))then oB (idx c b) fun k=>(oB (jr N a) fun d=>bif !decide (k.1=d)then some (-1)else if fits (a+1)then oB (idx c b) fun f=>(bif !decide (f.2=(a+1))then some (-1)else if fits ((a+1)+1)then if fits (b+1)then h (c,((a+1)+1),(b+1))else none else none)else none)else some a) N (e,i,(0:Int)))
theorem jMG :mK 145 (bX [.pv Y13,pI] [pI] (c2A (jJ2 N))):=
 mO (fC (jaz N) ja) func145 rfl N (.seq .no (.seq (.seq .no (.block (.loop jNb .no))) .no)) _
def jMl :Sh:=⟨.pv Y3::pI::dz 3 (pI::dz 34 []),[]⟩
def jJY (f:List Z0) (j:Int):Z11:=
 (iter (fun i (b,c,a)=>bif decide (a<(b.length:Int))then oB (idx b a) fun l=>(bif !decide (l.1=c)then some (-1)else if fits (c+1)then oB (idx b a) fun h=>(oB (jJ8 N h.2.1 (c+1)) fun d=>bif decide (d<0)then some (-1)else oB (idx b a) fun m=>oB (jJ2 N m.2.2 d) fun e=>bif decide (e<0)then some (-1)else if fits (a+1)then i (b,e,(a+1))else none)else none)else some c) N (f,j,(0:Int)))
theorem jKZ :mK 91 (bX [.pv Y3,pI] [pI] (c2A (jJY N))):=
 mO (fC (jLR N) (fC (jMG N) ja)) func91 rfl N (.seq .no (.seq (.seq .no (.block (.loop jMl .no))) .no)) _
def jEr :Sh:=⟨.pv Y19::pI::dz 3 (pI::dz 15 []),[]⟩
def jEi (d:List Int) (f:Int):Z11:=
 (iter (fun e (c,b,a)=>bif decide (a<(c.length:Int))then oB (idx c a) fun i=>(bif !decide (i=b)then some (-1)else if fits (b+1)then if fits (a+1)then e (c,(b+1),(a+1))else none else none)else some b) N (d,f,(0:Int)))
theorem jEn :mK 93 (bX [.pv Y19,pI] [pI] (c2A (jEi N))):=
 mO ja func93 rfl N (.seq .no (.seq (.seq .no (.block (.loop jEr .no))) .no)) _
def jMS :Sh:=⟨.pv Y11::pI::dz 3 (pI::dz 25 []),[]⟩
def jJ1 (e:List Z5) (i:Int):Z11:=
 (iter (fun h (b,c,a)=>bif decide (a<(b.length:Int))then oB (idx b a) fun k=>(bif !decide (k.1=c)then some (-1)else if fits (c+1)then oB (idx b a) fun f=>(oB (jEi N f.2 (c+1)) fun d=>bif decide (d<0)then some (-1)else if fits (a+1)then h (b,d,(a+1))else none)else none)else some c) N (e,i,(0:Int)))
theorem jMN :mK 146 (bX [.pv Y11,pI] [pI] (c2A (jJ1 N))):=
 mO (fC (jEn N) ja) func146 rfl N (.seq .no (.seq (.seq .no (.block (.loop jMS .no))) .no)) _
def jK2 :Sh:=⟨.pv Y5::pI::dz 3 (pI::dz 36 []),[]⟩
def jKa (f:List Z1) (j:Int):Z11:=
 (iter (fun i (c,b,a)=>bif decide (a<(c.length:Int))then oB (idx c a) fun m=>(oB (jr N b) fun e=>bif !decide (m.1=e)then some (-1)else if fits (b+1)then oB (idx c a) fun h=>(oB (jr N (b+1)) fun l=>bif !decide (h.2.1=l)then some (-1)else if fits ((b+1)+1)then oB (idx c a) fun n=>(oB (jJ1 N n.2.2 ((b+1)+1)) fun d=>bif decide (d<0)then some (-1)else if fits (a+1)then i (c,d,(a+1))else none)else none)else none)else some b) N (f,j,(0:Int)))
theorem jLJ :mK 92 (bX [.pv Y5,pI] [pI] (c2A (jKa N))):=
 mO (fC (jaz N) (fC (jMN N) ja)) func92 rfl N (.seq .no (.seq (.seq .no (.block (.loop jK2 .no))) .no)) _
def jMb :Sh:=⟨.pv Y0::pI::dz 3 (pI::dz 36 []),[]⟩
def jJ6 (h:List Z3) (k:Int):Z11:=
 (iter (fun j (b,f,a)=>bif decide (a<(b.length:Int))then oB (idx b a) fun m=>(oB (jJY N m.1.1 f) fun c=>bif decide (c<0)then some (-1)else oB (idx b a) fun i=>oB (jKa N i.1.2 c) fun e=>bif decide (e<0)then some (-1)else oB (idx b a) fun n=>oB (jEi N n.2 e) fun d=>bif decide (d<0)then some (-1)else if fits (a+1)then j (b,d,(a+1))else none)else some f) N (h,k,(0:Int)))
theorem jMy :mK 37 (bX [.pv Y0,pI] [pI] (c2A (jJ6 N))):=
 mO (fC (jKZ N) (fC (jLJ N) (fC (jEn N) ja))) func37 rfl N (.seq .no (.seq (.seq .no (.block (.loop jMb .no))) .no)) _
def jJT (c:List Z2) (d:List Z4) (f:List Z3) (e:Int):Z11:=
 (oB (jJ4 N c d e) fun a=>bif decide (a<0)then some (-1)else oB (jJ6 N f a) fun b=>bif decide (b<0)then some (-1)else some b)
theorem jLE :mK 11 (bX [.agg [.pv (.sl .str),.pv Y14,.pv Y0],pI] [pI] (c4A (jJT N))):=
 mO (fC (jLQ N) (fC (jMy N) ja)) func11 rfl N .no _
noncomputable def jWQ (h:List Z2) (i:List Z4) (f:List Z3) (e:List Z0):Z8:=
 (oB (jJ5 N h i f 1048576) fun o=>bif decide (o<0)then some true else oB (jdo N e o) fun w=>bif decide (w<0)then some true else oB (jJM N h i f) fun n=>oB (jdO N e) fun r=>oB (s_IndexAdd_m N n.1 n.2.1 n.2.2 r) fun a=>oB (jJM N h i f) fun c=>oB (jdO N e) fun m=>oB (i_IndexAdd_m N c.1 c.2.1 c.2.2 m) fun b=>oB (jJN N b.1 b.2.1 b.2.2.1 a.1 a.2.1 a.2.2.1) fun C=>bif !C then some false else bif !(b.2.2.2==a.2.2.2)then some false else oB (jJM N h i f) fun l=>oB (jJN N c.1 c.2.1 c.2.2 l.1 l.2.1 l.2.2) fun B=>bif !B then some false else oB (jdO N e) fun v=>oB (jdZ N m v) fun t=>bif !t then some false else oB (jJX N c.1 c.2.1 c.2.2 1) fun x=>oB (jb4 N m x.1) fun u=>bif decide (u.1<0)then some false else oB (jJN N b.1 b.2.1 b.2.2.1 a.1 a.2.1 a.2.2.1) fun y=>bif !y then some false else bif !(b.2.2.2==a.2.2.2)then some false else oB (jJX N b.1 b.2.1 b.2.2.1 1) fun d=>oB (jJT N d.2.1 d.2.2.1 d.2.2.2 1) fun p=>bif decide (p<0)then some false else bif !decide (p=d.1)then some false else oB (jJM N h i f) fun k=>oB (jdO N e) fun z=>oB (i_IndexAdd_m N k.1 k.2.1 k.2.2 z) fun j=>oB (jJN N j.1 j.2.1 j.2.2.1 a.1 a.2.1 a.2.2.1) fun A=>bif !A then some false else bif !(j.2.2.2==a.2.2.2)then some false else oB (jJT N d.2.1 d.2.2.1 d.2.2.2 1) fun q=>bif decide (q<0)then some false else bif !decide (q=d.1)then some false else some true)
noncomputable def jWV (N:Nat):Model:=⟨⟨[.agg [.pv (.sl .str),.pv Y14,.pv Y0],.pv Y3],[]⟩,⟨[pB],[]⟩,c4A (jWQ N)⟩
theorem jXb :mK 4 (jWV N):=
 mO (fC (jIX N) (fC (jsn N) (fC (jJt N) (fC (jsQ N) (fC (jNM N) (fC (jRi N) (fC (jIY N) (fC (jmb N) (fC (jJp N) (fC (jnb N) (fC (jLE N) ja))))))))))) func4 rfl N .no (jWV N) (dw:=[29,31,36,38,42,47,56,57,61,62,75,88,96,98,99,104,113])
end Go.Proofs.YtibcadmdkehmhaaGreat
