import Derived.Test.YtcinmmojlcchfaaGreatDoorG1A
set_option linter.unusedVariables false
set_option linter.unusedSimpArgs false
namespace Go.Proofs.YtcinmmojlcchfaaGreatDoor
open Go.RowKit Go.Proofs.Tryz
variable (N : Nat)
open Option renaming bind -> oB
def k__slices_xorshift_Next_m (N:Nat) (a:Int):Option (Int×Int):=
 (if 0<=(13:Int)then if 0<=(7:Int)then if 0<=(17:Int)then some ((bitsI .xor .u64 (bitsI .xor .u64 (bitsI .xor .u64 a (IntKind.u64.wrap (a*2^(min (13:Int).toNat (IntKind.bits .u64))))) ((bitsI .xor .u64 a (IntKind.u64.wrap (a*2^(min (13:Int).toNat (IntKind.bits .u64))))).fdiv (2^(min (7:Int).toNat (IntKind.bits .u64))))) (IntKind.u64.wrap ((bitsI .xor .u64 (bitsI .xor .u64 a (IntKind.u64.wrap (a*2^(min (13:Int).toNat (IntKind.bits .u64))))) ((bitsI .xor .u64 a (IntKind.u64.wrap (a*2^(min (13:Int).toNat (IntKind.bits .u64))))).fdiv (2^(min (7:Int).toNat (IntKind.bits .u64)))))*2^(min (17:Int).toNat (IntKind.bits .u64))))),(bitsI .xor .u64 (bitsI .xor .u64 (bitsI .xor .u64 a (IntKind.u64.wrap (a*2^(min (13:Int).toNat (IntKind.bits .u64))))) ((bitsI .xor .u64 a (IntKind.u64.wrap (a*2^(min (13:Int).toNat (IntKind.bits .u64))))).fdiv (2^(min (7:Int).toNat (IntKind.bits .u64))))) (IntKind.u64.wrap ((bitsI .xor .u64 (bitsI .xor .u64 a (IntKind.u64.wrap (a*2^(min (13:Int).toNat (IntKind.bits .u64))))) ((bitsI .xor .u64 a (IntKind.u64.wrap (a*2^(min (13:Int).toNat (IntKind.bits .u64))))).fdiv (2^(min (7:Int).toNat (IntKind.bits .u64)))))*2^(min (17:Int).toNat (IntKind.bits .u64))))))else none else none else none)
theorem jet :mK 309 ⟨⟨[.box 900000 0],[(900000,false,[.pv (.int .u64)])]⟩,⟨[.pv (.int .u64)],[(900000,false,[.pv (.int .u64)])]⟩,c1A (k__slices_xorshift_Next_m N)⟩:=
 mO ja func309 rfl N .no _ (rs:=[900000])
section
variable {α γ ρ : Type} (c : γ -> α -> α -> Option Int)
def swpG (d:List α) (i j:Int) (k:List α->Option ρ):Option ρ:=
 if 0<=j/\j<(d.length:Int)then oB (d[j.toNat]?) fun e=>if 0<=i/\i<(d.length:Int)then oB (d[i.toNat]?) fun e2=>
  if 0<=i/\i<(d.length:Int)then oB (d[i.toNat]?) fun e3=>if 0<=j/\j<((d.set i.toNat e).length:Int)then oB ((d.set i.toNat e)[j.toNat]?) fun e4=>k ((d.set i.toNat e).set j.toNat e2)
  else none else none else none else none
def cmpG (ks:γ) (d:List α) (i j:Int) (k:Int->Option ρ):Option ρ:=
 if 0<=i/\i<(d.length:Int)then oB (d[i.toNat]?) fun e=>if 0<=j/\j<(d.length:Int)then oB (d[j.toNat]?) fun e2=>oB (c ks e e2) k else none else none
def cmpP (ks:γ) (d:List α) (j:Int) (k:Int->Option ρ):Option ρ:=
 if 0<=j/\j<(d.length:Int)then oB (d[j.toNat]?) fun e=>if fits (j-1)then if 0<=(j-1)/\(j-1)<(d.length:Int)then oB (d[(j-1).toNat]?) fun e2=>oB (c ks e e2) k else none else none else none
def swpP (d:List α) (j:Int) (k:List α->Option ρ):Option ρ:=if fits (j-1)then if fits (j-1)then swpG d j (j-1) k else none else none
def insG (N:Nat) (d:List α) (a b:Int) (ks:γ):Option (List α):=
 if fits (a+1)then iter (fun go (g:List α×Int×Int×γ×Int)=>
  match g with
  |(d2,a2,b2,ks2,i)=>
  bif decide (i<b2)then
   iter (fun go2 (g:List α×Int×Int×γ×Int×Int)=>
    match g with
    |(d3,a3,b3,ks3,i2,j)=>
    bif decide (a3<j)then cmpP c ks3 d3 j fun r=>bif decide (r<0)then swpP d3 j fun d=>if fits (j-1)then go2 (d,a3,b3,ks3,i2,j-1)else none
     else if fits (i2+1)then go (d3,a3,b3,ks3,i2+1)else none
    else if fits (i2+1)then go (d3,a3,b3,ks3,i2+1)else none) N (d2,a2,b2,ks2,i,i)
  else some d2) N (d,a,b,ks,a+1)else none
def siftG (N:Nat) (data:List α) (lo:Int) (hi:Int) (first:Int) (cmp:γ):Option ((List α)):=
 (iter (fun go (g:(List α)×Int×Int×γ×Int)=>
   match g with
   |(data2,hi2,first2,cmp2,root)=>
   (if fits (2*root)then(if fits ((2*root)+1)then(bif(decide (hi2<=((2*root)+1)))then
      (some data2)
      else
      (meet (fun(g:(List α)×Int×Int×γ×Int×Int)=>
        match g with
        |(data3,hi3,first3,cmp3,root2,child)=>
        (if fits (first3+root2)then(if 0<=(first3+root2)/\(first3+root2)<(data3.length:Int)then
          (oB (data3[(first3+root2).toNat]?) fun e3=>
           (if fits (first3+child)then(if 0<=(first3+child)/\(first3+child)<(data3.length:Int)then
             (oB (data3[(first3+child).toNat]?) fun e4=>
              (oB (c cmp3 e3 e4) fun r2=>
               (bif(!(decide (r2<0)))then
                (some data3)
                else
                (if fits (first3+root2)then(if fits (first3+child)then(if fits (first3+child)then(if 0<=(first3+child)/\(first3+child)<(data3.length:Int)then
                    (oB (data3[(first3+child).toNat]?) fun e5=>
                     (if fits (first3+root2)then(if 0<=(first3+root2)/\(first3+root2)<(data3.length:Int)then
                       (oB (data3[(first3+root2).toNat]?) fun e6=>
                        (if 0<=(first3+root2)/\(first3+root2)<(data3.length:Int)then
                         (oB (data3[(first3+root2).toNat]?) fun e7=>
                          (if 0<=(first3+child)/\(first3+child)<((data3.set (first3+root2).toNat e5).length:Int)then
                           (oB ((data3.set (first3+root2).toNat e5)[(first3+child).toNat]?) fun e8=>
                            (go (((data3.set (first3+root2).toNat e5).set (first3+child).toNat e6),hi3,first3,cmp3,child)))
                           else none))
                         else none))
                       else none)else none))
                    else none)else none)else none)else none))))
             else none)else none))
          else none)else none)) fun J=>
       (if fits (((2*root)+1)+1)then(bif(decide ((((2*root)+1)+1)<hi2))then
         (if fits (first2+((2*root)+1))then(if 0<=(first2+((2*root)+1))/\(first2+((2*root)+1))<(data2.length:Int)then
           (oB (data2[(first2+((2*root)+1)).toNat]?) fun e=>
            (if fits (first2+((2*root)+1))then(if fits ((first2+((2*root)+1))+1)then(if 0<=((first2+((2*root)+1))+1)/\((first2+((2*root)+1))+1)<(data2.length:Int)then
               (oB (data2[((first2+((2*root)+1))+1).toNat]?) fun e2=>
                (oB (c cmp2 e e2) fun r=>
                 (bif(decide (r<0))then
                  (if fits (((2*root)+1)+1)then(J (data2,hi2,first2,cmp2,root,(((2*root)+1)+1)))else none)
                  else
                  (J (data2,hi2,first2,cmp2,root,((2*root)+1))))))
               else none)else none)else none))
           else none)else none)
         else
         (J (data2,hi2,first2,cmp2,root,((2*root)+1))))else none)))else none)else none)) N (data,hi,first,cmp,lo))
def heapG (N:Nat) (data:List α) (a:Int) (b:Int) (cmp:γ):Option ((List α)):=
 (if fits (b-a)then(if fits ((b-a)-1)then(if 2≠0 then
    (if fits (((b-a)-1).tdiv 2)then(iter (fun go (g:(List α)×γ×Int×Int×Int×Int)=>
       match g with
       |(data2,cmp2,first,lo,hi,i)=>
       (bif(decide ((0:Int)<=i))then
        (oB (siftG c N data2 i hi first cmp2) fun r=>
         (if fits (i-1)then(go (r,cmp2,first,lo,hi,(i-1)))else none))
        else
        (if fits (hi-1)then(iter (fun go2 (g:(List α)×γ×Int×Int×Int)=>
           match g with
           |(data3,cmp3,first2,lo2,i2)=>
           (bif(decide ((0:Int)<=i2))then
            (if fits (first2+i2)then(if fits (first2+i2)then swpG data3 first2 (first2+i2) fun d=>(oB (siftG c N d lo2 i2 first2 cmp3) fun r2=>
                       (if fits (i2-1)then(go2 (r2,cmp3,first2,lo2,(i2-1)))else none))else none)else none)
            else
            (some data3))) N (data2,cmp2,first,lo,(hi-1)))else none))) N (data,cmp,a,0,(b-a),(((b-a)-1).tdiv 2)))else none)
    else none)else none)else none)
def breakG (N:Nat) (data:List α) (a:Int) (b:Int) (cmp:γ):Option (List α):=
 (if fits (b-a)then(bif(decide ((8:Int)<=(b-a)))then
   (oB (k_slices_nextPowerOfTwo_m N (b-a)) fun r=>
    (if 4≠0 then
     (if fits ((b-a).tdiv 4)then(if fits (((b-a).tdiv 4)*2)then(if fits (a+(((b-a).tdiv 4)*2))then(if fits ((a+(((b-a).tdiv 4)*2))-1)then(iter (fun go (g:(List α)×Int×Int×Int×Int×Int)=>
           match g with
           |(data2,a2,length,modulus,idx0,random)=>
           (if 4≠0 then
            (if fits (length.tdiv 4)then(if fits ((length.tdiv 4)*2)then(if fits (a2+((length.tdiv 4)*2))then(if fits ((a2+((length.tdiv 4)*2))+1)then(bif(decide (idx0<=((a2+((length.tdiv 4)*2))+1)))then
                 (oB (k__slices_xorshift_Next_m N random) fun r2=>
                  (meet (fun(g:(List α)×Int×Int×Int×Int×Int×Int)=>
                    match g with
                    |(data3,a3,length2,modulus2,idx02,other,random2)=>
                    (if fits (a3+other)then(if fits (a3+other)then swpG data3 idx02 (a3+other) fun d=>(if fits (idx02+1)then(go (d,a3,length2,modulus2,(idx02+1),random2))else none)else none)else none)) fun J=>
                   (bif(decide (length<=(IntKind.i64.wrap (bitsI .and .u64 r2.1 (IntKind.u64.wrap (modulus-1))))))then
                    (if fits ((IntKind.i64.wrap (bitsI .and .u64 r2.1 (IntKind.u64.wrap (modulus-1))))-length)then(J (data2,a2,length,modulus,idx0,((IntKind.i64.wrap (bitsI .and .u64 r2.1 (IntKind.u64.wrap (modulus-1))))-length),r2.2))else none)
                    else
                    (J (data2,a2,length,modulus,idx0,(IntKind.i64.wrap (bitsI .and .u64 r2.1 (IntKind.u64.wrap (modulus-1)))),r2.2)))))
                 else
                 (some data2))else none)else none)else none)else none)
            else none)) N (data,a,(b-a),r,((a+(((b-a).tdiv 4)*2))-1),(IntKind.u64.wrap (b-a))))else none)else none)else none)else none)
     else none))
   else
   (some data))else none)
def order2G (N:Nat) (data:List α) (a:Int) (b:Int) (cmp:γ) (b2:Int):Option (Int×Int×(List α)×Int):=
 cmpG c cmp data b a fun r=>(bif(decide (r<0))then(if fits (b2+1)then(some (b,a,data,(b2+1)))else none)else(some (a,b,data,b2)))
def medianG (N:Nat) (data:List α) (a:Int) (b:Int) (c0:Int) (cmp:γ) (b2:Int):Option (Int×(List α)×Int):=
 (oB (order2G c N data a b cmp b2) fun r=>
  (oB (order2G c N r.2.2.1 r.2.1 c0 cmp r.2.2.2) fun r2=>
   (oB (order2G c N r2.2.2.1 r.1 r2.1 cmp r2.2.2.2) fun r3=>
    (some (r3.2.1,r3.2.2.1,r3.2.2.2)))))
def medianAdjacentG (N:Nat) (data:List α) (a:Int) (cmp:γ) (b:Int):Option (Int×(List α)×Int):=
 (if fits (a-1)then(if fits (a+1)then(oB (medianG c N data (a-1) a (a+1) cmp b) fun r=>
    (some (r.1,r.2.1,r.2.2)))else none)else none)
def choosePivotG (N:Nat) (data:List α) (a:Int) (b:Int) (cmp:γ):Option (Int×Int×(List α)):=
 (if fits (b-a)then(if 4≠0 then
   (if fits ((b-a).tdiv 4)then(if fits (((b-a).tdiv 4)*1)then(if fits (a+(((b-a).tdiv 4)*1))then(if 4≠0 then
       (if fits ((b-a).tdiv 4)then(if fits (((b-a).tdiv 4)*2)then(if fits (a+(((b-a).tdiv 4)*2))then(if 4≠0 then
           (if fits ((b-a).tdiv 4)then(if fits (((b-a).tdiv 4)*3)then(if fits (a+(((b-a).tdiv 4)*3))then(meet (fun(g:(List α)×Int×Int)=>
                match g with
                |(data3,j2,swaps2)=>
                (bif(decide (swaps2=0))then
                 (some (j2,1,data3))
                 else
                 (bif(decide (swaps2=12))then
                  (some (j2,2,data3))
                  else
                  (some (j2,0,data3))))) fun J=>
               (bif(decide ((8:Int)<=(b-a)))then
                (meet (fun(g:(List α)×γ×Int×Int×Int×Int)=>
                  match g with
                  |(data2,cmp2,i,j,k,swaps)=>
                  (oB (medianG c N data2 i j k cmp2 swaps) fun r4=>
                   (J (r4.2.1,r4.1,r4.2.2)))) fun J2=>
                 (bif(decide ((50:Int)<=(b-a)))then
                  (oB (medianAdjacentG c N data (a+(((b-a).tdiv 4)*1)) cmp 0) fun r=>
                   (oB (medianAdjacentG c N r.2.1 (a+(((b-a).tdiv 4)*2)) cmp r.2.2) fun r2=>
                    (oB (medianAdjacentG c N r2.2.1 (a+(((b-a).tdiv 4)*3)) cmp r2.2.2) fun r3=>
                     (J2 (r3.2.1,cmp,r.1,r2.1,r3.1,r3.2.2)))))
                  else
                  (J2 (data,cmp,(a+(((b-a).tdiv 4)*1)),(a+(((b-a).tdiv 4)*2)),(a+(((b-a).tdiv 4)*3)),0))))
                else
                (J (data,(a+(((b-a).tdiv 4)*2)),0))))else none)else none)else none)
           else none)else none)else none)else none)
       else none)else none)else none)else none)
   else none)else none)
def reverseRangeG (N:Nat) (data:List α) (a:Int) (b:Int) (cmp:γ):Option ((List α)):=
 (if fits (b-1)then(iter (fun go (g:(List α)×Int×Int)=>
    match g with
    |(data2,i,j)=>
    (bif(decide (i<j))then swpG data2 i j fun d=>(if fits (i+1)then(if fits (j-1)then(go (d,(i+1),(j-1)))else none)else none)
     else
     (some data2))) N (data,a,(b-1)))else none)
def shDown (k:(List α×Int×Int×γ×Int×Int)->Option ρ) (N:Nat) (g:List α×Int×Int×γ×Int×Int×Int):Option ρ:=
 iter (fun go3 (g:(List α)×Int×Int×γ×Int×Int×Int)=>
  match g with
  |(d,a,b,ks,i,j,j4)=>
  bif decide ((1:Int)<=j4)then cmpP c ks d j4 fun r=>bif !decide (r<0)then k (d,a,b,ks,i,j)else swpP d j4 fun d'=>if fits (j4-1)then go3 (d',a,b,ks,i,j,j4-1)else none
  else k (d,a,b,ks,i,j)) N g
def shUp (k:(List α×Int×Int×γ×Int×Int)->Option ρ) (N:Nat) (g:List α×Int×Int×γ×Int×Int×Int):Option ρ:=
 iter (fun go4 (g:(List α)×Int×Int×γ×Int×Int×Int)=>
  match g with
  |(d,a,b,ks,i,j,j4)=>
  bif decide (j4<b)then cmpP c ks d j4 fun r=>bif !decide (r<0)then(if fits (j+1)then k (d,a,b,ks,i,j+1)else none)else swpP d j4 fun d'=>if fits (j4+1)then go4 (d',a,b,ks,i,j,j4+1)else none
  else if fits (j+1)then k (d,a,b,ks,i,j+1)else none) N g
def pisX (N:Nat) (go:(List α×Int×Int×γ×Int×Int)->Option (Bool×List α)) (d:List α) (a b:Int) (ks:γ) (i j:Int):Option (Bool×List α):=
 bif decide (i=b)then some (true,d)else if fits (b-a)then bif decide ((b-a)<50)then some (false,d)else
  swpP d i fun d'=>meet (fun(g:List α×Int×Int×γ×Int×Int)=>
   match g with
   |(d5,a5,b5,ks5,i4,j5)=>
   if fits (b5-i4)then bif decide ((2:Int)<=(b5-i4))then if fits (i4+1)then shUp c go N (d5,a5,b5,ks5,i4,j5,i4+1)else none
    else(if fits (j5+1)then go (d5,a5,b5,ks5,i4,j5+1)else none)else none) fun J=>
   if fits (i-a)then bif decide ((2:Int)<=(i-a))then if fits (i-1)then shDown c J N (d',a,b,ks,i,j,i-1)else none else J (d',a,b,ks,i,j)else none
 else none
def pisG (N:Nat) (d:List α) (a b:Int) (ks:γ):Option (Bool×List α):=
 if fits (a+1)then iter (fun go (g:List α×Int×Int×γ×Int×Int)=>
  match g with
  |(d2,a2,b2,ks2,i,j)=>
  bif decide (j<5)then
   iter (fun go2 (g:List α×Int×Int×γ×Int×Int)=>
    match g with
    |(d3,a3,b3,ks3,i2,j2)=>
    bif decide (i2<b3)then cmpP c ks3 d3 i2 fun r=>bif !decide (r<0)then(if fits (i2+1)then go2 (d3,a3,b3,ks3,i2+1,j2)else none)else pisX c N go d3 a3 b3 ks3 i2 j2
    else pisX c N go d3 a3 b3 ks3 i2 j2) N (d2,a2,b2,ks2,i,j)
  else some (false,d2)) N (d,a,b,ks,a+1,0)else none
def partE (go3:(List α×Int×γ×Int×Int)->Option (Int×Bool×List α)) (fl:Bool) (g:List α×Int×γ×Int×Int):Option (Int×Bool×List α):=
 match g with
 |(d,a,ks,i,j)=>
 bif decide (j<i)then swpG d j a fun d'=>some (j,fl,d')else swpG d i j fun d'=>if fits (i+1)then if fits (j-1)then go3 (d',a,ks,i+1,j-1)else none else none
def partD (k:(List α×Int×γ×Int×Int)->Option ρ) (N:Nat) (g:List α×Int×γ×Int×Int):Option ρ:=
 iter (fun go (g:List α×Int×γ×Int×Int)=>
  match g with
  |(d,a,ks,i,j)=>
  bif decide (i<=j)then cmpG c ks d j a fun r=>bif !decide (r<0)then(if fits (j-1)then go (d,a,ks,i,j-1)else none)else k (d,a,ks,i,j)
  else k (d,a,ks,i,j)) N g
def partU (k:(List α×Int×γ×Int×Int)->Option ρ) (N:Nat) (g:List α×Int×γ×Int×Int):Option ρ:=
 iter (fun go (g:List α×Int×γ×Int×Int)=>
  match g with
  |(d,a,ks,i,j)=>
  bif decide (i<=j)then cmpG c ks d i a fun r=>bif decide (r<0)then(if fits (i+1)then go (d,a,ks,i+1,j)else none)else k (d,a,ks,i,j)
  else k (d,a,ks,i,j)) N g
def partG (N:Nat) (d:List α) (a b p:Int) (ks:γ):Option (Int×Bool×List α):=
 swpG d a p fun d=>if fits (a+1)then if fits (b-1)then
  partU c (fun g=>partD c (partE (fun g=>iter (fun go3 g=>partU c (fun g=>partD c (partE go3 false) N g) N g) N g) true) N g) N (d,a,ks,a+1,b-1)
 else none else none
def peqE (go:(List α×Int×γ×Int×Int)->Option (Int×List α)) (g:List α×Int×γ×Int×Int):Option (Int×List α):=
 match g with
 |(d,a,ks,i,j)=>
 bif decide (j<i)then some (i,d)else swpG d i j fun d'=>if fits (i+1)then if fits (j-1)then go (d',a,ks,i+1,j-1)else none else none
def peqD (k:(List α×Int×γ×Int×Int)->Option ρ) (N:Nat) (g:List α×Int×γ×Int×Int):Option ρ:=
 iter (fun go (g:List α×Int×γ×Int×Int)=>
  match g with
  |(d,a,ks,i,j)=>
  bif decide (i<=j)then cmpG c ks d a j fun r=>bif decide (r<0)then(if fits (j-1)then go (d,a,ks,i,j-1)else none)else k (d,a,ks,i,j)
  else k (d,a,ks,i,j)) N g
def peqU (k:(List α×Int×γ×Int×Int)->Option ρ) (N:Nat) (g:List α×Int×γ×Int×Int):Option ρ:=
 iter (fun go (g:List α×Int×γ×Int×Int)=>
  match g with
  |(d,a,ks,i,j)=>
  bif decide (i<=j)then cmpG c ks d a i fun r=>bif !decide (r<0)then(if fits (i+1)then go (d,a,ks,i+1,j)else none)else k (d,a,ks,i,j)
  else k (d,a,ks,i,j)) N g
def peqG (N:Nat) (d:List α) (a b p:Int) (ks:γ):Option (Int×List α):=
 swpG d a p fun d=>if fits (a+1)then if fits (b-1)then iter (fun go g=>peqU c (fun g=>peqD c (peqE go) N g) N g) N (d,a,ks,a+1,b-1)else none else none
def pdqG (hs:List α->Int->Int->γ->Option (List α)) (pe:List α->Int->Int->Int->γ->Option (Int×List α)) (N:Nat):(D:Nat)->(List α)->Int->Int->Int->γ->Option ((List α))
 |0,_,_,_,_,_=>none
 |D+1,data,a,b,limit,cmp=>
 (iter (fun go (g:(List α)×Int×Int×Int×γ×Bool×Bool)=>
   match g with
   |(data2,a2,b2,limit2,cmp2,wasBalanced,wasPartitioned)=>
   (if fits (b2-a2)then(bif(decide ((b2-a2)<=12))then
     (oB (insG c N data2 a2 b2 cmp2) fun r=>
      (some r))
     else
     (bif(decide (limit2=0))then
      (oB (hs data2 a2 b2 cmp2) fun r2=>
       (some r2))
      else
      (meet (fun(g:(List α)×Int×Int×Int×γ×Bool×Bool×Int)=>
        match g with
        |(data3,a3,b3,limit3,cmp3,wasBalanced2,wasPartitioned2,length)=>
        (oB (choosePivotG c N data3 a3 b3 cmp3) fun r4=>
         (meet (fun(g:(List α)×Int×Int×Int×γ×Bool×Bool×Int×Int×Int)=>
           match g with
           |(data4,a4,b4,limit4,cmp4,wasBalanced3,wasPartitioned3,length2,pivot,hint)=>
           (meet (fun(g:(List α)×Int×Int×Int×γ×Bool×Bool×Int×Int)=>
             match g with
             |(data5,a5,b5,limit5,cmp5,wasBalanced4,wasPartitioned4,length3,pivot2)=>
             (bif(decide ((0:Int)<a5))then
              (if fits (a5-1)then(if 0<=(a5-1)/\(a5-1)<(data5.length:Int)then
                (oB (data5[(a5-1).toNat]?) fun e=>
                 (if 0<=pivot2/\pivot2<(data5.length:Int)then
                  (oB (data5[pivot2.toNat]?) fun e2=>
                   (oB (c cmp5 e e2) fun r7=>
                    (bif(!(decide (r7<0)))then
                     (oB (pe data5 a5 b5 pivot2 cmp5) fun r8=>
                      (go (r8.2,r8.1,b5,limit5,cmp5,wasBalanced4,wasPartitioned4)))
                     else
                     (oB (partG c N data5 a5 b5 pivot2 cmp5) fun r9=>
                      (if fits (r9.1-a5)then(if fits (b5-r9.1)then(if 8≠0 then
                         (if fits (length3.tdiv 8)then(bif(decide ((r9.1-a5)<(b5-r9.1)))then
                           (oB (pdqG hs pe N D r9.2.2 a5 r9.1 limit5 cmp5) fun r10=>
                            (if fits (r9.1+1)then(go (r10,(r9.1+1),b5,limit5,cmp5,(decide ((length3.tdiv 8)<=(r9.1-a5))),r9.2.1))else none))
                           else
                           (if fits (r9.1+1)then(oB (pdqG hs pe N D r9.2.2 (r9.1+1) b5 limit5 cmp5) fun r11=>
                             (go (r11,a5,r9.1,limit5,cmp5,(decide ((length3.tdiv 8)<=(b5-r9.1))),r9.2.1)))else none))else none)
                         else none)else none)else none)))))
                  else none))
                else none)else none)
              else
              (oB (partG c N data5 a5 b5 pivot2 cmp5) fun r12=>
               (if fits (r12.1-a5)then(if fits (b5-r12.1)then(if 8≠0 then
                  (if fits (length3.tdiv 8)then(bif(decide ((r12.1-a5)<(b5-r12.1)))then
                    (oB (pdqG hs pe N D r12.2.2 a5 r12.1 limit5 cmp5) fun r13=>
                     (if fits (r12.1+1)then(go (r13,(r12.1+1),b5,limit5,cmp5,(decide ((length3.tdiv 8)<=(r12.1-a5))),r12.2.1))else none))
                    else
                    (if fits (r12.1+1)then(oB (pdqG hs pe N D r12.2.2 (r12.1+1) b5 limit5 cmp5) fun r14=>
                      (go (r14,a5,r12.1,limit5,cmp5,(decide ((length3.tdiv 8)<=(b5-r12.1))),r12.2.1)))else none))else none)
                  else none)else none)else none)))) fun J3=>
            (bif wasBalanced3 then
             (bif wasPartitioned3 then
              (bif(decide (hint=1))then
               (oB (pisG c N data4 a4 b4 cmp4) fun r6=>
                (bif r6.1 then
                 (some r6.2)
                 else
                 (J3 (r6.2,a4,b4,limit4,cmp4,wasBalanced3,wasPartitioned3,length2,pivot))))
               else
               (J3 (data4,a4,b4,limit4,cmp4,wasBalanced3,wasPartitioned3,length2,pivot)))
              else
              (J3 (data4,a4,b4,limit4,cmp4,wasBalanced3,wasPartitioned3,length2,pivot)))
             else
             (J3 (data4,a4,b4,limit4,cmp4,wasBalanced3,wasPartitioned3,length2,pivot))))) fun J2=>
          (bif(decide (r4.2.1=2))then
           (oB (reverseRangeG N r4.2.2 a3 b3 cmp3) fun r5=>
            (if fits (b3-1)then(if fits (r4.1-a3)then(if fits ((b3-1)-(r4.1-a3))then(J2 (r5,a3,b3,limit3,cmp3,wasBalanced2,wasPartitioned2,length,((b3-1)-(r4.1-a3)),1))else none)else none)else none))
           else
           (J2 (r4.2.2,a3,b3,limit3,cmp3,wasBalanced2,wasPartitioned2,length,r4.1,r4.2.1)))))) fun J=>
       (bif(!wasBalanced)then
        (oB (breakG N data2 a2 b2 cmp2) fun r3=>
         (if fits (limit2-1)then(J (r3,a2,b2,(limit2-1),cmp2,wasBalanced,wasPartitioned,(b2-a2)))else none))
        else
        (J (data2,a2,b2,limit2,cmp2,wasBalanced,wasPartitioned,(b2-a2)))))))else none)) N (data,a,b,limit,cmp,true,true))
end
def cmp669 (N:Nat):(Unit)->Z0->Z0->Option Int:=(fun(cmp:Unit) (e e2:Int×Z8×Z9)=>i_allAlive_1_m N e.1 e.2.1 e.2.2 e2.1 e2.2.1 e2.2.2)
def jIw :Sh:=⟨.mtk 800000 Y4 95 false::pI::pI:: .clo 155 []::dz 4 (pI::dz 44 []),[]⟩
def jJn :Sh:=⟨.mtk 800000 Y4 95 false::pI::pI:: .clo 155 []::dz 4 (pI::pI::dz 43 []),[]⟩
def jJk (a:List Z0) (d:Int) (c:Int) (b:Unit):Z14:=insG (cmp669 N) N a d c b
 
theorem jIC :mK 272 (bX [.mtk 800000 Y4 95 false,pI,pI,.clo 155 []] [.tup [],.mtk 800000 Y4 95 false] (c4A (jJk N))):=
 mO (fC (jHC N) ja) func272 rfl N (.seq .no (.block (.loop jIw (.seq .no (.seq (.block (.seq .no (.block (.loop jJn .no)))) .no))))) _ (rs:=[800000])
def jI7 :Sh:=⟨.mtk 800000 Y4 95 false:: .dead::pI::pI:: .clo 155 []::dz 5 (pI::dz 71 []),[]⟩
def jJE :Sh:=⟨.mtk 800000 Y4 95 false:: .dead::pI::pI:: .clo 155 []::dz 5 (pI::pI::dz 70 []),[]⟩
def jJr (d:List Z0) (a:Int) (c:Int) (e:Int) (b:Unit):Z14:=siftG (cmp669 N) N d a c e b
 
theorem jIA :mK 319 (bX [.mtk 800000 Y4 95 false,pI,pI,pI,.clo 155 []] [.tup [],.mtk 800000 Y4 95 false] (c5A (jJr N))):=
 mO (fC (jHC N) ja) func319 rfl N (.seq .no (.block (.loop jI7 (.block (.seq .no (.seq .no (.meet jJE .no .no))))))) _ (rs:=[800000])
def jH9 :Sh:=⟨.mtk 800000 Y4 95 false:: .dead:: .dead:: .clo 155 []::dz 4 (pI::pI::pI::pI::dz 48 []),[]⟩
def jIK :Sh:=⟨.mtk 800000 Y4 95 false:: .dead:: .dead:: .clo 155 []::dz 4 (pI::pI:: .dead:: .dead::pI::dz 47 []),[]⟩
def jIj (a:List Z0) (d:Int) (c:Int) (b:Unit):Z14:=heapG (cmp669 N) N a d c b
 
theorem jJa :mK 273 (bX [.mtk 800000 Y4 95 false,pI,pI,.clo 155 []] [.tup [],.mtk 800000 Y4 95 false] (c4A (jIj N))):=
 mO (fC (jIA N) ja) func273 rfl N (.seq .no (.seq .no (.seq .no (.seq (.seq .no (.block (.loop jH9 .no))) (.seq .no (.block (.loop jIK .no))))))) _ (rs:=[800000])
def jH6 :Sh:=⟨.mtk 800000 Y4 95 false::pI::dz 6 (pI:: .box 9 0:: .pv (.int .u64)::pI::dz 55 []),[(9,false,[.pv (.int .u64)])]⟩
def jJm :Sh:=⟨.mtk 800000 Y4 95 false::pI::dz 6 (pI:: .box 9 0:: .pv (.int .u64)::pI::pI::dz 54 []),[(9,false,[.pv (.int .u64)])]⟩
def jI4 (a:List Z0) (d:Int) (c:Int) (b:Unit):Z14:=breakG N a d c b
 
theorem jIs :mK 274 (bX [.mtk 800000 Y4 95 false,pI,pI,.clo 155 []] [.tup [],.mtk 800000 Y4 95 false] (c4A (jI4 N))):=
 mO (fC (jhv N) (fC (jet N) ja)) func274 rfl N (.seq .no (.seq .no (.cond (.seq .no (.seq .no (.seq .no (.block (.loop jH6 (.seq .no (.seq (.block (.seq .no (.meet jJm .no .no))) .no))))))) .no))) _ (rs:=[800000])
def jJC (a:List Z0) (e:Int) (c:Int) (b:Unit) (d:Int):Option (Int×Int×(List Z0)×Int):=order2G (cmp669 N) N a e c b d
 
theorem jIo :mK 340 ⟨⟨[.mtk 800000 Y4 95 false,pI,pI,.box 900003 0,.clo 155 []],[(900003,false,[pI])]⟩,⟨[.tup [pI,pI],.mtk 800000 Y4 95 false],[(900003,false,[pI])]⟩,c5A (jJC N)⟩:=
 mO (fC (jHC N) ja) func340 rfl N .no _ (rs:=[900003,800000])
def jII (b:List Z0) (f:Int) (d:Int) (a:Int) (c:Unit) (e:Int):Option (Int×(List Z0)×Int):=medianG (cmp669 N) N b f d a c e
 
theorem jHQ :mK 321 ⟨⟨[.mtk 800000 Y4 95 false,pI,pI,pI,.box 900004 0,.clo 155 []],[(900004,false,[pI])]⟩,⟨[pI,.mtk 800000 Y4 95 false],[(900004,false,[pI])]⟩,c6A (jII N)⟩:=
 mO (fC (jIo N) ja) func321 rfl N .no _ (rs:=[900004,800000])
def jIn (a:List Z0) (d:Int) (b:Unit) (c:Int):Option (Int×(List Z0)×Int):=medianAdjacentG (cmp669 N) N a d b c
 
theorem jI9 :mK 320 ⟨⟨[.mtk 800000 Y4 95 false,pI,.box 900002 0,.clo 155 []],[(900002,false,[pI])]⟩,⟨[pI,.mtk 800000 Y4 95 false],[(900002,false,[pI])]⟩,c4A (jIn N)⟩:=
 mO (fC (jHQ N) ja) func320 rfl N .no _ (rs:=[900002,800000])
def jJw :Sh:=⟨.mtk 800000 Y4 95 false:: .dead:: .dead:: .clo 155 []::dz 7 (.box 11 0::pI::pI::pI::dz 48 []),[(11,false,[pI])]⟩
def jI6 :Sh:=⟨.mtk 800000 Y4 95 false::dz 10 (.box 11 0:: .dead::pI::dz 49 []),[(11,false,[pI])]⟩
def jIq (a:List Z0) (d:Int) (c:Int) (b:Unit):Option (Int×Int×(List Z0)):=choosePivotG (cmp669 N) N a d c b
 
theorem jJz :mK 275 (bX [.mtk 800000 Y4 95 false,pI,pI,.clo 155 []] [.tup [pI,pI],.mtk 800000 Y4 95 false] (c4A (jIq N))):=
 mO (fC (jI9 N) (fC (jHQ N) ja)) func275 rfl N (.seq .no (.seq .no (.seq .no (.seq .no (.seq .no (.seq .no (.meet jI6 (.seq .no (.cond (.meet jJw .no .no) .no)) .no))))))) _ (rs:=[800000])
def jJB :Sh:=⟨.mtk 800000 Y4 95 false::dz 7 (pI::pI::dz 24 []),[]⟩
def jJs (a:List Z0) (d:Int) (c:Int) (b:Unit):Z14:=reverseRangeG N a d c b
 
theorem jIk :mK 276 (bX [.mtk 800000 Y4 95 false,pI,pI,.clo 155 []] [.tup [],.mtk 800000 Y4 95 false] (c4A (jJs N))):=
 mO ja func276 rfl N (.seq .no (.seq .no (.block (.loop jJB .no)))) _ (rs:=[800000])
def jHL :Sh:=⟨.mtk 800000 Y4 95 false::pI::pI:: .clo 155 []::dz 5 (pI::pI::dz 130 []),[]⟩
def jJh :Sh:=⟨.mtk 800000 Y4 95 false::pI::pI:: .clo 155 []::dz 5 (pI::pI::pI::dz 129 []),[]⟩
def jIF :Sh:=⟨.mtk 800000 Y4 95 false::pI::pI:: .clo 155 []::dz 5 (pI::pI:: .dead::pI::dz 128 []),[]⟩
def jIx (a:List Z0) (d:Int) (c:Int) (b:Unit):Option (Bool×(List Z0)):=pisG (cmp669 N) N a d c b
 
theorem jI1 :mK 277 (bX [.mtk 800000 Y4 95 false,pI,pI,.clo 155 []] [pB,.mtk 800000 Y4 95 false] (c4A (jIx N))):=
 mO (fC (jHC N) ja) func277 rfl N (.seq .no (.seq .no (.seq (.seq .no (.block (.loop jHL (.seq .no (.seq (.block (.seq (.block (.loop jHL .no)) (.seq .no (.seq .no (.seq .no (.meet jHL (.seq .no (.cond (.seq .no (.block (.loop jJh .no))) .no)) (.seq .no (.cond (.seq .no (.block (.loop jIF .no))) .no)))))))) .no))))) .no))) _ (rs:=[800000])
def jHK :Sh:=⟨.mtk 800000 Y4 95 false::pI:: .dead:: .dead:: .clo 155 []::dz 6 (pI::pI::dz 77 []),[]⟩
def jIh (b:List Z0) (e:Int) (d:Int) (a:Int) (c:Unit):Option (Int×(List Z0)):=peqG (cmp669 N) N b e d a c
 
theorem jH7 :mK 278 (bX [.mtk 800000 Y4 95 false,pI,pI,pI,.clo 155 []] [pI,.mtk 800000 Y4 95 false] (c5A (jIh N))):=
 mO (fC (jHC N) ja) func278 rfl N (.seq .no (.seq .no (.seq .no (.seq (.block (.loop jHK (.block (.seq (.block (.loop jHK .no)) (.seq (.block (.loop jHK .no)) .no))))) .no)))) _ (rs:=[800000])
def jHD :Sh:=⟨.mtk 800000 Y4 95 false::pI:: .dead:: .dead:: .clo 155 []::dz 7 (pI::pI::dz 164 []),[]⟩
def jIZ (b:List Z0) (e:Int) (d:Int) (a:Int) (c:Unit):Option (Int×Bool×(List Z0)):=partG (cmp669 N) N b e d a c
 
theorem jJc :mK 279 (bX [.mtk 800000 Y4 95 false,pI,pI,pI,.clo 155 []] [.tup [pI,pB],.mtk 800000 Y4 95 false] (c5A (jIZ N))):=
 mO (fC (jHC N) ja) func279 rfl N (.seq .no (.seq .no (.seq .no (.seq (.block (.loop jHD .no)) (.seq (.block (.loop jHD .no)) (.seq .no (.seq .no (.seq .no (.seq .no (.seq (.block (.loop jHD (.block (.seq (.block (.loop jHD .no)) (.seq (.block (.loop jHD .no)) .no))))) .no)))))))))) _ (rs:=[800000])
def jIv :Sh:=⟨.mtk 800000 Y4 95 false::pI::pI::pI:: .clo 155 []::dz 5 (pB::pB::dz 136 []),[]⟩
def jIt :Sh:=⟨.mtk 800000 Y4 95 false::pI::pI::pI:: .clo 155 []::dz 5 (pB::pB::pI::pI::dz 134 []),[]⟩
def jIU :Sh:=⟨.mtk 800000 Y4 95 false::pI::pI::pI:: .clo 155 []::dz 5 (pB::pB::pI::pI::pI::dz 133 []),[]⟩
def jID :Sh:=⟨.mtk 800000 Y4 95 false::pI::pI::pI:: .clo 155 []::dz 5 (pB::pB::pI::dz 135 []),[]⟩
def jHN (N D:Nat) (e:List Z0) (b a limit:Int) (h:Unit):Z14:=pdqG (cmp669 N) (fun c b a d=>heapG (cmp669 N) N c b a d) (fun c b a f d=>peqG (cmp669 N) N c b a f d) N D e b a limit h
 
def jHF (N D:Nat):Model:=⟨⟨[.mtk 800000 Y4 95 false,pI,pI,pI,.clo 155 []],[]⟩,⟨[.tup [],.mtk 800000 Y4 95 false],[]⟩,c5A (jHN N D)⟩
theorem jJo (N D:Nat) (ih:mK 221 (jHF N D)):mK 221 (jHF N (D+1)):=
 mO (fC ih (fC (jIC N) (fC (jJa N) (fC (jIs N) (fC (jJz N) (fC (jIk N) (fC (jI1 N) (fC (jHC N) (fC (jH7 N) (fC (jJc N) ja)))))))))) func221 rfl N (.seq .no (.seq .no (.block (.loop jIv (.block (.seq .no (.seq .no (.seq .no (.meet jID .no (.seq .no (.meet jIU .no (.meet jIt .no .no)))))))))))) (jHF N (D+1)) (rs:=[800000])
theorem jHV (N:Nat):∀D,mK 221 (jHF N D)
 |0=>modelOk_none ⟨_,func221,by decide,by kernel_rfl⟩ _ (fun a=>rfl)
 |D+1=>jJo N D (jHV N D)
def k_slices_SortFunc_669_m (a:List Z0) (d:Unit):Z14:=
 (oB (k_math_bits_Len_m N (IntKind.u64.wrap (a.length:Int))) fun c=>oB (jHN N N a 0 (a.length:Int) c ()) fun b=>some b)
theorem jIu :mK 154 (bX [.mtk 800000 Y4 95 false,.clo 155 []] [.tup [],.mtk 800000 Y4 95 false] (c2A (k_slices_SortFunc_669_m N))):=
 mO (fC (jda N) (fC (jHV N N) ja)) func154 rfl N .no _ (rs:=[800000])
def jH5 :Sh:=⟨dz 3 (.mtk 600003 Y4 95 false::dz 3 (.pv Y0::pI::pI::dz 11 [])),[]⟩
def i_allAlive_m (h:List Z2):Z14:=
 (iter (fun k (c,f,d,a)=>bif decide (a<d)then oB (idx f a) fun b=>(oB (i_Live_alive_m N b.1.1 b.1.2 b.2) fun e=>if room c.length e.length 56 then if fits (a+1)then k ((c++e),f,d,(a+1))else none else none)else oB (k_slices_SortFunc_669_m N c ()) fun i=>some i) N (([]:List Z0),h,(h.length:Int),(0:Int)))
theorem jHR :mK 74 (bX [.pv Y0] [.own 1 Y4 95 false] (c1A (i_allAlive_m N))):=
 mO (fC (jH4 N) (fC (jIu N) ja)) func74 rfl N (.seq .no (.seq .no (.seq (.seq .no (.block (.loop jH5 .no))) .no))) _ (wr:=[6,16])
def jIf :Sh:=⟨.dead:: .box 1 0::dz 14 (.pv Y0::pI::pI::dz 13 []),[(1,false,[.pv (.sl .str),.pv Y14,.pv Y0])]⟩
noncomputable def i_IndexOk_m (d:List Z1) (e:List Z4) (b:List Z2):Z10:=
 (oB (jaj N d e) fun n=>bif !n then some false else bif decide ((5:Int)<b.length)then some false else iter (fun q (f,h,a,i,k,j)=>bif decide (a<h)then oB (idx f a) fun c=>(oB (i_liveOk_m N i k c.1.1 c.1.2 c.2) fun m=>bif !m then some false else if fits (a+1)then q (f,h,(a+1),i,k,j)else none)else oB (i_allAlive_m N j) fun l=>oB (jbf N l) fun p=>some p) N (b,(b.length:Int),(0:Int),d,e,b))
theorem jIr :mK 24 (bX [.agg [.pv (.sl .str),.pv Y14,.pv Y0]] [pB] (c3A (i_IndexOk_m N))):=
 mO (fC (jdX N) (fC (jJD N) (fC (jHR N) (fC (jjU N) ja)))) func24 rfl N (.seq .no (.seq .no (.seq (.seq .no (.block (.loop jIf .no))) .no))) _
def k_strconv_Itoa_m (N:Nat) (a:Int):Option (Z1):=itoaM a
 
def jOU (N:Nat):Model:=⟨⟨[pI],[]⟩,⟨[pS],[]⟩,c1A (k_strconv_Itoa_m N)⟩
theorem jO0 :mK 86 (jOU N):=jPp
def jXY :Sh:=⟨.dead:: .box 1 0:: .dead::pS::dz 13 (.pv Y17::pI::pI::dz 34 []),[(1,false,[pI,.pv Y17,.pv Y13])]⟩
def jX3 :Sh:=⟨dz 3 (pS::dz 31 (.pv Y13::pI::pI::dz 16 [])),[]⟩
def i_DocPut_m (k:Int) (c:Z5) (r:Z6):Option (Z1):=
 (oB (i_DocOk_m N k c r) fun w=>bif !w then some ([]:List UInt8)else oB (k_strconv_Itoa_m N k) fun l=>if([100,111,99,32]:List UInt8).length+l.length<=9223372036854775807 then if(([100,111,99,32]:List UInt8)++l).length+([10]:List UInt8).length<=9223372036854775807 then iter (fun v (j,q,p,d,t,x,h)=>bif decide (d<p)then oB (idx q d) fun a=>(if([102,105,101,108,100,32]:List UInt8).length+a.1.length<=9223372036854775807 then if(([102,105,101,108,100,32]:List UInt8)++a.1).length+([32]:List UInt8).length<=9223372036854775807 then if((([102,105,101,108,100,32]:List UInt8)++a.1)++([32]:List UInt8)).length+a.2.length<=9223372036854775807 then if(((([102,105,101,108,100,32]:List UInt8)++a.1)++([32]:List UInt8))++a.2).length+([10]:List UInt8).length<=9223372036854775807 then if j.length+((((([102,105,101,108,100,32]:List UInt8)++a.1)++([32]:List UInt8))++a.2)++([10]:List UInt8)).length<=9223372036854775807 then if fits (d+1)then v ((j++((((([102,105,101,108,100,32]:List UInt8)++a.1)++([32]:List UInt8))++a.2)++([10]:List UInt8))),q,p,(d+1),t,x,h)else none else none else none else none else none else none)else iter (fun u (m,o,n,f)=>bif decide (f<n)then oB (idx o f) fun b=>(if([110,117,109,32]:List UInt8).length+b.1.length<=9223372036854775807 then if(([110,117,109,32]:List UInt8)++b.1).length+([32]:List UInt8).length<=9223372036854775807 then oB (k_strconv_Itoa_m N b.2) fun e=>(if((([110,117,109,32]:List UInt8)++b.1)++([32]:List UInt8)).length+e.length<=9223372036854775807 then if(((([110,117,109,32]:List UInt8)++b.1)++([32]:List UInt8))++e).length+([10]:List UInt8).length<=9223372036854775807 then if m.length+((((([110,117,109,32]:List UInt8)++b.1)++([32]:List UInt8))++e)++([10]:List UInt8)).length<=9223372036854775807 then if fits (f+1)then u ((m++((((([110,117,109,32]:List UInt8)++b.1)++([32]:List UInt8))++e)++([10]:List UInt8))),o,n,(f+1))else none else none else none else none)else none else none)else some m) N (j,h,(h.length:Int),(0:Int))) N (((([100,111,99,32]:List UInt8)++l)++([10]:List UInt8)),c,(c.length:Int),(0:Int),k,c,r)else none else none)
theorem jYs :mK 127 (bX [.agg [pI,.pv Y17,.pv Y13]] [pS] (c3A (i_DocPut_m N))):=
 mO (fC (jh0 N) (fC (jO0 N) ja)) func127 rfl N (.seq .no (.seq .no (.seq .no (.seq (.seq .no (.block (.loop jXY .no))) (.seq (.seq .no (.block (.loop jX3 .no))) .no))))) _
def jYE :Sh:=⟨dz 3 (.box 3 0:: .dead::pS::dz 12 (.pv Y3::pI::pI::dz 23 [])),[(3,false,[.pv Y3,.pv Y5,.pv Y19])]⟩
def jX8 :Sh:=⟨dz 5 (pS::dz 24 (.pv Y19::pI::pI::dz 11 [])),[]⟩
noncomputable def i_LivePut_m (y:List Z1) (z:List Z4) (b:List Z0) (k:List Z3) (p:List Int):Option (Z1):=
 (oB (i_IndexOk_m N y z ([((b,k),p)]:List Z2)) fun w=>bif !w then some ([]:List UInt8)else iter (fun u (h,n,l,a,x,t,e)=>bif decide (a<l)then oB (idx n a) fun i=>(oB (i_DocPut_m N i.1 i.2.1 i.2.2) fun o=>if h.length+o.length<=9223372036854775807 then if fits (a+1)then u ((h++o),n,l,(a+1),x,t,e)else none else none)else iter (fun r (j,q,m,d)=>bif decide (d<m)then oB (idx q d) fun v=>(oB (k_strconv_Itoa_m N v) fun c=>if([100,101,97,100,32]:List UInt8).length+c.length<=9223372036854775807 then if(([100,101,97,100,32]:List UInt8)++c).length+([10]:List UInt8).length<=9223372036854775807 then if j.length+((([100,101,97,100,32]:List UInt8)++c)++([10]:List UInt8)).length<=9223372036854775807 then if fits (d+1)then r ((j++((([100,101,97,100,32]:List UInt8)++c)++([10]:List UInt8))),q,m,(d+1))else none else none else none else none)else some j) N (h,e,(e.length:Int),(0:Int))) N (([]:List UInt8),b,(b.length:Int),(0:Int),b,k,p))
theorem jXI :mK 52 (bX [.agg [.pv (.sl .str),.pv Y14],.agg [.pv Y3,.pv Y5,.pv Y19]] [pS] (c5A (i_LivePut_m N))):=
 mO (fC (jIr N) (fC (jYs N) (fC (jO0 N) ja))) func52 rfl N (.seq .no (.seq .no (.seq .no (.seq (.seq .no (.block (.loop jYE .no))) (.seq (.seq .no (.block (.loop jX8 .no))) .no))))) _
def jX4 :Sh:=⟨.dead::pS:: .box 2 0:: .dead:: .box 4 0:: .dead:: .own 600006 Y4 95 true:: .own 600007 tI 3 true:: .pv (.sl .str)::pI::dz 92 [],[(2,false,[.pv (.sl .str),.pv Y14]),(4,false,[.nils,.nils,.nils])]⟩
def jYB :Sh:=⟨.dead::pS:: .box 2 0:: .dead:: .box 4 0:: .dead:: .own 600006 Y4 95 true:: .own 600007 tI 3 true:: .pv (.sl .str)::pI::dz 4 (pI::dz 87 []),[(2,false,[.pv (.sl .str),.pv Y14]),(4,false,[.nils,.nils,.nils])]⟩
noncomputable def jY4 (x:List Z1) (z:List Z4) (u:List UInt8):Option ((List Z0)×(List Z3)×(List Int)×Bool):=
 (oB (jaj N x z) fun U=>bif !U then some (([]:List Z0),([]:List Z3),([]:List Int),false)else oB (k_strings_Split_m N u ([10]:List UInt8)) fun K=>iter (fun f (p,r,l,n,i,m,o)=>bif decide (i<(n.length:Int))then oB (idx n i) fun S=>(oB (k_strings_CutPrefix_m N S ([100,101,97,100,32]:List UInt8)) fun w=>bif w.2 then oB (jXn N w.1) fun y=>(if room l.length ([y]:List Int).length 8 then if fits (i+1)then f (p,r,(l++([y]:List Int)),n,(i+1),m,o)else none else none)else if fits (i+1)then iter (fun P (k,c,j,a,d,b,h,e)=>bif decide (b<(a.length:Int))then oB (idx a b) fun I=>(oB (k_strings_HasPrefix_m N I ([100,111,99,32]:List UInt8)) fun G=>bif !G then oB (idx a b) fun Q=>(oB (k_strings_HasPrefix_m N Q ([100,101,97,100,32]:List UInt8)) fun O=>bif !O then if fits (b+1)then P (k,c,j,a,d,(b+1),h,e)else none else oB (idx a d) fun L=>bif !decide (L=([]:List UInt8))then oB (cut a d b) fun T=>(oB (jXo N T) fun B=>if room c.length ([B]:List Z0).length 56 then f (k,(c++([B]:List Z0)),j,a,b,h,e)else none)else f (k,c,j,a,b,h,e))else oB (idx a d) fun D=>bif !decide (D=([]:List UInt8))then oB (cut a d b) fun H=>(oB (jXo N H) fun A=>if room c.length ([A]:List Z0).length 56 then f (k,(c++([A]:List Z0)),j,a,b,h,e)else none)else f (k,c,j,a,b,h,e))else oB (idx a d) fun R=>bif !decide (R=([]:List UInt8))then oB (cut a d b) fun E=>(oB (jXo N E) fun v=>if room c.length ([v]:List Z0).length 56 then f (k,(c++([v]:List Z0)),j,a,b,h,e)else none)else f (k,c,j,a,b,h,e)) N (p,r,l,n,i,(i+1),m,o)else none)else oB (jbT N m o r) fun q=>bif decide (p=([]:List UInt8))then some (([]:List Z0),([]:List Z3),([]:List Int),false)else oB (i_LivePut_m N m o q.1 q.2 l) fun C=>bif !decide (C=p)then some (([]:List Z0),([]:List Z3),([]:List Int),false)else some (q.1,q.2,l,true)) N (u,([]:List Z0),([]:List Int),K,(0:Int),x,z))
theorem jYm :mK 12 (bX [.agg [.pv (.sl .str),.pv Y14],pS] [.tup [.agg [.own 1 Y4 95 true,.own 2 Y6 167 true,.own 3 tI 3 true],pB]] (c3A (jY4 N))):=
 mO (fC (jdX N) (fC (jYi N) (fC (jYg N) (fC (jXC N) (fC (jXS N) (fC (jYG N) (fC (jqC N) (fC (jXI N) ja)))))))) func12 rfl N (.seq .no (.seq .no (.seq .no (.seq .no (.seq .no (.seq (.seq .no (.block (.loop jX4 (.seq .no (.block (.seq .no (.seq .no (.seq (.block (.loop jYB .no)) .no)))))))) .no)))))) _
def s_l30Open_m (N:Nat) (a:List Int):Option ((List Int)×Int):=
 (bif decide ((2000:Int)<a.length)then oB (cut a 0 2000) fun b=>(some (b,0))else some (a,0))
theorem juQ :mK 64 ⟨⟨[.pv (.sl (.int .u8))],[]⟩,⟨[.box 10 0],[(10,false,[.pv (.sl (.int .u8)),pI])]⟩,c1A (s_l30Open_m N)⟩:=
 mO ja func64 rfl N .no _
def s_l30Rd_pick_m (N:Nat) (e:Int) (b:List Int) (a:Int):Option (Int×(List Int)×Int):=
 (if fits (a+1)then bif decide (e<1)then some (0,b,(a+1))else(bif decide ((b.length:Int)=0)then some (0,b,(a+1))else if fits ((a+1)-1)then bif decide (((a+1)-1)<(b.length:Int))then oB (idx b ((a+1)-1)) fun f=>(if e≠0 then some (((IntKind.i64.wrap f).tmod e),b,(a+1))else none)else(if(b.length:Int)≠0 then oB (idx b (((a+1)-1).tmod (b.length:Int))) fun d=>(if fits ((IntKind.i64.wrap d)*131)then if fits (((a+1)-1)*7)then if fits ((((a+1)-1)*7)+3)then if(b.length:Int)≠0 then oB (idx b (((((a+1)-1)*7)+3).tmod (b.length:Int))) fun c=>(if fits ((IntKind.i64.wrap c)*1117)then if fits (((IntKind.i64.wrap d)*131)+((IntKind.i64.wrap c)*1117))then if fits (((a+1)-1)*29)then if fits ((((IntKind.i64.wrap d)*131)+((IntKind.i64.wrap c)*1117))+(((a+1)-1)*29))then if(b.length:Int)≠0 then if fits (((a+1)-1).tdiv (b.length:Int))then if fits ((((a+1)-1).tdiv (b.length:Int))*53)then if fits (((((IntKind.i64.wrap d)*131)+((IntKind.i64.wrap c)*1117))+(((a+1)-1)*29))+((((a+1)-1).tdiv (b.length:Int))*53))then if 64≠0 then if fits ((((((IntKind.i64.wrap d)*131)+((IntKind.i64.wrap c)*1117))+(((a+1)-1)*29))+((((a+1)-1).tdiv (b.length:Int))*53)).tdiv 64)then if e≠0 then some (((bitsI .xor .i64 (((((IntKind.i64.wrap d)*131)+((IntKind.i64.wrap c)*1117))+(((a+1)-1)*29))+((((a+1)-1).tdiv (b.length:Int))*53)) ((((((IntKind.i64.wrap d)*131)+((IntKind.i64.wrap c)*1117))+(((a+1)-1)*29))+((((a+1)-1).tdiv (b.length:Int))*53)).tdiv 64)).tmod e),b,(a+1))else none else none else none else none else none else none else none else none else none else none else none)else none else none else none else none)else none)else none)else none)
theorem jtX :mK 137 ⟨⟨[.box 900000 0,pI],[(900000,false,[.pv (.sl (.int .u8)),pI])]⟩,⟨[pI],[(900000,false,[.pv (.sl (.int .u8)),pI])]⟩,c3A (s_l30Rd_pick_m N)⟩:=
 mO ja func137 rfl N .no _ (rs:=[900000])
def juL :Sh:=⟨.box 900000 0:: .dead:: .box 2 0:: .box 3 0::dz 30 [],[(2,false,[.nils,.nils]),(3,false,[.own 13 .str 9 true,.nils]),(900000,false,[.pv (.sl (.int .u8)),pI])]⟩
def juw :Sh:=⟨.box 900000 0:: .dead:: .box 2 0:: .box 3 0::dz 30 [],[(2,false,[.nils,.nils]),(3,false,[.own 8 .str 9 true,.nils]),(900000,false,[.pv (.sl (.int .u8)),pI])]⟩
def s_l30Conf_m (k:List Int) (n:Int):Option ((List Z1)×(List Z4)×(List Int)×Int):=
 (meet (fun(d:(List Z1)×(List Int)×Int)=>match d with|(m,o,i)=>meet (fun(d:(List Z1)×(List Int)×Int)=>match d with|(e,j,l)=>oB (s_l30Rd_pick_m N 4 j l) fun a=>bif decide (a.1=0)then some (e,([(([([110,101,119]:List UInt8),([121,111,114,107]:List UInt8)]:List Z1),([110,121]:List UInt8))]:List Z4),a.2.1,a.2.2)else bif decide (a.1=1)then some (e,([(([([98,105,103]:List UInt8)]:List Z1),([108,97,114,103]:List UInt8)),(([([98,105,103]:List UInt8),([114,101,100]:List UInt8),([102,111,120]:List UInt8)]:List Z1),([102,111,120]:List UInt8)),(([([110,101,119]:List UInt8),([121,111,114,107]:List UInt8)]:List Z1),([110,121]:List UInt8))]:List Z4),a.2.1,a.2.2)else some (e,([]:List Z4),a.2.1,a.2.2)) fun f=>oB (s_l30Rd_pick_m N 4 o i) fun b=>bif decide (b.1=0)then f (([([100,111,103]:List UInt8),([116,104,101]:List UInt8)]:List Z1),b.2.1,b.2.2)else f (m,b.2.1,b.2.2)) fun h=>oB (s_l30Rd_pick_m N 3 k n) fun c=>bif decide ((0:Int)<c.1)then h (([([116,104,101]:List UInt8)]:List Z1),c.2.1,c.2.2)else h (([]:List Z1),c.2.1,c.2.2))
theorem jva :mK 261 ⟨⟨[.box 900000 0],[(900000,false,[.pv (.sl (.int .u8)),pI])]⟩,⟨[.agg [.own 1 .str 9 true,.own 2 Y16 142 true]],[(900000,false,[.pv (.sl (.int .u8)),pI])]⟩,c2A (s_l30Conf_m N)⟩:=
 mO (fC (jtX N) ja) func261 rfl N (.seq .no (.seq .no (.meet juw .no (.meet juL .no .no)))) _ (rs:=[900000])
def jMA :Sh:=⟨.dead:: .box 1 0:: .box 2 0:: .box 3 0::pI::dz 33 [],[(1,false,[.pv (.sl .str),.pv Y14]),(2,false,[.nils,.nils]),(3,false,[.own 700300 .str 9 true,.own 700301 Y16 142 true])]⟩
def s_l18CopyConf_m (d:List Z1) (k:List Z4):Option ((List Z1)×(List Z4)):=
 (if room ([]:List Z1).length d.length 16 then iter (fun l (a,i,b,h,e)=>bif decide (a<(b.length:Int))then oB (idx b a) fun c=>(if room ([]:List Z1).length c.1.length 16 then oB (idx b a) fun f=>(if room e.length ([((([]:List Z1)++c.1),f.2)]:List Z4).length 40 then if fits (a+1)then l ((a+1),i,b,h,(e++([((([]:List Z1)++c.1),f.2)]:List Z4)))else none else none)else none)else some (h,e)) N ((0:Int),d,k,(([]:List Z1)++d),([]:List Z4))else none)
theorem jMp :mK 144 (bX [.agg [.pv (.sl .str),.pv Y14]] [.agg [.own 1 .str 9 true,.own 2 Y16 142 true]] (c2A (s_l18CopyConf_m N))):=
 mO ja func144 rfl N (.seq .no (.seq .no (.seq (.seq .no (.block (.loop jMA .no))) .no))) _
def s_IndexNew_m (a:List Z1) (b:List Z4):Option ((List Z1)×(List Z4)):=
 (oB (jcw N a b) fun d=>bif !d then some (([]:List Z1),([]:List Z4))else oB (s_l18CopyConf_m N a b) fun c=>some (c.1,c.2))
theorem jOh :mK 260 (bX [.agg [.pv (.sl .str),.pv Y14]] [.agg [.own 1 .str 9 true,.own 2 Y16 142 true,.nils]] (c2A (s_IndexNew_m N))):=
 mO (fC (jtf N) (fC (jMp N) ja)) func260 rfl N .no _
def jMc :Sh:=⟨.pv Y11:: .dead:: .dead:: .own 600003 Y12 241 true::pI::dz 24 [],[]⟩
def s_l7CopyPosts_m (f:Z7):Option (Z13):=
 (iter (fun i (b,d,a)=>bif decide (a<(b.length:Int))then oB (idx b a) fun e=>(oB (idx b a) fun c=>if room ([]:List Int).length c.2.length 8 then if room d.length ([(e.1,(([]:List Int)++c.2))]:Z7).length 32 then if fits (a+1)then i (b,(d++([(e.1,(([]:List Int)++c.2))]:Z7)),(a+1))else none else none else none)else some d) N (f,([]:Z7),(0:Int)))
theorem jLV :mK 338 (bX [.pv Y11] [.own 1 Y12 241 true] (c1A (s_l7CopyPosts_m N))):=
 mO ja func338 rfl N (.seq .no (.seq .no (.seq (.seq .no (.block (.loop jMc .no))) .no))) _
def jLx :Sh:=⟨.dead:: .box 1 0:: .box 2 0:: .box 3 0::pI::dz 47 [],[(1,false,[.pv Y3,.pv Y5]),(2,false,[.nils,.nils]),(3,false,[.own 700300 Y4 95 true,.nils])]⟩
def jKX :Sh:=⟨.dead:: .box 1 0:: .box 2 0:: .box 3 0:: .dead::pI::dz 46 [],[(1,false,[.pv Y3,.pv Y5]),(2,false,[.nils,.nils]),(3,false,[.own 700300 Y4 95 true,.own 700301 Y6 167 true])]⟩
def s_l18CopySeg_m (r:List Z0) (o:List Z3):Option ((List Z0)×(List Z3)):=
 (iter (fun t (b,c,m,f)=>bif decide (b<(c.length:Int))then oB (idx c b) fun h=>(oB (s_l7CopyDoc_m N h.1 h.2.1 h.2.2) fun l=>if room f.length ([l]:List Z0).length 56 then if fits (b+1)then t ((b+1),c,m,(f++([l]:List Z0)))else none else none)else iter (fun p (d,q,j,n,i)=>bif decide (d<(j.length:Int))then oB (idx j d) fun a=>(oB (s_l7CopyPosts_m N a.2.2) fun k=>if room i.length ([(a.1,a.2.1,k)]:List Z3).length 56 then if fits (d+1)then p ((d+1),q,j,n,(i++([(a.1,a.2.1,k)]:List Z3)))else none else none)else some (n,i)) N ((0:Int),c,m,f,([]:List Z3))) N ((0:Int),r,o,([]:List Z0)))
theorem jK3 :mK 315 (bX [.agg [.pv Y3,.pv Y5]] [.agg [.own 1 Y4 95 true,.own 2 Y6 167 true]] (c2A (s_l18CopySeg_m N))):=
 mO (fC (jtC N) (fC (jLV N) ja)) func315 rfl N (.seq .no (.seq .no (.seq (.seq .no (.block (.loop jLx .no))) (.seq (.seq .no (.block (.loop jKX .no))) .no)))) _
def jMK :Sh:=⟨.dead:: .box 1 0:: .box 2 0:: .box 3 0::pI::dz 33 [],[(1,false,[.pv (.sl .str),.pv Y14,.pv Y0]),(2,false,[.nils,.nils,.nils]),(3,false,[.own 700300 .str 9 true,.own 700301 Y16 142 true,.own 700302 Y1 33 true])]⟩
def s_l18Copy_m (f:List Z1) (h:List Z4) (m:List Z2):Option ((List Z1)×(List Z4)×(List Z2)):=
 (oB (s_l18CopyConf_m N f h) fun j=>iter (fun q (a,n,p,b,l,k,d)=>bif decide (a<(b.length:Int))then oB (idx b a) fun e=>(oB (s_l18CopySeg_m N e.1.1 e.1.2) fun i=>oB (idx b a) fun c=>if room ([]:List Int).length c.2.length 8 then if room d.length ([(i,(([]:List Int)++c.2))]:List Z2).length 72 then if fits (a+1)then q ((a+1),n,p,b,l,k,(d++([(i,(([]:List Int)++c.2))]:List Z2)))else none else none else none)else some (l,k,d)) N ((0:Int),f,h,m,j.1,j.2,([]:List Z2)))
theorem jL0 :mK 264 (bX [.agg [.pv (.sl .str),.pv Y14,.pv Y0]] [.agg [.own 1 .str 9 true,.own 2 Y16 142 true,.own 3 Y1 33 true]] (c3A (s_l18Copy_m N))):=
 mO (fC (jMp N) (fC (jK3 N) ja)) func264 rfl N (.seq .no (.seq .no (.seq (.seq .no (.block (.loop jMK .no))) .no))) _
def jLU :Sh:=⟨.pv Y19::pI::dz 3 (pI::dz 42 []),[]⟩
def s_l8Put_m (m:List Int) (p:Int):Option ((List Int)):=
 (iter (fun q (a,b,c)=>bif decide (c<(a.length:Int))then oB (idx a c) fun r=>(bif decide (r<b)then if fits (c+1)then q (a,b,(c+1))else none else bif decide (c<(a.length:Int))then oB (idx a c) fun t=>(bif decide (t=b)then some a else oB (cut a 0 c) fun f=>if room ([]:List Int).length f.length 8 then if room (([]:List Int)++f).length ([b]:List Int).length 8 then oB (cut a c (a.length:Int)) fun j=>(if room ((([]:List Int)++f)++([b]:List Int)).length j.length 8 then some (((([]:List Int)++f)++([b]:List Int))++j)else none)else none else none)else oB (cut a 0 c) fun d=>if room ([]:List Int).length d.length 8 then if room (([]:List Int)++d).length ([b]:List Int).length 8 then oB (cut a c (a.length:Int)) fun i=>(if room ((([]:List Int)++d)++([b]:List Int)).length i.length 8 then some (((([]:List Int)++d)++([b]:List Int))++i)else none)else none else none)else bif decide (c<(a.length:Int))then oB (idx a c) fun n=>(bif decide (n=b)then some a else oB (cut a 0 c) fun h=>if room ([]:List Int).length h.length 8 then if room (([]:List Int)++h).length ([b]:List Int).length 8 then oB (cut a c (a.length:Int)) fun l=>(if room ((([]:List Int)++h)++([b]:List Int)).length l.length 8 then some (((([]:List Int)++h)++([b]:List Int))++l)else none)else none else none)else oB (cut a 0 c) fun e=>if room ([]:List Int).length e.length 8 then if room (([]:List Int)++e).length ([b]:List Int).length 8 then oB (cut a c (a.length:Int)) fun k=>(if room ((([]:List Int)++e)++([b]:List Int)).length k.length 8 then some (((([]:List Int)++e)++([b]:List Int))++k)else none)else none else none) N (m,p,(0:Int)))
theorem jLS :mK 316 (bX [.pv Y19,pI] [.pv Y19] (c2A (s_l8Put_m N))):=
 mO ja func316 rfl N (.seq .no (.seq .no (.seq (.block (.loop jLU .no)) .no))) _
def jL4 :Sh:=⟨.dead::pI:: .box 2 0:: .dead:: .box 4 0:: .dead:: .box 6 0::pB::pI::dz 43 [],[(2,false,[.pv (.sl .str),.pv Y14,.pv Y0]),(4,false,[.nils,.nils,.nils]),(6,false,[.pv (.sl .str),.pv Y14,.own 700602 Y1 33 false])]⟩
def jLD :Sh:=⟨.dead::pI:: .box 2 0:: .dead:: .box 4 0:: .dead:: .box 6 0::pB::pI:: .box 9 0::dz 42 [],[(2,false,[.pv (.sl .str),.pv Y14,.pv Y0]),(4,false,[.nils,.nils,.nils]),(6,false,[.pv (.sl .str),.pv Y14,.own 700602 Y1 33 false]),(9,false,[.pv Y3,.pv Y5,.pv Y19])]⟩
def s_l18Gone_m (n:List Z1) (r:List Z4) (B:List Z2) (v:Int):Z12:=
 (iter (fun A (b,k,c,i,m,d,e,h,f)=>bif decide (c<(d.length:Int))then oB (idx d c) fun a=>(meet (fun(j:Int×Bool×Int×(List Z1)×(List Z4)×(List Z2)×(List Z1)×(List Z4)×(List Z2)×(List Z0)×(List Z3)×(List Int))=>match j with|(z,H,u,x,y,w,I,E,o,q,p,t)=>if room o.length ([((q,p),t)]:List Z2).length 72 then if fits (u+1)then A (z,H,(u+1),x,y,w,I,E,(o++([((q,p),t)]:List Z2)))else none else none) fun l=>oB (s_l12Doc_m N a.1.1 a.1.2 b) fun G=>bif !decide (G.1=0)then oB (s_l18Dead_m N a.1.1 a.1.2 a.2 b) fun D=>(bif !D then if room ([]:List Int).length a.2.length 8 then oB (s_l8Put_m N (([]:List Int)++a.2) b) fun C=>(l (b,true,c,i,m,d,e,h,f,a.1.1,a.1.2,C))else none else l (b,k,c,i,m,d,e,h,f,a.1.1,a.1.2,a.2))else l (b,k,c,i,m,d,e,h,f,a.1.1,a.1.2,a.2))else some (e,h,f,k)) N (v,false,(0:Int),n,r,B,n,r,([]:List Z2)))
theorem jLr :mK 265 (bX [.agg [.pv (.sl .str),.pv Y14,.pv Y0],pI] [.tup [.agg [.pv (.sl .str),.pv Y14,.own 1 Y1 33 false],pB]] (c4A (s_l18Gone_m N))):=
 mO (fC (jDn N) (fC (jIy N) (fC (jLS N) ja))) func265 rfl N (.seq .no (.seq .no (.seq .no (.seq (.seq .no (.block (.loop jL4 (.seq .no (.seq (.block (.seq .no (.meet jLD .no .no))) .no))))) .no)))) _
def jL1 :Sh:=⟨.dead:: .box 1 0:: .box 2 0:: .box 3 0::pI::dz 37 [],[(1,false,[.pv (.sl .str),.pv Y14,.pv Y0]),(2,false,[.nils,.nils,.nils]),(3,false,[.pv (.sl .str),.pv Y14,.own 700302 Y1 33 false])]⟩
def s_l18Full_m (f:List Z1) (h:List Z4) (o:List Z2):Option ((List Z1)×(List Z4)×(List Z2)):=
 (iter (fun l (a,i,k,b,e,d,c)=>bif decide (a<(b.length:Int))then oB (idx b a) fun m=>(oB (idx b a) fun n=>bif decide ((m.2.length:Int)<(n.1.1.length:Int))then oB (idx b a) fun j=>(if room c.length ([j]:List Z2).length 72 then if fits (a+1)then l ((a+1),i,k,b,e,d,(c++([j]:List Z2)))else none else none)else if fits (a+1)then l ((a+1),i,k,b,e,d,c)else none)else some (e,d,c)) N ((0:Int),f,h,o,f,h,([]:List Z2)))
theorem jM5 :mK 266 (bX [.agg [.pv (.sl .str),.pv Y14,.pv Y0]] [.agg [.pv (.sl .str),.pv Y14,.own 1 Y1 33 false]] (c3A (s_l18Full_m N))):=
 mO ja func266 rfl N (.seq .no (.seq .no (.seq (.seq .no (.block (.loop jL1 .no))) .no))) _
def s_IndexDrop_m (d:List Z1) (e:List Z4) (f:List Z2) (h:Int):Z12:=
 (oB (s_l18Ok_m N d e f) fun i=>bif !i then some (([]:List Z1),([]:List Z4),([]:List Z2),false)else oB (s_l18Copy_m N d e f) fun b=>oB (s_l18Gone_m N b.1 b.2.1 b.2.2 h) fun a=>oB (s_l18Full_m N a.1 a.2.1 a.2.2.1) fun c=>some (c.1,c.2.1,c.2.2,a.2.2.2))
theorem jLL :mK 262 (bX [.agg [.pv (.sl .str),.pv Y14,.pv Y0],pI] [.tup [.agg [.pv (.sl .str),.pv Y14,.own 1 Y1 33 false],pB]] (c4A (s_IndexDrop_m N))):=
 mO (fC (jIW N) (fC (jL0 N) (fC (jLr N) (fC (jM5 N) ja)))) func262 rfl N .no _
def s_IndexMerge_m (d:List Z1) (f:List Z4) (b:List Z2) (a:Int):Z12:=
 (oB (s_l18Ok_m N d f b) fun m=>bif !m then some (([]:List Z1),([]:List Z4),([]:List Z2),false)else if fits ((b.length:Int)-2)then oB (jJ N a 0 ((b.length:Int)-2)) fun l=>(bif !l then oB (s_l18Copy_m N d f b) fun i=>(some (i.1,i.2.1,i.2.2,false))else if fits (a+2)then oB (cut b a (a+2)) fun k=>(oB (s_l18Docs_m N ([]:List Z1) ([]:List Z4) k) fun n=>oB (s_l18Copy_m N d f b) fun c=>oB (cut c.2.2 0 a) fun e=>if room ([]:List Z2).length e.length 72 then oB (s_l7Of_m N d f n) fun h=>(if room (([]:List Z2)++e).length ([(h,([]:List Int))]:List Z2).length 72 then if fits (a+2)then oB (cut c.2.2 (a+2) (c.2.2.length:Int)) fun j=>(if room ((([]:List Z2)++e)++([(h,([]:List Int))]:List Z2)).length j.length 72 then some (c.1,c.2.1,(((([]:List Z2)++e)++([(h,([]:List Int))]:List Z2))++j),true)else none)else none else none)else none)else none)else none)
theorem jNO :mK 263 (bX [.agg [.pv (.sl .str),.pv Y14,.pv Y0],pI] [.tup [.agg [.own 1 .str 9 true,.own 2 Y16 142 true,.own 3 Y1 33 false],pB]] (c4A (s_IndexMerge_m N))):=
 mO (fC (jIW N) (fC (jcL N) (fC (jL0 N) (fC (jH3 N) (fC (jmU N) ja))))) func263 rfl N .no _
def s_l30Rd_of_m (b:List Z1) (d:List Int) (e:Int):Option (Z1×(List Int)×Int):=
 (oB (s_l30Rd_pick_m N (b.length:Int) d e) fun a=>oB (idx b a.1) fun c=>some (c,a.2.1,a.2.2))
theorem jt3 :mK 139 ⟨⟨[.box 900000 0,.pv (.sl .str)],[(900000,false,[.pv (.sl (.int .u8)),pI])]⟩,⟨[pS],[(900000,false,[.pv (.sl (.int .u8)),pI])]⟩,c3A (s_l30Rd_of_m N)⟩:=
 mO (fC (jtX N) ja) func139 rfl N .no _ (rs:=[900000])
def s_l30Raw_m (b:List Int) (c:Int):Option (Z1×(List Int)×Int):=
 (oB (s_l30Rd_of_m N ([([99,97,116]:List UInt8),([67,97,116,115]:List UInt8),([100,111,103]:List UInt8),([100,111,103,115]:List UInt8),([114,117,110]:List UInt8),([82,85,78,78,73,78,71]:List UInt8),([116,104,101]:List UInt8),([114,101,100]:List UInt8),([98,105,103]:List UInt8),([110,101,119,32,121,111,114,107]:List UInt8),([78,101,119,32,32,89,111,114,107]:List UInt8),([110,121]:List UInt8),([102,111,120]:List UInt8),([112,97,115,115,101,100]:List UInt8),([120,49]:List UInt8),([97,118,101,114,121,118,101,114,121,108,111,110,103,119,111,114,100]:List UInt8)]:List Z1) b c) fun a=>some (a.1,a.2.1,a.2.2))
theorem jvg :mK 339 ⟨⟨[.box 900000 0],[(900000,false,[.pv (.sl (.int .u8)),pI])]⟩,⟨[pS],[(900000,false,[.pv (.sl (.int .u8)),pI])]⟩,c2A (s_l30Raw_m N)⟩:=
 mO (fC (jt3 N) ja) func339 rfl N .no _ (rs:=[900000])
def juP :Sh:=⟨.box 900000 0:: .dead:: .dead::pS::pI::dz 15 [],[(900000,false,[.pv (.sl (.int .u8)),pI])]⟩
def s_l30Text_m (i:List Int) (k:Int):Option (Z1×(List Int)×Int):=
 (oB (s_l30Rd_pick_m N 9 i k) fun d=>iter (fun l (c,e,h,f)=>bif decide ((0:Int)<e)then oB (s_l30Raw_m N h f) fun a=>(if c.length+a.1.length<=9223372036854775807 then oB (s_l30Rd_of_m N ([([32]:List UInt8),([32]:List UInt8),([44,32]:List UInt8),([45]:List UInt8),([46,32]:List UInt8)]:List Z1) a.2.1 a.2.2) fun b=>(if(c++a.1).length+b.1.length<=9223372036854775807 then if fits (e-1)then l (((c++a.1)++b.1),(e-1),b.2.1,b.2.2)else none else none)else none)else some (c,h,f)) N (([]:List UInt8),d.1,d.2.1,d.2.2))
theorem juT :mK 317 ⟨⟨[.box 900000 0],[(900000,false,[.pv (.sl (.int .u8)),pI])]⟩,⟨[pS],[(900000,false,[.pv (.sl (.int .u8)),pI])]⟩,c2A (s_l30Text_m N)⟩:=
 mO (fC (jtX N) (fC (jvg N) (fC (jt3 N) ja))) func317 rfl N (.seq .no (.seq .no (.seq (.seq .no (.block (.loop juP .no))) .no))) _ (rs:=[900000])
def juy :Sh:=⟨.box 900000 0::dz 3 (.box 4 0:: .box 5 0::dz 48 []),[(4,false,[pI,.nils,.nils]),(5,false,[pI,.own 28 Y18 155 true,.own 39 Y15 157 true]),(900000,false,[.pv (.sl (.int .u8)),pI])]⟩
def juX :Sh:=⟨.box 900000 0::dz 3 (.box 4 0:: .box 5 0::dz 48 []),[(4,false,[pI,.nils,.nils]),(5,false,[pI,.own 28 Y18 155 true,.nils]),(900000,false,[.pv (.sl (.int .u8)),pI])]⟩
def jvb :Sh:=⟨.box 900000 0::dz 3 (.box 4 0:: .box 5 0::dz 48 []),[(4,false,[pI,.nils,.nils]),(5,false,[pI,.own 17 Y18 155 true,.nils]),(900000,false,[.pv (.sl (.int .u8)),pI])]⟩
def s_l30Doc_m (n:Int) (E:List Int) (C:Int):Option (Int×Z8×Z9×(List Int)×Int):=
 (meet (fun(b:Int×Int×Z8×(List Int)×Int)=>match b with|(x,r,k,D,y)=>meet (fun(b:Int×Int×Z8×(List Int)×Int)=>match b with|(q,v,m,z,A)=>meet (fun(b:Int×Int×Z8×Z9×(List Int)×Int)=>match b with|(H,w,o,l,B,G)=>oB (s_l30Rd_pick_m N 3 B G) fun d=>bif decide (d.1=0)then oB (s_l30Rd_pick_m N 30 d.2.1 d.2.2) fun a=>(if fits (2000+a.1)then if room l.length ([(([121,101,97,114]:List UInt8),(2000+a.1))]:Z6).length 24 then some (w,o,(l++([(([121,101,97,114]:List UInt8),(2000+a.1))]:Z6)),a.2.1,a.2.2)else none else none)else some (w,o,l,d.2.1,d.2.2)) fun p=>oB (s_l30Rd_pick_m N 3 z A) fun c=>bif decide ((0:Int)<c.1)then oB (s_l30Rd_pick_m N 4 c.2.1 c.2.2) fun h=>(if room ([]:Z6).length ([(([114,97,116,101]:List UInt8),h.1)]:Z6).length 24 then p (q,v,m,(([]:Z6)++([(([114,97,116,101]:List UInt8),h.1)]:Z6)),h.2.1,h.2.2)else none)else p (q,v,m,([]:Z6),c.2.1,c.2.2)) fun t=>oB (s_l30Rd_pick_m N 3 D y) fun e=>bif decide (e.1=0)then oB (s_l30Text_m N e.2.1 e.2.2) fun j=>(if room k.length ([(([116,105,116,108,101]:List UInt8),j.1)]:Z5).length 32 then t (x,r,(k++([(([116,105,116,108,101]:List UInt8),j.1)]:Z5)),j.2.1,j.2.2)else none)else t (x,r,k,e.2.1,e.2.2)) fun u=>oB (s_l30Rd_pick_m N 6 E C) fun f=>bif decide ((0:Int)<f.1)then oB (s_l30Text_m N f.2.1 f.2.2) fun i=>(if room ([]:Z5).length ([(([98,111,100,121]:List UInt8),i.1)]:Z5).length 32 then u (0,n,(([]:Z5)++([(([98,111,100,121]:List UInt8),i.1)]:Z5)),i.2.1,i.2.2)else none)else u (0,n,([]:Z5),f.2.1,f.2.2))
theorem jvf :mK 267 ⟨⟨[.box 900000 0,pI],[(900000,false,[.pv (.sl (.int .u8)),pI])]⟩,⟨[.agg [pI,.own 1 Y18 155 true,.own 2 Y15 157 true]],[(900000,false,[.pv (.sl (.int .u8)),pI])]⟩,c3A (s_l30Doc_m N)⟩:=
 mO (fC (jtX N) (fC (juT N) ja)) func267 rfl N (.seq .no (.seq .no (.meet jvb .no (.meet juX .no (.meet juy .no .no))))) _ (rs:=[900000])
def juU :Sh:=⟨.box 900000 0:: .dead:: .dead:: .own 600003 Y4 95 true::pI::pI::dz 19 [],[(900000,false,[.pv (.sl (.int .u8)),pI])]⟩
def s_l30Docs_m (j:List Int) (l:Int):Option ((List Z0)×(List Int)×Int):=
 (oB (s_l30Rd_pick_m N 6 j l) fun d=>iter (fun m (e,c,f,i,h)=>bif decide ((0:Int)<f)then if fits (c+1)then oB (s_l30Rd_pick_m N 3 i h) fun b=>(if fits ((c+1)+b.1)then oB (s_l30Doc_m N ((c+1)+b.1) b.2.1 b.2.2) fun a=>(if room e.length ([(a.1,a.2.1,a.2.2.1)]:List Z0).length 56 then if fits (f-1)then m ((e++([(a.1,a.2.1,a.2.2.1)]:List Z0)),((c+1)+b.1),(f-1),a.2.2.2.1,a.2.2.2.2)else none else none)else none)else none else some (e,i,h)) N (([]:List Z0),(0:Int),d.1,d.2.1,d.2.2))
theorem juO :mK 215 ⟨⟨[.box 900000 0],[(900000,false,[.pv (.sl (.int .u8)),pI])]⟩,⟨[.own 1 Y4 95 true],[(900000,false,[.pv (.sl (.int .u8)),pI])]⟩,c2A (s_l30Docs_m N)⟩:=
 mO (fC (jtX N) (fC (jvf N) ja)) func215 rfl N (.seq .no (.seq .no (.seq .no (.seq (.seq .no (.block (.loop juU .no))) .no)))) _ (rs:=[900000])
def jNS :Sh:=⟨.dead:: .pv Y3:: .box 2 0:: .dead:: .box 4 0:: .dead:: .box 6 0::pI::dz 53 [],[(2,false,[.pv (.sl .str),.pv Y14,.pv Y0]),(4,false,[.nils,.nils,.nils]),(6,false,[.pv (.sl .str),.pv Y14,.own 700602 Y1 33 false])]⟩
def s_IndexAdd_m (b:List Z1) (c:List Z4) (d:List Z2) (h:List Z0):Z12:=
 (oB (s_l18Ok_m N b c d) fun A=>bif !A then some (([]:List Z1),([]:List Z4),([]:List Z2),false)else oB (jbU N h) fun z=>bif !z then oB (s_l18Copy_m N b c d) fun m=>(some (m.1,m.2.1,m.2.2,false))else bif decide ((h.length:Int)=0)then oB (s_l18Copy_m N b c d) fun n=>(some (n.1,n.2.1,n.2.2,false))else oB (s_l18Copy_m N b c d) fun l=>iter (fun x (f,e,j,o,q,r,u,t)=>bif decide (e<(f.length:Int))then oB (idx f e) fun y=>(oB (s_l18Gone_m N r u t y.1) fun i=>if fits (e+1)then x (f,(e+1),j,o,q,i.1,i.2.1,i.2.2.1)else none)else oB (s_l18Full_m N r u t) fun a=>oB (s_l7Of_m N j o f) fun k=>if room a.2.2.length ([(k,([]:List Int))]:List Z2).length 72 then oB (s_l18Ok_m N a.1 a.2.1 (a.2.2++([(k,([]:List Int))]:List Z2))) fun w=>(bif !w then oB (s_l18Copy_m N j o q) fun p=>(some (p.1,p.2.1,p.2.2,false))else some (a.1,a.2.1,(a.2.2++([(k,([]:List Int))]:List Z2)),true))else none) N (h,(0:Int),b,c,d,l.1,l.2.1,l.2.2))
theorem jNM :mK 214 (bX [.agg [.pv (.sl .str),.pv Y14,.pv Y0],.pv Y3] [.tup [.agg [.pv (.sl .str),.pv Y14,.own 1 Y1 33 false],pB]] (c4A (s_IndexAdd_m N))):=
 mO (fC (jIW N) (fC (jpx N) (fC (jL0 N) (fC (jLr N) (fC (jM5 N) (fC (jmU N) ja)))))) func214 rfl N (.seq .no (.seq .no (.seq .no (.seq .no (.seq (.seq .no (.block (.loop jNS .no))) .no))))) _
def jOd :Sh:=⟨.box 900000 0:: .dead:: .box 2 0:: .box 3 0::pI::dz 47 [],[(2,false,[.nils,.nils,.nils]),(3,false,[.pv (.sl .str),.pv Y14,.own 700302 Y1 33 false]),(900000,false,[.pv (.sl (.int .u8)),pI])]⟩
def s_l30Index_m (v:List Int) (u:Int):Option ((List Z1)×(List Z4)×(List Z2)×(List Int)×Int):=
 (oB (s_l30Conf_m N v u) fun h=>oB (s_IndexNew_m N h.1 h.2.1) fun q=>oB (s_l30Rd_pick_m N 7 h.2.2.1 h.2.2.2) fun m=>iter (fun l (b,c,e,f,r,p)=>bif decide ((0:Int)<b)then oB (s_l30Rd_pick_m N 5 r p) fun a=>(bif decide (a.1=0)then oB (s_l30Rd_pick_m N 8 a.2.1 a.2.2) fun d=>(if fits (1+d.1)then oB (s_IndexDrop_m N c e f (1+d.1)) fun i=>(if fits (b-1)then l ((b-1),i.1,i.2.1,i.2.2.1,d.2.1,d.2.2)else none)else none)else bif decide (a.1=1)then oB (s_l30Rd_pick_m N 3 a.2.1 a.2.2) fun n=>(oB (s_IndexMerge_m N c e f n.1) fun j=>if fits (b-1)then l ((b-1),j.1,j.2.1,j.2.2.1,n.2.1,n.2.2)else none)else oB (s_l30Docs_m N a.2.1 a.2.2) fun k=>oB (s_IndexAdd_m N c e f k.1) fun o=>if fits (b-1)then l ((b-1),o.1,o.2.1,o.2.2.1,k.2.1,k.2.2)else none)else some (c,e,f,r,p)) N (m.1,q.1,q.2,([]:List Z2),m.2.1,m.2.2))
theorem jNR :mK 213 ⟨⟨[.box 900000 0],[(900000,false,[.pv (.sl (.int .u8)),pI])]⟩,⟨[.agg [.pv (.sl .str),.pv Y14,.own 1 Y1 33 false]],[(900000,false,[.pv (.sl (.int .u8)),pI])]⟩,c2A (s_l30Index_m N)⟩:=
 mO (fC (jva N) (fC (jOh N) (fC (jtX N) (fC (jLL N) (fC (jNO N) (fC (juO N) (fC (jNM N) ja))))))) func213 rfl N (.seq .no (.seq .no (.seq (.seq .no (.block (.loop jOd .no))) .no))) _ (rs:=[900000])
def s_l30Rd_one_m (b:List Int) (d:List Int) (e:Int):Option (Int×(List Int)×Int):=
 (oB (s_l30Rd_pick_m N (b.length:Int) d e) fun a=>oB (idx b a.1) fun c=>some (c,a.2.1,a.2.2))
theorem juA :mK 83 ⟨⟨[.box 900000 0,.pv Y19],[(900000,false,[.pv (.sl (.int .u8)),pI])]⟩,⟨[pI],[(900000,false,[.pv (.sl (.int .u8)),pI])]⟩,c3A (s_l30Rd_one_m N)⟩:=
 mO (fC (jtX N) ja) func83 rfl N .no _ (rs:=[900000])
def jZN :Sh:=⟨.dead:: .box 1 0:: .dead::pI::dz 39 [],[(1,false,[.pv Y17])]⟩
def s_l19DiskOk_m (h:Z5):Z10:=
 (iter (fun e (a,b)=>bif decide (a<(b.length:Int))then oB (idx b a) fun f=>(oB (jT N f.1) fun i=>bif !i then some false else bif decide ((0:Int)<a)then oB (idx b a) fun c=>(if fits (a-1)then oB (idx b (a-1)) fun d=>(bif Op.bytesLess c.1 d.1||decide (c.1=d.1)then some false else if fits (a+1)then e ((a+1),b)else none)else none)else if fits (a+1)then e ((a+1),b)else none)else some (decide ((b.length:Int)<=24))) N ((0:Int),h))
theorem j0g :mK 67 (bX [.agg [.pv Y17]] [pB] (c1A (s_l19DiskOk_m N))):=
 mO (fC (jgp N) ja) func67 rfl N (.seq .no (.seq (.seq .no (.block (.loop jZN .no))) .no)) _
def s_l19Gen_m (a:Int):Option (Z1):=
 (if fits (1000+a)then oB (s_l1Dec_m N N (1000+a)) fun b=>(if([103,101,110]:List UInt8).length+b.length<=9223372036854775807 then some (([103,101,110]:List UInt8)++b)else none)else none)
theorem j0N :mK 142 (bX [pI] [pS] (c1A (s_l19Gen_m N))):=
 mO (fC (jOx N N) ja) func142 rfl N .no _
def j0j :Sh:=⟨.dead::pS:: .box 2 0::dz 3 (pI::dz 21 []),[(2,false,[.pv Y17])]⟩
def s_l19File_m (e:Z5) (i:List UInt8):Option (Z1×Bool):=
 (iter (fun j (c,a,b)=>bif decide (a<(b.length:Int))then oB (idx b a) fun d=>(bif decide (d.1=c)then oB (idx b a) fun f=>(some (f.2,true))else if fits (a+1)then j (c,(a+1),b)else none)else some (([]:List UInt8),false)) N (i,(0:Int),e))
theorem jZK :mK 141 (bX [.agg [.pv Y17],pS] [.tup [pS,pB]] (c2A (s_l19File_m N))):=
 mO ja func141 rfl N (.seq .no (.seq (.seq .no (.block (.loop j0j .no))) .no)) _
def j2E :Sh:=⟨.dead:: .box 1 0:: .dead::pI::dz 15 [],[(1,false,[.pv Y17])]⟩
def j04 (c:Z5):Z16:=
 (iter (fun h (a,b)=>bif decide ((1:Int)<=a)then oB (s_l19Gen_m N a) fun e=>(oB (s_l19File_m N b e) fun d=>bif d.2 then some a else if fits (a-1)then h ((a-1),b)else none)else some 0) N ((99:Int),c))
theorem j2k :mK 93 (bX [.agg [.pv Y17]] [pI] (c1A (j04 N))):=
 mO (fC (j0N N) (fC (jZK N) ja)) func93 rfl N (.seq .no (.seq (.seq .no (.block (.loop j2E .no))) .no)) _
def j0u :Sh:=⟨pS:: .dead:: .dead::pI::pI::dz 27 [],[]⟩
def j0M :Sh:=⟨pS:: .dead:: .dead::pI::pI::pI::dz 26 [],[]⟩
def s_l19Crc_m (k:List UInt8):Z16:=
 (iter (fun m (d,j,e)=>bif decide (e<(d.length:Int))then oB (idx d e) fun l=>(iter (fun i (f,a,c,b)=>bif decide (b<8)then if 2≠0 then bif decide ((a.tmod 2)=1)then if 2≠0 then if fits (a.tdiv 2)then if fits (b+1)then i (f,(bitsI .xor .i64 (a.tdiv 2) 3988292384),c,(b+1))else none else none else none else(if 2≠0 then if fits (a.tdiv 2)then if fits (b+1)then i (f,(a.tdiv 2),c,(b+1))else none else none else none)else none else if fits (c+1)then m (f,a,(c+1))else none) N (d,(bitsI .xor .i64 j (IntKind.i64.wrap (l.toNat:Int))),e,(0:Int)))else some (bitsI .xor .i64 j 4294967295)) N (k,(4294967295:Int),(0:Int)))
theorem jZT :mK 171 (bX [pS] [pI] (c1A (s_l19Crc_m N))):=
 mO ja func171 rfl N (.seq .no (.seq .no (.seq (.seq .no (.block (.loop j0u (.seq .no (.seq (.block (.seq .no (.seq .no (.block (.loop j0M .no))))) .no))))) .no))) _
def j3v :Sh:=⟨.dead::pI:: .box 2 0:: .dead:: .dead:: .own 600005 Y18 114 true::pS::pI::dz 47 [],[(2,false,[.pv (.sl .str),.pv Y14,.pv Y0])]⟩
def j09 (m:List Z1) (r:List Z4) (t:List Z2) (p:Int):Option (Z8):=
 (iter (fun q (e,f,b,d,n,v,h)=>bif decide (d<(h.length:Int))then if fits (1000+e)then oB (s_l1Dec_m N N (1000+e)) fun a=>(if([115,101,103]:List UInt8).length+a.length<=9223372036854775807 then if(([115,101,103]:List UInt8)++a).length+([120]:List UInt8).length<=9223372036854775807 then oB (s_l1Dec_m N N d) fun c=>(if((([115,101,103]:List UInt8)++a)++([120]:List UInt8)).length+c.length<=9223372036854775807 then oB (idx h d) fun j=>(oB (s_l19Seg_m N j.1.1 j.1.2 j.2) fun k=>if room f.length ([((((([115,101,103]:List UInt8)++a)++([120]:List UInt8))++c),k)]:Z5).length 32 then if b.length+(((([115,101,103]:List UInt8)++a)++([120]:List UInt8))++c).length<=9223372036854775807 then if(b++(((([115,101,103]:List UInt8)++a)++([120]:List UInt8))++c)).length+([32]:List UInt8).length<=9223372036854775807 then oB (s_l19Crc_m N k) fun u=>(oB (s_l1Dec_m N N u) fun i=>if((b++(((([115,101,103]:List UInt8)++a)++([120]:List UInt8))++c))++([32]:List UInt8)).length+i.length<=9223372036854775807 then if(((b++(((([115,101,103]:List UInt8)++a)++([120]:List UInt8))++c))++([32]:List UInt8))++i).length+([10]:List UInt8).length<=9223372036854775807 then if fits (d+1)then q (e,(f++([((((([115,101,103]:List UInt8)++a)++([120]:List UInt8))++c),k)]:Z5)),((((b++(((([115,101,103]:List UInt8)++a)++([120]:List UInt8))++c))++([32]:List UInt8))++i)++([10]:List UInt8)),(d+1),n,v,h)else none else none else none)else none else none else none)else none)else none else none)else none else oB (s_l19Gen_m N e) fun l=>if b.length+([101,110,100]:List UInt8).length<=9223372036854775807 then if room f.length ([(l,(b++([101,110,100]:List UInt8)))]:Z5).length 32 then some (f++([(l,(b++([101,110,100]:List UInt8)))]:Z5))else none else none) N (p,([]:Z5),([]:List UInt8),(0:Int),m,r,t))
theorem j2w :mK 94 (bX [.agg [.pv (.sl .str),.pv Y14,.pv Y0],pI] [.own 1 Y18 114 true] (c4A (j09 N))):=
 mO (fC (jOx N N) (fC (jX1 N) (fC (jZT N) (fC (j0N N) ja)))) func94 rfl N (.seq .no (.seq .no (.seq .no (.seq (.seq .no (.block (.loop j3v .no))) .no)))) _
def j3i :Sh:=⟨.dead:: .dead:: .box 2 0:: .box 3 0:: .box 4 0:: .box 5 0::pB::pI::dz 55 [],[(2,false,[.pv Y17]),(3,false,[pS,pS]),(4,false,[.nils]),(5,false,[.own 700500 Y18 114 true])]⟩
def j1Y :Sh:=⟨.dead:: .dead:: .box 2 0:: .box 3 0:: .box 4 0:: .box 5 0::pB::pI::dz 55 [],[(2,false,[.pv Y17]),(3,false,[pS,pS]),(4,false,[.nils]),(5,false,[.own 33 Y18 114 true])]⟩
def j0X (u:Z5) (r:List UInt8) (v:List UInt8):Option (Z8):=
 (iter (fun p (h,e,f,a,c,b)=>bif decide (e<(f.length:Int))then meet (fun(j:Bool×Int×Z8×Z1×Z1×Z8)=>match j with|(o,d,i,k,q,m)=>oB (idx i d) fun w=>bif !decide (w.1=k)then oB (idx i d) fun n=>(if room m.length ([n]:Z5).length 32 then if fits (d+1)then p (o,(d+1),i,k,q,(m++([n]:Z5)))else none else none)else if fits (d+1)then p (o,(d+1),i,k,q,m)else none) fun l=>(bif !h then oB (idx f e) fun t=>(bif !Op.bytesLess t.1 a then if room b.length ([(a,c)]:Z5).length 32 then l (true,e,f,a,c,(b++([(a,c)]:Z5)))else none else l (h,e,f,a,c,b))else l (h,e,f,a,c,b))else bif !h then if room b.length ([(a,c)]:Z5).length 32 then some (b++([(a,c)]:Z5))else none else some b) N (false,(0:Int),u,r,v,([]:Z5)))
theorem j2f :mK 95 (bX [.agg [.pv Y17],.agg [pS,pS]] [.agg [.own 1 Y18 114 true]] (c3A (j0X N))):=
 mO ja func95 rfl N (.seq .no (.seq .no (.seq .no (.seq (.seq .no (.block (.loop j3i (.seq .no (.seq (.block (.meet j1Y .no .no)) .no))))) .no)))) _
def j2G :Sh:=⟨.dead::pI:: .box 2 0:: .dead:: .box 4 0:: .box 5 0::pI::dz 51 [],[(2,false,[.pv Y17]),(4,false,[.nils]),(5,false,[.own 700500 Y18 114 true])]⟩
def j0S (q:Z5) (o:Int):Option (Z8):=
 (iter (fun e (b,a,c,d)=>bif decide (a<(c.length:Int))then oB (idx c a) fun f=>(bif decide ((7:Int)<=f.1.length)then oB (cut f.1 0 3) fun p=>(bif decide (p=([103,101,110]:List UInt8))then oB (cut f.1 3 7) fun r=>(oB (s_l1Num_m N r) fun v=>if fits (1000+b)then if fits ((1000+b)-1)then oB (jJ N v 1001 ((1000+b)-1)) fun u=>(bif !u then oB (idx c a) fun j=>(if room d.length ([j]:Z5).length 32 then if fits (a+1)then e (b,(a+1),c,(d++([j]:Z5)))else none else none)else if fits (a+1)then e (b,(a+1),c,d)else none)else none else none)else oB (cut f.1 0 3) fun m=>bif decide (m=([115,101,103]:List UInt8))then oB (cut f.1 3 7) fun l=>(oB (s_l1Num_m N l) fun t=>if fits (1000+b)then if fits ((1000+b)-1)then oB (jJ N t 1001 ((1000+b)-1)) fun w=>(bif !w then oB (idx c a) fun i=>(if room d.length ([i]:Z5).length 32 then if fits (a+1)then e (b,(a+1),c,(d++([i]:Z5)))else none else none)else if fits (a+1)then e (b,(a+1),c,d)else none)else none else none)else oB (idx c a) fun k=>if room d.length ([k]:Z5).length 32 then if fits (a+1)then e (b,(a+1),c,(d++([k]:Z5)))else none else none)else oB (idx c a) fun h=>if room d.length ([h]:Z5).length 32 then if fits (a+1)then e (b,(a+1),c,(d++([h]:Z5)))else none else none)else some d) N (o,(0:Int),q,([]:Z5)))
theorem j3g :mK 96 (bX [.agg [.pv Y17],pI] [.agg [.own 1 Y18 114 true]] (c2A (j0S N))):=
 mO (fC (jYO N) (fC (jcL N) ja)) func96 rfl N (.seq .no (.seq .no (.seq (.seq .no (.block (.loop j2G .no))) .no))) _
def j2B :Sh:=⟨.dead:: .dead::pI::dz 3 (.box 6 0:: .dead::pI:: .box 9 0:: .own 600010 Y18 114 true::pI::dz 69 []),[(6,false,[.nils]),(9,false,[.own 700900 Y18 114 true])]⟩
def j3U (b:Z5) (i:List Z1) (m:List Z4) (n:List Z2) (u:Int):Option (Z8×Int):=
 (oB (s_l19DiskOk_m N b) fun x=>bif !x then some (([]:Z5),(-1))else oB (s_l18Ok_m N i m n) fun v=>bif !v then some (([]:Z5),(-1))else oB (j04 N b) fun h=>if fits (h+1)then bif decide ((99:Int)<(h+1))then if room ([]:Z5).length b.length 32 then some ((([]:Z5)++b),0)else none else(if fits ((b.length:Int)+5)then if fits (((b.length:Int)+5)+1)then bif decide ((24:Int)<(((b.length:Int)+5)+1))then if room ([]:Z5).length b.length 32 then some ((([]:Z5)++b),0)else none else(if room ([]:Z5).length b.length 32 then oB (j09 N i m n (h+1)) fun y=>(iter (fun j (c,a,f,d,e)=>bif decide (d<(f.length:Int))then bif decide (c<0)then oB (idx f d) fun k=>(oB (j0X N e k.1 k.2) fun r=>if fits (d+1)then j (c,a,f,(d+1),r)else none)else(bif decide (d<c)then oB (idx f d) fun l=>(oB (j0X N e l.1 l.2) fun o=>if fits (d+1)then j (c,a,f,(d+1),o)else none)else bif decide (c<0)then oB (j0S N e a) fun w=>(some (w,a))else bif decide ((f.length:Int)<c)then oB (j0S N e a) fun p=>(some (p,a))else some (e,a))else bif decide (c<0)then oB (j0S N e a) fun t=>(some (t,a))else bif decide ((f.length:Int)<c)then oB (j0S N e a) fun z=>(some (z,a))else some (e,a)) N (u,(h+1),y,(0:Int),(([]:Z5)++b)))else none)else none else none)else none)
theorem j1N :mK 34 (bX [.agg [.pv Y17],.agg [.pv (.sl .str),.pv Y14,.pv Y0],pI] [.tup [.agg [.own 1 Y18 114 true],pI]] (c5A (j3U N))):=
 mO (fC (j0g N) (fC (jIW N) (fC (j2k N) (fC (j2w N) (fC (j2f N) (fC (j3g N) ja)))))) func34 rfl N (.seq .no (.seq .no (.seq .no (.seq .no (.seq .no (.seq .no (.seq (.seq .no (.block (.loop j2B .no))) .no))))))) _
def j2t :Sh:=⟨.box 900000 0:: .dead:: .box 2 0:: .box 3 0:: .box 4 0:: .box 5 0::pI::dz 33 [],[(2,false,[.nils]),(3,false,[.nils,.nils,.nils]),(4,false,[.own 700400 Y18 114 true]),(5,false,[.pv (.sl .str),.pv Y14,.own 700502 Y1 33 false]),(900000,false,[.pv (.sl (.int .u8)),pI])]⟩
def s_l30Disk_m (q:List Int) (o:Int):Option (Z8×(List Z1)×(List Z4)×(List Z2)×(List Int)×Int):=
 (oB (s_l30Index_m N q o) fun a=>oB (s_l30Rd_pick_m N 4 a.2.2.2.1 a.2.2.2.2) fun j=>iter (fun p (d,l,b,f,h,m,k)=>bif decide ((0:Int)<d)then oB (s_l30Rd_one_m N ([(-1),(-1),0,1,2,9]:List Int) m k) fun i=>(oB (j3U N l b f h i.1) fun r=>oB (s_l30Docs_m N i.2.1 i.2.2) fun e=>oB (s_IndexAdd_m N b f h e.1) fun c=>if fits (d-1)then p ((d-1),r.1,c.1,c.2.1,c.2.2.1,e.2.1,e.2.2)else none)else some (l,b,f,h,m,k)) N (j.1,([]:Z5),a.1,a.2.1,a.2.2.1,j.2.1,j.2.2))
theorem j2O :mK 136 ⟨⟨[.box 900000 0],[(900000,false,[.pv (.sl (.int .u8)),pI])]⟩,⟨[.tup [.agg [.own 1 Y18 114 true],.agg [.pv (.sl .str),.pv Y14,.own 2 Y1 33 false]]],[(900000,false,[.pv (.sl (.int .u8)),pI])]⟩,c2A (s_l30Disk_m N)⟩:=
 mO (fC (jNR N) (fC (jtX N) (fC (juA N) (fC (j1N N) (fC (juO N) (fC (jNM N) ja)))))) func136 rfl N (.seq .no (.seq .no (.seq .no (.seq (.seq .no (.block (.loop j2t .no))) .no)))) _ (rs:=[900000])
def s_l30Bent_m (b:List UInt8) (i:List Int) (k:Int):Option (Z1×(List Int)×Int):=
 (if fits ((b.length:Int)+1)then oB (s_l30Rd_pick_m N ((b.length:Int)+1) i k) fun c=>(oB (s_l30Rd_pick_m N 5 c.2.1 c.2.2) fun a=>bif decide (a.1=0)then bif decide (c.1<(b.length:Int))then oB (cut b 0 c.1) fun f=>(oB (s_l30Rd_of_m N ([([48]:List UInt8),([49]:List UInt8),([32]:List UInt8),([40]:List UInt8),([41]:List UInt8),([10]:List UInt8),([58]:List UInt8),([128]:List UInt8)]:List Z1) a.2.1 a.2.2) fun d=>if f.length+d.1.length<=9223372036854775807 then if fits (c.1+1)then oB (cut b (c.1+1) (b.length:Int)) fun h=>(if(f++d.1).length+h.length<=9223372036854775807 then some (((f++d.1)++h),d.2.1,d.2.2)else none)else none else none)else(some (b,a.2.1,a.2.2))else bif decide (a.1=1)then oB (cut b 0 c.1) fun j=>(some (j,a.2.1,a.2.2))else bif decide (a.1=2)then oB (s_l30Rd_of_m N ([([48]:List UInt8),([32]:List UInt8),([41]:List UInt8),([10]:List UInt8)]:List Z1) a.2.1 a.2.2) fun e=>(if b.length+e.1.length<=9223372036854775807 then some ((b++e.1),e.2.1,e.2.2)else none)else some (b,a.2.1,a.2.2))else none)
theorem jYX :mK 138 ⟨⟨[.box 900000 0,pS],[(900000,false,[.pv (.sl (.int .u8)),pI])]⟩,⟨[pS],[(900000,false,[.pv (.sl (.int .u8)),pI])]⟩,c3A (s_l30Bent_m N)⟩:=
 mO (fC (jtX N) (fC (jt3 N) ja)) func138 rfl N .no _ (rs:=[900000])
def s_l30AnyDisk_m (i:List Int) (k:Int):Option (Z8×(List Z1)×(List Z4)×(List Z2)×(List Int)×Int):=
 (oB (s_l30Disk_m N i k) fun a=>if room ([]:Z5).length a.1.length 32 then bif decide ((0:Int)<((([]:Z5)++a.1).length:Int))then oB (s_l30Rd_pick_m N ((([]:Z5)++a.1).length:Int) a.2.2.2.2.1 a.2.2.2.2.2) fun b=>(oB (s_l30Rd_pick_m N 12 b.2.1 b.2.2) fun c=>bif decide (c.1=0)then if 0<=b.1/\b.1<((([]:Z5)++a.1).length:Int)then oB ((([]:Z5)++a.1)[b.1.toNat]?) fun f=>(oB (s_l30Bent_m N f.2 c.2.1 c.2.2) fun d=>if 0<=b.1/\b.1<((([]:Z5)++a.1).length:Int)then oB ((([]:Z5)++a.1)[b.1.toNat]?) fun h=>(some (((([]:Z5)++a.1).set b.1.toNat (h.1,d.1)),a.2.1,a.2.2.1,a.2.2.2.1,d.2.1,d.2.2))else none)else none else bif decide (c.1=1)then oB (s_l30Rd_of_m N ([([]:List UInt8),([122,122]:List UInt8),([65]:List UInt8)]:List Z1) c.2.1 c.2.2) fun e=>(if 0<=b.1/\b.1<((([]:Z5)++a.1).length:Int)then oB ((([]:Z5)++a.1)[b.1.toNat]?) fun j=>(some (((([]:Z5)++a.1).set b.1.toNat (e.1,j.2)),a.2.1,a.2.2.1,a.2.2.2.1,e.2.1,e.2.2))else none)else bif decide (c.1=2)then oB (cut (([]:Z5)++a.1) 0 b.1) fun _=>(if fits (b.1+1)then oB (cut (([]:Z5)++a.1) (b.1+1) ((([]:Z5)++a.1).length:Int)) fun _=>(if b.1.toNat<=(b.1+1).toNat then some (((([]:Z5)++a.1).take b.1.toNat++((([]:Z5)++a.1).take (((([]:Z5)++a.1).length:Int).toNat)).drop ((b.1+1).toNat)),a.2.1,a.2.2.1,a.2.2.2.1,c.2.1,c.2.2)else none)else none)else some ((([]:Z5)++a.1),a.2.1,a.2.2.1,a.2.2.2.1,c.2.1,c.2.2))else(some ((([]:Z5)++a.1),a.2.1,a.2.2.1,a.2.2.2.1,a.2.2.2.2.1,a.2.2.2.2.2))else none)
theorem j2N :mK 63 ⟨⟨[.box 900000 0],[(900000,false,[.pv (.sl (.int .u8)),pI])]⟩,⟨[.tup [.agg [.own 1 Y18 114 true],.agg [.pv (.sl .str),.pv Y14,.own 2 Y1 33 false]]],[(900000,false,[.pv (.sl (.int .u8)),pI])]⟩,c2A (s_l30AnyDisk_m N)⟩:=
 mO (fC (j2O N) (fC (jtX N) (fC (jYX N) (fC (jt3 N) ja)))) func63 rfl N .no _ (wr:=[12,15,49,64]) (rs:=[900000]) (dw:=[58,63])
def s_DrawDiskOpen_m (c:List Int):Option ((List Z1)×(List Z4)×Z8):=
 (oB (s_l30Open_m N c) fun b=>oB (s_l30AnyDisk_m N b.1 b.2) fun a=>some (a.2.1,a.2.2.1,a.1))
theorem j4A :mK 18 (bX [.pv (.sl (.int .u8))] [.tup [.agg [.pv (.sl .str),.pv Y14],.agg [.own 1 Y18 114 true]]] (c1A (s_DrawDiskOpen_m N))):=
 mO (fC (juQ N) (fC (j2N N) ja)) func18 rfl N .no _
def jZS :Sh:=⟨.dead:: .box 1 0::dz 4 (.pv Y17::pI::pI::dz 29 []),[(1,false,[.pv Y17])]⟩
def i_DiskOk_m (c:Z5):Z10:=
 (iter (fun h (d,e,a,b)=>bif decide (a<e)then oB (idx d a) fun f=>(oB (jO N f.1) fun j=>bif !j then some false else bif decide ((0:Int)<a)then if fits (a-1)then oB (idx b (a-1)) fun i=>(bif !Op.bytesLess i.1 f.1 then some false else if fits (a+1)then h (d,e,(a+1),b)else none)else none else if fits (a+1)then h (d,e,(a+1),b)else none)else some (decide ((b.length:Int)<=24))) N (c,(c.length:Int),(0:Int),c))
theorem j0P :mK 22 (bX [.agg [.pv Y17]] [pB] (c1A (i_DiskOk_m N))):=
 mO (fC (jcM N) ja) func22 rfl N (.seq .no (.seq (.seq .no (.block (.loop jZS .no))) .no)) _
def i_genName_m (a:Int):Option (Z1):=
 (if fits (1000+a)then oB (k_strconv_Itoa_m N (1000+a)) fun b=>(if([103,101,110]:List UInt8).length+b.length<=9223372036854775807 then some (([103,101,110]:List UInt8)++b)else none)else none)
theorem j0B :mK 85 (bX [pI] [pS] (c1A (i_genName_m N))):=
 mO (fC (jO0 N) ja) func85 rfl N .no _
def j0n :Sh:=⟨.dead::pS::dz 7 (.pv Y17::pI::pI::dz 10 []),[]⟩
def i_Disk_file_m (c:Z5) (i:List UInt8):Option (Z1×Bool):=
 (iter (fun j (f,e,d,a)=>bif decide (a<d)then oB (idx e a) fun b=>(bif decide (b.1=f)then some (b.2,true)else if fits (a+1)then j (f,e,d,(a+1))else none)else some (([]:List UInt8),false)) N (i,c,(c.length:Int),(0:Int)))
theorem j0r :mK 84 (bX [.agg [.pv Y17],pS] [.tup [pS,pB]] (c2A (i_Disk_file_m N))):=
 mO ja func84 rfl N (.seq .no (.seq (.seq .no (.block (.loop j0n .no))) .no)) _
def jM7 :Sh:=⟨.dead:: .dead:: .box 2 0:: .box 3 0::dz 9 (.pv Y14::pI::pI::dz 17 []),[(2,false,[.nils,.nils]),(3,false,[.own 700300 .str 9 true,.own 700301 Y16 142 true])]⟩
def i_cloneConf_m (f:List Z1) (h:List Z4):Option ((List Z1)×(List Z4)):=
 (if room ([]:List Z1).length f.length 16 then iter (fun k (e,d,b,i,c)=>bif decide (b<d)then oB (idx e b) fun a=>(if room ([]:List Z1).length a.1.length 16 then if room c.length ([((([]:List Z1)++a.1),a.2)]:List Z4).length 40 then if fits (b+1)then k (e,d,(b+1),i,(c++([((([]:List Z1)++a.1),a.2)]:List Z4)))else none else none else none)else some (i,c)) N (h,(h.length:Int),(0:Int),(([]:List Z1)++f),([]:List Z4))else none)
theorem jLo :mK 140 (bX [.agg [.pv (.sl .str),.pv Y14]] [.agg [.own 1 .str 9 true,.own 2 Y16 142 true]] (c2A (i_cloneConf_m N))):=
 mO ja func140 rfl N (.seq .no (.seq .no (.seq (.seq .no (.block (.loop jM7 .no))) .no))) _
def jZO :Sh:=⟨pS:: .dead:: .dead:: .pv (.int .u32):: .dead:: .dead::pI::pI::dz 23 [],[]⟩
def j0x :Sh:=⟨pS:: .dead:: .dead:: .pv (.int .u32):: .dead:: .dead::pI::pI::dz 8 (pI::dz 14 []),[]⟩
def i_Crc_m (m:List UInt8):Z16:=
 (iter (fun o (i,l,j,h)=>bif decide (h<j)then oB (idx i h) fun n=>(iter (fun k (e,c,d,b,a)=>bif decide (a<8)then bif decide ((bitsI .and .u32 c 1)=1)then if 0<=(1:Int)then if fits (a+1)then k (e,(bitsI .xor .u32 (c.fdiv (2^(min (1:Int).toNat (IntKind.bits .u32)))) 3988292384),d,b,(a+1))else none else none else(if 0<=(1:Int)then if fits (a+1)then k (e,(c.fdiv (2^(min (1:Int).toNat (IntKind.bits .u32)))),d,b,(a+1))else none else none)else if fits (b+1)then o (e,c,d,(b+1))else none) N (i,(bitsI .xor .u32 l (IntKind.u32.wrap (n.toNat:Int))),j,h,(0:Int)))else some (IntKind.i64.wrap (bitsI .xor .u32 4294967295 l))) N (m,(4294967295:Int),(m.length:Int),(0:Int)))
theorem jZY :mK 87 (bX [pS] [pI] (c1A (i_Crc_m N))):=
 mO ja func87 rfl N (.seq .no (.seq .no (.seq (.seq .no (.block (.loop jZO (.seq .no (.seq .no (.seq (.block (.seq .no (.seq .no (.seq .no (.block (.loop j0x .no)))))) .no)))))) .no))) _
def jZQ :Sh:=⟨dz 3 (.box 3 0:: .box 4 0:: .dead:: .box 6 0::dz 5 (.box 12 0::dz 37 (.pv (.sl .str)::pI::pI::dz 44 []))),[(3,false,[.pv Y17]),(4,false,[.pv (.sl .str),.pv Y14]),(6,false,[.nils,.nils,.nils]),(12,false,[.own 701200 .str 9 true,.own 701201 Y16 142 true,.own 701202 Y1 33 true])]⟩
noncomputable def i_Disk_commit_m (o:Z5) (r:List Z1) (u:List Z4) (x:Int):Z12:=
 (oB (i_genName_m N x) fun C=>oB (i_Disk_file_m N o C) fun q=>oB (k_strings_Split_m N q.1 ([10]:List UInt8)) fun b=>if fits ((b.length:Int)-1)then bif !q.2 then some (([]:List Z1),([]:List Z4),([]:List Z2),false)else(oB (idx b ((b.length:Int)-1)) fun z=>bif !decide (z=([101,110,100]:List UInt8))then some (([]:List Z1),([]:List Z4),([]:List Z2),false)else oB (i_cloneConf_m N r u) fun t=>oB (cut b 0 ((b.length:Int)-1)) fun n=>iter (fun y (p,k,d,j,l,i,e,h,c)=>bif decide (d<k)then oB (idx p d) fun A=>(oB (k_strings_Cut_m N A ([32]:List UInt8)) fun m=>oB (i_Disk_file_m N j m.1) fun f=>bif !f.2 then some (([]:List Z1),([]:List Z4),([]:List Z2),false)else oB (i_Crc_m N f.1) fun B=>oB (k_strconv_Itoa_m N B) fun v=>bif !decide (v=m.2.1)then some (([]:List Z1),([]:List Z4),([]:List Z2),false)else oB (jY4 N l i f.1) fun a=>bif !a.2.2.2 then some (([]:List Z1),([]:List Z4),([]:List Z2),false)else if room c.length ([((a.1,a.2.1),a.2.2.1)]:List Z2).length 72 then if fits (d+1)then y (p,k,(d+1),j,l,i,e,h,(c++([((a.1,a.2.1),a.2.2.1)]:List Z2)))else none else none)else oB (i_IndexOk_m N e h c) fun D=>some (e,h,c,D)) N (n,(n.length:Int),(0:Int),o,r,u,t.1,t.2,([]:List Z2)))else none)
theorem j0h :mK 65 (bX [.agg [.pv Y17],.agg [.pv (.sl .str),.pv Y14],pI] [.tup [.agg [.own 1 .str 9 true,.own 2 Y16 142 true,.own 3 Y1 33 true],pB]] (c4A (i_Disk_commit_m N))):=
 mO (fC (j0B N) (fC (j0r N) (fC (jYi N) (fC (jLo N) (fC (jX0 N) (fC (jZY N) (fC (jO0 N) (fC (jYm N) (fC (jIr N) ja))))))))) func65 rfl N (.seq .no (.seq .no (.seq .no (.seq .no (.seq .no (.seq .no (.seq (.seq .no (.block (.loop jZQ .no))) .no))))))) _
def i_IndexNew_m (a:List Z1) (b:List Z4):Option ((List Z1)×(List Z4)×(List Z2)):=
 (oB (jaj N a b) fun d=>bif !d then some (([]:List Z1),([]:List Z4),([]:List Z2))else oB (i_cloneConf_m N a b) fun c=>some (c.1,c.2,([]:List Z2)))
theorem jRK :mK 66 (bX [.agg [.pv (.sl .str),.pv Y14]] [.agg [.own 1 .str 9 true,.own 2 Y16 142 true,.own 3 Y1 33 true]] (c2A (i_IndexNew_m N))):=
 mO (fC (jdX N) (fC (jLo N) ja)) func66 rfl N .no _
def jZ2 :Sh:=⟨.dead:: .dead:: .box 2 0:: .box 3 0:: .box 4 0:: .dead::pI::dz 27 [],[(2,false,[.pv (.sl .str),.pv Y14]),(3,false,[.pv Y17]),(4,false,[.nils,.nils,.nils])]⟩
noncomputable def i_DiskOpen_m (i:List Z1) (j:List Z4) (f:Z5):Option ((List Z1)×(List Z4)×(List Z2)×Int):=
 (oB (jaj N i j) fun l=>bif !l then some (([]:List Z1),([]:List Z4),([]:List Z2),(-1))else oB (i_DiskOk_m N f) fun k=>bif !k then some (([]:List Z1),([]:List Z4),([]:List Z2),(-1))else iter (fun n (a,d,c,h)=>bif decide ((1:Int)<=a)then oB (i_Disk_commit_m N h d c a) fun b=>(bif b.2.2.2 then some (b.1,b.2.1,b.2.2.1,a)else if fits (a-1)then n ((a-1),d,c,h)else none)else oB (i_IndexNew_m N d c) fun e=>some (e.1,e.2.1,e.2.2,0)) N ((99:Int),i,j,f))
theorem j0w :mK 19 (bX [.agg [.pv (.sl .str),.pv Y14],.agg [.pv Y17]] [.tup [.agg [.own 1 .str 9 true,.own 2 Y16 142 true,.own 3 Y1 33 true],pI]] (c3A (i_DiskOpen_m N))):=
 mO (fC (jdX N) (fC (j0P N) (fC (j0h N) (fC (jRK N) ja)))) func19 rfl N (.seq .no (.seq .no (.seq (.seq .no (.block (.loop jZ2 .no))) .no))) _
def jZU :Sh:=⟨dz 3 (.box 3 0:: .box 4 0:: .dead:: .box 6 0:: .dead:: .box 8 0:: .own 600009 .str 9 true::pI::dz 73 []),[(3,false,[.pv (.sl .str),.pv Y14]),(4,false,[.pv Y17]),(6,false,[.nils,.nils,.nils]),(8,false,[.own 700800 .str 9 true,.own 700801 Y16 142 true,.own 700802 Y1 33 false])]⟩
def s_l19Open_m (n:List Z1) (o:List Z4) (y:Z5) (u:List UInt8):Z12:=
 (oB (s_l18CopyConf_m N n o) fun m=>oB (s_l1Cut_m N u 10 6) fun A=>iter (fun w (b,c,l,j,k,e,f,d)=>if fits (c+1)then bif decide ((c+1)<(b.length:Int))then oB (idx b c) fun x=>(oB (s_l1Cut_m N x 32 2) fun h=>bif !decide ((h.length:Int)=2)then some (([]:List Z1),([]:List Z4),([]:List Z2),false)else oB (idx h 0) fun z=>oB (s_l19File_m N k z) fun i=>bif !i.2 then some (([]:List Z1),([]:List Z4),([]:List Z2),false)else oB (idx h 1) fun t=>oB (s_l19Crc_m N i.1) fun v=>oB (s_l1Dec_m N N v) fun p=>bif !decide (t=p)then some (([]:List Z1),([]:List Z4),([]:List Z2),false)else oB (s_l19Get_m N l j i.1) fun a=>bif !a.2.2.2 then some (([]:List Z1),([]:List Z4),([]:List Z2),false)else if room d.length ([((a.1,a.2.1),a.2.2.1)]:List Z2).length 72 then if fits (c+1)then w (b,(c+1),l,j,k,e,f,(d++([((a.1,a.2.1),a.2.2.1)]:List Z2)))else none else none)else(if fits ((b.length:Int)-1)then oB (idx b ((b.length:Int)-1)) fun B=>(bif decide (B=([101,110,100]:List UInt8))then oB (s_l18Ok_m N e f d) fun q=>(some (e,f,d,q))else some (e,f,d,false))else none)else none) N (A,(0:Int),n,o,y,m.1,m.2,([]:List Z2)))
theorem j0v :mK 143 (bX [.agg [.pv (.sl .str),.pv Y14],.agg [.pv Y17],pS] [.tup [.agg [.own 1 .str 9 true,.own 2 Y16 142 true,.own 3 Y1 33 false],pB]] (c4A (s_l19Open_m N))):=
 mO (fC (jMp N) (fC (jYN N) (fC (jZK N) (fC (jZT N) (fC (jOx N N) (fC (jYR N) (fC (jIW N) ja))))))) func143 rfl N (.seq .no (.seq .no (.seq .no (.seq (.seq .no (.block (.loop jZU .no))) .no)))) _
def j0s :Sh:=⟨.dead:: .dead:: .box 2 0:: .box 3 0:: .box 4 0:: .dead::pI::dz 30 [],[(2,false,[.pv (.sl .str),.pv Y14]),(3,false,[.pv Y17]),(4,false,[.nils,.nils,.nils])]⟩
def s_l19Last_m (l:List Z1) (n:List Z4) (j:Z5):Option ((List Z1)×(List Z4)×(List Z2)×Int):=
 (iter (fun i (a,e,b,d)=>bif decide ((1:Int)<=a)then oB (s_l19Gen_m N a) fun k=>(oB (s_l19File_m N d k) fun f=>bif !f.2 then if fits (a-1)then i ((a-1),e,b,d)else none else oB (s_l19Open_m N e b d f.1) fun c=>bif c.2.2.2 then some (c.1,c.2.1,c.2.2.1,a)else if fits (a-1)then i ((a-1),e,b,d)else none)else oB (s_l18CopyConf_m N e b) fun h=>some (h.1,h.2,([]:List Z2),0)) N ((99:Int),l,n,j))
theorem j0p :mK 68 (bX [.agg [.pv (.sl .str),.pv Y14],.agg [.pv Y17]] [.tup [.agg [.own 1 .str 9 true,.own 2 Y16 142 true,.own 3 Y1 33 false],pI]] (c3A (s_l19Last_m N))):=
 mO (fC (j0N N) (fC (jZK N) (fC (j0v N) (fC (jMp N) ja)))) func68 rfl N (.seq .no (.seq (.seq .no (.block (.loop j0s .no))) .no)) _
def s_DiskOpen_m (c:List Z1) (d:List Z4) (b:Z5):Option ((List Z1)×(List Z4)×(List Z2)×Int):=
 (oB (jcw N c d) fun f=>bif !f then some (([]:List Z1),([]:List Z4),([]:List Z2),(-1))else oB (s_l19DiskOk_m N b) fun e=>bif !e then some (([]:List Z1),([]:List Z4),([]:List Z2),(-1))else oB (s_l19Last_m N c d b) fun a=>some (a.1,a.2.1,a.2.2.1,a.2.2.2))
theorem jZ3 :mK 20 (bX [.agg [.pv (.sl .str),.pv Y14],.agg [.pv Y17]] [.tup [.agg [.own 1 .str 9 true,.own 2 Y16 142 true,.own 3 Y1 33 false],pI]] (c3A (s_DiskOpen_m N))):=
 mO (fC (jtf N) (fC (j0g N) (fC (j0p N) ja))) func20 rfl N .no _
def jve :Sh:=⟨.pv (.sl .str):: .pv (.sl .str)::dz 3 (pI::dz 20 []),[]⟩
def j0Z (e:List Z1) (c:List Z1):Z10:=
 (bif !decide ((e.length:Int)=(c.length:Int))then some false else iter (fun j (b,d,a)=>bif decide (a<(b.length:Int))then oB (idx b a) fun f=>(oB (idx d a) fun h=>bif !decide (f=h)then some false else if fits (a+1)then j (b,d,(a+1))else none)else some true) N (e,c,(0:Int)))
theorem juE :mK 145 (bX [.pv (.sl .str),.pv (.sl .str)] [pB] (c2A (j0Z N))):=
 mO ja func145 rfl N (.seq .no (.seq .no (.seq (.seq .no (.block (.loop jve .no))) .no))) _
def jRo :Sh:=⟨.dead:: .dead:: .box 2 0:: .box 3 0:: .dead::pI::dz 51 [],[(2,false,[.pv (.sl .str),.pv Y14]),(3,false,[.pv (.sl .str),.pv Y14])]⟩
def j1a (h:List Z1) (d:List Z4) (f:List Z1) (e:List Z4):Z10:=
 (oB (j0Z N h f) fun o=>bif !o then some false else bif !decide ((d.length:Int)=(e.length:Int))then some false else iter (fun k (a,q,b,r,c)=>bif decide (a<(b.length:Int))then oB (idx b a) fun l=>(oB (idx c a) fun m=>bif !decide (l.2=m.2)then some false else oB (idx b a) fun j=>oB (idx c a) fun p=>oB (j0Z N j.1 p.1) fun n=>bif !n then some false else if fits (a+1)then k ((a+1),q,b,r,c)else none)else some true) N ((0:Int),h,d,f,e))
theorem jRp :mK 69 (bX [.agg [.pv (.sl .str),.pv Y14],.agg [.pv (.sl .str),.pv Y14]] [pB] (c4A (j1a N))):=
 mO (fC (juE N) ja) func69 rfl N (.seq .no (.seq .no (.seq (.seq .no (.block (.loop jRo .no))) .no))) _
def jRj :Sh:=⟨.dead:: .dead:: .box 2 0:: .box 3 0:: .dead::pI::dz 60 [],[(2,false,[pI,.pv Y17,.pv Y13]),(3,false,[pI,.pv Y17,.pv Y13])]⟩
def jRu :Sh:=⟨.dead:: .dead:: .box 2 0:: .box 3 0:: .dead:: .dead::pI::dz 59 [],[(2,false,[pI,.pv Y17,.pv Y13]),(3,false,[pI,.pv Y17,.pv Y13])]⟩
def l_foDoc_m (v:Int) (k:Z5) (u:Z6) (r:Int) (n:Z5) (w:Z6):Z10:=
 (bif !decide (v=r)then some false else bif !decide ((k.length:Int)=(n.length:Int))then some false else bif !decide ((u.length:Int)=(w.length:Int))then some false else iter (fun A (a,m,c,h,o,d,j)=>bif decide (a<(c.length:Int))then oB (idx c a) fun p=>(oB (idx d a) fun q=>bif !((decide (p.1=q.1))&&(decide (p.2=q.2)))then some false else if fits (a+1)then A ((a+1),m,c,h,o,d,j)else none)else iter (fun z (b,C,B,f,x,y,i)=>bif decide (b<(f.length:Int))then oB (idx f b) fun l=>(oB (idx i b) fun t=>bif !((decide (l.1=t.1))&&(decide (l.2=t.2)))then some false else if fits (b+1)then z ((b+1),C,B,f,x,y,i)else none)else some true) N ((0:Int),m,c,h,o,d,j)) N ((0:Int),v,k,u,r,n,w))
theorem jRr :mK 268 (bX [.agg [pI,.pv Y17,.pv Y13],.agg [pI,.pv Y17,.pv Y13]] [pB] (c6A (l_foDoc_m N))):=
 mO ja func268 rfl N (.seq .no (.seq .no (.seq (.seq .no (.block (.loop jRj .no))) (.seq (.seq .no (.block (.loop jRu .no))) .no)))) _
def jRs :Sh:=⟨.pv Y3:: .pv Y3::dz 3 (pI::dz 21 []),[]⟩
def l_foDocs_m (h:List Z0) (e:List Z0):Z10:=
 (bif !decide ((h.length:Int)=(e.length:Int))then some false else iter (fun k (d,f,a)=>bif decide (a<(d.length:Int))then oB (idx d a) fun b=>(oB (idx f a) fun c=>oB (l_foDoc_m N b.1 b.2.1 b.2.2 c.1 c.2.1 c.2.2) fun i=>bif !i then some false else if fits (a+1)then k (d,f,(a+1))else none)else some true) N (h,e,(0:Int)))
theorem jQV :mK 216 (bX [.pv Y3,.pv Y3] [pB] (c2A (l_foDocs_m N))):=
 mO (fC (jRr N) ja) func216 rfl N (.seq .no (.seq .no (.seq (.seq .no (.block (.loop jRs .no))) .no))) _
def l_foInts_m (e:List Int) (c:List Int):Z10:=
 (bif !decide ((e.length:Int)=(c.length:Int))then some false else iter (fun j (b,d,a)=>bif decide (a<(b.length:Int))then oB (idx b a) fun f=>(oB (idx d a) fun h=>bif !decide (f=h)then some false else if fits (a+1)then j (b,d,(a+1))else none)else some true) N (e,c,(0:Int)))
theorem jQS :mK 147 (bX [.pv Y19,.pv Y19] [pB] (c2A (l_foInts_m N))):=
 mO ja func147 rfl N (.seq .no (.seq .no (.seq (.seq .no (.block (.loop jnI .no))) .no))) _
def jQ6 :Sh:=⟨.pv Y11:: .pv Y11::dz 3 (pI::dz 36 []),[]⟩
def l_foPosts_m (e:Z7) (d:Z7):Z10:=
 (bif !decide ((e.length:Int)=(d.length:Int))then some false else iter (fun m (b,c,a)=>bif decide (a<(b.length:Int))then oB (idx b a) fun f=>(oB (idx c a) fun h=>bif !decide (f.1=h.1)then some false else oB (idx b a) fun l=>oB (idx c a) fun j=>oB (l_foInts_m N l.2 j.2) fun i=>bif !i then some false else if fits (a+1)then m (b,c,(a+1))else none)else some true) N (e,d,(0:Int)))
theorem jRl :mK 217 (bX [.pv Y11,.pv Y11] [pB] (c2A (l_foPosts_m N))):=
 mO (fC (jQS N) ja) func217 rfl N (.seq .no (.seq .no (.seq (.seq .no (.block (.loop jQ6 .no))) .no))) _
def jQ7 :Sh:=⟨.dead:: .dead:: .box 2 0:: .box 3 0:: .dead::pI::dz 66 [],[(2,false,[.pv Y3,.pv Y5]),(3,false,[.pv Y3,.pv Y5])]⟩
def l_foSeg_m (h:List Z0) (d:List Z3) (f:List Z0) (e:List Z3):Z10:=
 (oB (l_foDocs_m N h f) fun q=>bif !q then some false else bif !decide ((d.length:Int)=(e.length:Int))then some false else iter (fun m (a,t,b,u,c)=>bif decide (a<(b.length:Int))then oB (idx b a) fun n=>(oB (idx c a) fun o=>bif !decide (n.1=o.1)then some false else oB (idx b a) fun k=>oB (idx c a) fun r=>bif !decide (k.2.1=r.2.1)then some false else oB (idx b a) fun i=>oB (idx c a) fun l=>oB (l_foPosts_m N i.2.2 l.2.2) fun p=>bif !p then some false else if fits (a+1)then m ((a+1),t,b,u,c)else none)else some true) N ((0:Int),h,d,f,e))
theorem jRc :mK 146 (bX [.agg [.pv Y3,.pv Y5],.agg [.pv Y3,.pv Y5]] [pB] (c4A (l_foSeg_m N))):=
 mO (fC (jQV N) (fC (jRl N) ja)) func146 rfl N (.seq .no (.seq .no (.seq (.seq .no (.block (.loop jQ7 .no))) .no))) _
def j06 (h:List Z0) (d:List Z3) (e:List Int) (a:List Z0) (f:List Z3) (i:List Int):Z10:=
 (oB (l_foSeg_m N h d a f) fun c=>bif c then oB (l_foInts_m N e i) fun b=>(some b)else some false)
theorem jQ4 :mK 70 (bX [.agg [.pv Y3,.pv Y5,.pv Y19],.agg [.pv Y3,.pv Y5,.pv Y19]] [pB] (c6A (j06 N))):=
 mO (fC (jRc N) (fC (jQS N) ja)) func70 rfl N .no _
def jRd :Sh:=⟨.dead:: .dead:: .box 2 0:: .box 3 0:: .dead::pI::dz 34 [],[(2,false,[.pv (.sl .str),.pv Y14,.pv Y0]),(3,false,[.pv (.sl .str),.pv Y14,.pv Y0])]⟩
def j4w (k:List Z1) (f:List Z4) (j:List Z2) (i:List Z1) (h:List Z4) (l:List Z2):Z10:=
 (oB (j1a N k f i h) fun t=>bif !t then some false else bif !decide ((j.length:Int)=(l.length:Int))then some false else iter (fun p (a,o,u,b,q,m,e)=>bif decide (a<(b.length:Int))then oB (idx b a) fun c=>(oB (idx e a) fun d=>oB (j06 N c.1.1 c.1.2 c.2 d.1.1 d.1.2 d.2) fun r=>bif !r then some false else if fits (a+1)then p ((a+1),o,u,b,q,m,e)else none)else some true) N ((0:Int),k,f,j,i,h,l))
theorem jRf :mK 21 (bX [.agg [.pv (.sl .str),.pv Y14,.pv Y0],.agg [.pv (.sl .str),.pv Y14,.pv Y0]] [pB] (c6A (j4w N))):=
 mO (fC (jRp N) (fC (jQ4 N) ja)) func21 rfl N (.seq .no (.seq .no (.seq (.seq .no (.block (.loop jRd .no))) .no))) _
def s_DiskOk_m (a:Z5):Z10:=
 (oB (s_l19DiskOk_m N a) fun b=>some b)
theorem j4y :mK 23 (bX [.agg [.pv Y17]] [pB] (c1A (s_DiskOk_m N))):=
 mO (fC (j0g N) ja) func23 rfl N .no _
noncomputable def l_FnDiskOpen_m (d:List Int):Z10:=
 (bif decide ((1048576:Int)<d.length)then some true else oB (s_DrawDiskOpen_m N d) fun c=>oB (i_DiskOpen_m N c.1 c.2.1 c.2.2) fun a=>oB (s_DiskOpen_m N c.1 c.2.1 c.2.2) fun b=>bif !decide (a.2.2.2=b.2.2.2)then bif decide (a.2.2.2=b.2.2.2)then oB (j4w N a.1 a.2.1 a.2.2.1 b.1 b.2.1 b.2.2.1) fun v=>(bif v then oB (i_DiskOk_m N c.2.2) fun p=>(oB (s_DiskOk_m N c.2.2) fun h=>some (p==h))else some false)else(some false)else oB (j4w N a.1 a.2.1 a.2.2.1 b.1 b.2.1 b.2.2.1) fun r=>bif !r then bif decide (a.2.2.2=b.2.2.2)then oB (j4w N a.1 a.2.1 a.2.2.1 b.1 b.2.1 b.2.2.1) fun j=>(bif j then oB (i_DiskOk_m N c.2.2) fun q=>(oB (s_DiskOk_m N c.2.2) fun w=>some (q==w))else some false)else(some false)else oB (i_DiskOk_m N c.2.2) fun e=>oB (s_DiskOk_m N c.2.2) fun i=>bif !(e==i)then bif decide (a.2.2.2=b.2.2.2)then oB (j4w N a.1 a.2.1 a.2.2.1 b.1 b.2.1 b.2.2.1) fun f=>(bif f then oB (i_DiskOk_m N c.2.2) fun l=>(oB (s_DiskOk_m N c.2.2) fun t=>some (l==t))else some false)else(some false)else bif decide (a.2.2.2<0)then bif decide (a.2.2.2=b.2.2.2)then oB (j4w N a.1 a.2.1 a.2.2.1 b.1 b.2.1 b.2.2.1) fun n=>(bif n then oB (i_DiskOk_m N c.2.2) fun u=>(oB (s_DiskOk_m N c.2.2) fun o=>some (u==o))else some false)else(some false)else oB (i_DiskOpen_m N c.1 c.2.1 ([]:Z5)) fun m=>oB (i_IndexOk_m N a.1 a.2.1 a.2.2.1) fun k=>bif k then bif decide (m.2.2.2=0)then bif decide (a.2.2.2<=99)then bif decide ((0:Int)<a.2.2.2)then some true else(some (decide ((a.2.2.1.length:Int)=0)))else(some false)else(some false)else some false)
noncomputable def j4x (N:Nat):Model:=⟨⟨[.pv (.sl (.int .u8))],[]⟩,⟨[pB],[]⟩,c1A (l_FnDiskOpen_m N)⟩
theorem j4z :mK 4 (j4x N):=
 mO (fC (j4A N) (fC (j0w N) (fC (jZ3 N) (fC (jRf N) (fC (j0P N) (fC (j4y N) (fC (jIr N) ja))))))) func4 rfl N .no (j4x N)
end Go.Proofs.YtcinmmojlcchfaaGreatDoor
