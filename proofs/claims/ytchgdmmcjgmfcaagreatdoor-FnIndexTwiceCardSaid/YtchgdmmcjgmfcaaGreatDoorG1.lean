import Derived.Test.YtchgdmmcjgmfcaaGreatDoorG1A
set_option linter.unusedVariables false
set_option linter.unusedSimpArgs false
namespace Go.Proofs.YtchgdmmcjgmfcaaGreatDoor
open Go.RowKit Go.Proofs.Tryz
variable (N : Nat)
open Option renaming bind -> oB
def jM3 :Sh:=⟨.dead:: .dead:: .box 2 0:: .box 3 0::dz 8 (.pv Y1::pI::pI::dz 12 []),[(2,false,[.nils,.nils,.nils]),(3,false,[.own 700300 .str 9 true,.own 700301 Y19 117 true,.own 700302 Y2 99 true])]⟩
def i_cloneIndex_m (m:List Z2) (l:List Z4) (e:List Z3):Option ((List Z2)×(List Z4)×(List Z3)):=
 (oB (i_cloneConf_m N m l) fun h=>iter (fun n (i,j,b,f,k,c)=>bif decide (b<j)then oB (idx i b) fun d=>(oB (i_cloneLive_m N d.1.1 d.1.2 d.2) fun a=>if room c.length ([((a.1,a.2.1),a.2.2)]:List Z3).length 72 then if fits (b+1)then n (i,j,(b+1),f,k,(c++([((a.1,a.2.1),a.2.2)]:List Z3)))else none else none)else some (f,k,c)) N (e,(e.length:Int),(0:Int),h.1,h.2,([]:List Z3)))
theorem jLT :mK 53 (bX [.agg [.pv (.sl .str),.pv Y17,.pv Y1]] [.agg [.own 1 .str 9 true,.own 2 Y19 117 true,.own 3 Y2 99 true]] (c3A (i_cloneIndex_m N))):=
 mO (fC (jLo N) (fC (jLF N) ja)) func53 rfl N (.seq .no (.seq .no (.seq (.seq .no (.block (.loop jM3 .no))) .no))) _
def jRw :Sh:=⟨dz 3 (.own 600003 tI 3 true::dz 3 (.pv Y4::pI::pI::dz 10 [])),[]⟩
def i_idsOf_m (d:List Z0):Z19:=
 (iter (fun h (b,c,f,a)=>bif decide (a<f)then oB (idx c a) fun e=>(if room b.length ([e.1]:List Int).length 8 then if fits (a+1)then h ((b++([e.1]:List Int)),c,f,(a+1))else none else none)else some b) N (([]:List Int),d,(d.length:Int),(0:Int)))
theorem jQ8 :mK 55 (bX [.pv Y4] [.own 1 tI 3 true] (c1A (i_idsOf_m N))):=
 mO ja func55 rfl N (.seq .no (.seq .no (.seq (.seq .no (.block (.loop jRw .no))) .no))) _
def jLs :Sh:=⟨.mtk 800000 tI 3 true::pI::dz 5 (pI::pI::dz 10 []),[]⟩
def k_slices_Index_484_v2_m (e:List Int) (f:Int):Option (Int×(List Int)):=
 (iter (fun i (b,d,c,a)=>bif decide (a<c)then if 0<=a/\a<(b.length:Int)then oB (b[a.toNat]?) fun h=>(bif decide (d=h)then some (a,b)else if fits (a+1)then i (b,d,c,(a+1))else none)else none else some ((-1),b)) N (e,f,(e.length:Int),(0:Int)))
theorem jLH :mK 168 (bX [.mtk 800000 tI 3 true,pI] [pI,.mtk 800000 tI 3 true] (c2A (k_slices_Index_484_v2_m N))):=
 mO ja func168 rfl N (.seq .no (.seq (.seq .no (.block (.loop jLs .no))) .no)) _ (rs:=[800000])
def k_slices_Contains_735_v2_m (b:List Int) (c:Int):Option (Bool×(List Int)):=
 (oB (k_slices_Index_484_v2_m N b c) fun a=>some ((decide ((0:Int)<=a.1)),a.2))
theorem jLe :mK 105 (bX [.mtk 800000 tI 3 true,pI] [pB,.mtk 800000 tI 3 true] (c2A (k_slices_Contains_735_v2_m N))):=
 mO (fC (jLH N) ja) func105 rfl N .no _ (rs:=[800000])
def jMu :Sh:=⟨.dead:: .box 1 0:: .dead:: .own 600003 Y5 51 false::dz 5 (.pv Y4::pI::pI::dz 15 []),[(1,false,[.pv Y4,.pv Y6,.mtk 800002 tI 3 true])]⟩
def i_Live_alive_v2_m (d:List Z0) (n:List Z1) (m:List Int):Option ((List Z0)×(List Int)):=
 (iter (fun i (b,h,c,a,l,j,k)=>bif decide (a<c)then oB (idx h a) fun e=>(oB (k_slices_Contains_735_v2_m N k e.1) fun f=>bif !f.1 then if room b.length ([e]:List Z0).length 56 then if fits (a+1)then i ((b++([e]:List Z0)),h,c,(a+1),l,j,f.2)else none else none else if fits (a+1)then i (b,h,c,(a+1),l,j,f.2)else none)else some (b,k)) N (([]:List Z0),d,(d.length:Int),(0:Int),d,n,m))
theorem jLZ :mK 117 (bX [.agg [.pv Y4,.pv Y6,.mtk 800002 tI 3 true]] [.own 1 Y5 51 false,.mtk 800002 tI 3 true] (c3A (i_Live_alive_v2_m N))):=
 mO (fC (jLe N) ja) func117 rfl N (.seq .no (.seq .no (.seq (.seq .no (.block (.loop jMu .no))) .no))) _ (rs:=[800002])
def k_cmp_Less_67_m (b:Int) (a:Int):Z9:=
 (oB (k_cmp_isNaN_538_m N b) fun d=>bif d then oB (k_cmp_isNaN_538_m N a) fun c=>(bif !c then some true else some (decide (b<a)))else some (decide (b<a)))
theorem jA5 :mK 229 (bX [pI,pI] [pB] (c2A (k_cmp_Less_67_m N))):=
 mO (fC (joK N) ja) func229 rfl N .no _
def jMa :Sh:=⟨.mtk 800000 tI 3 true::pI::pI::dz 3 (pI::dz 42 []),[]⟩
def jMW :Sh:=⟨.mtk 800000 tI 3 true::pI::pI::dz 3 (pI::pI::dz 41 []),[]⟩
def jKD (u:List Int) (f:Int) (r:Int):Z19:=
 (if fits (f+1)then iter (fun m (l,q,k,j)=>bif decide (j<k)then iter (fun p (b,d,h,c,a)=>bif decide (d<a)then if 0<=a/\a<(b.length:Int)then oB (b[a.toNat]?) fun n=>(if fits (a-1)then if 0<=(a-1)/\(a-1)<(b.length:Int)then oB (b[(a-1).toNat]?) fun o=>(oB (k_cmp_Less_67_m N n o) fun t=>bif t then if fits (a-1)then if fits (a-1)then if 0<=(a-1)/\(a-1)<(b.length:Int)then oB (b[(a-1).toNat]?) fun i=>(if 0<=a/\a<(b.length:Int)then oB (b[a.toNat]?) fun v=>(if 0<=a/\a<(b.length:Int)then oB (b[a.toNat]?) fun x=>(if 0<=(a-1)/\(a-1)<((b.set a.toNat i).length:Int)then oB ((b.set a.toNat i)[(a-1).toNat]?) fun w=>(if fits (a-1)then p (((b.set a.toNat i).set (a-1).toNat v),d,h,c,(a-1))else none)else none)else none)else none)else none else none else none else if fits (c+1)then m (b,d,h,(c+1))else none)else none else none)else none else if fits (c+1)then m (b,d,h,(c+1))else none) N (l,q,k,j,j)else some l) N (u,f,r,(f+1))else none)
theorem jMr :mK 223 (bX [.mtk 800000 tI 3 true,pI,pI] [.tup [],.mtk 800000 tI 3 true] (c3A (jKD N))):=
 mO (fC (jA5 N) ja) func223 rfl N (.seq .no (.block (.loop jMa (.seq .no (.seq (.block (.seq .no (.block (.loop jMW .no)))) .no))))) _ (rs:=[800000])
def jLj :Sh:=⟨.mtk 800000 tI 3 true:: .dead::pI::pI::dz 4 (pI::dz 67 []),[]⟩
def jMO :Sh:=⟨.mtk 800000 tI 3 true:: .dead::pI::pI::dz 4 (pI::pI::dz 66 []),[]⟩
def jKh (w:List Int) (q:Int) (z:Int) (o:Int):Z19:=
 (iter (fun u (h,i,f,b)=>if fits (2*b)then if fits ((2*b)+1)then bif decide (i<=((2*b)+1))then some h else(meet (fun(l:Z18)=>match l with|(d,r,a,c,e)=>if fits (a+c)then if 0<=(a+c)/\(a+c)<(d.length:Int)then oB (d[(a+c).toNat]?) fun y=>(if fits (a+e)then if 0<=(a+e)/\(a+e)<(d.length:Int)then oB (d[(a+e).toNat]?) fun x=>(oB (k_cmp_Less_67_m N y x) fun m=>bif !m then some d else if fits (a+c)then if fits (a+e)then if fits (a+e)then if 0<=(a+e)/\(a+e)<(d.length:Int)then oB (d[(a+e).toNat]?) fun k=>(if fits (a+c)then if 0<=(a+c)/\(a+c)<(d.length:Int)then oB (d[(a+c).toNat]?) fun n=>(if 0<=(a+c)/\(a+c)<(d.length:Int)then oB (d[(a+c).toNat]?) fun B=>(if 0<=(a+e)/\(a+e)<((d.set (a+c).toNat k).length:Int)then oB ((d.set (a+c).toNat k)[(a+e).toNat]?) fun A=>(u (((d.set (a+c).toNat k).set (a+e).toNat n),r,a,e))else none)else none)else none else none)else none else none else none else none)else none else none)else none else none) fun j=>if fits (((2*b)+1)+1)then bif decide ((((2*b)+1)+1)<i)then if fits (f+((2*b)+1))then if 0<=(f+((2*b)+1))/\(f+((2*b)+1))<(h.length:Int)then oB (h[(f+((2*b)+1)).toNat]?) fun p=>(if fits (f+((2*b)+1))then if fits ((f+((2*b)+1))+1)then if 0<=((f+((2*b)+1))+1)/\((f+((2*b)+1))+1)<(h.length:Int)then oB (h[((f+((2*b)+1))+1).toNat]?) fun t=>(oB (k_cmp_Less_67_m N p t) fun v=>bif v then if fits (((2*b)+1)+1)then j (h,i,f,b,(((2*b)+1)+1))else none else j (h,i,f,b,((2*b)+1)))else none else none else none)else none else none else(j (h,i,f,b,((2*b)+1)))else none)else none else none) N (w,z,o,q))
theorem jMR :mK 274 (bX [.mtk 800000 tI 3 true,pI,pI,pI] [.tup [],.mtk 800000 tI 3 true] (c4A (jKh N))):=
 mO (fC (jA5 N) ja) func274 rfl N (.seq .no (.block (.loop jLj (.block (.seq .no (.seq .no (.meet jMO .no .no))))))) _ (rs:=[800000])
def jNf :Sh:=⟨.mtk 800000 tI 3 true::dz 5 (pI::pI::pI::pI::dz 46 []),[]⟩
def jNc :Sh:=⟨.mtk 800000 tI 3 true::dz 5 (pI::pI:: .dead:: .dead::pI::dz 45 []),[]⟩
def jKw (u:List Int) (d:Int) (e:Int):Z19:=
 (if fits (e-d)then if fits ((e-d)-1)then if 2≠0 then if fits (((e-d)-1).tdiv 2)then iter (fun t (m,j,l,f,h)=>bif decide ((0:Int)<=h)then oB (jKh N m h f j) fun r=>(if fits (h-1)then t (r,j,l,f,(h-1))else none)else if fits (f-1)then iter (fun q (c,a,n,b)=>bif decide ((0:Int)<=b)then if fits (a+b)then if fits (a+b)then if 0<=(a+b)/\(a+b)<(c.length:Int)then oB (c[(a+b).toNat]?) fun k=>(if 0<=a/\a<(c.length:Int)then oB (c[a.toNat]?) fun p=>(if 0<=a/\a<(c.length:Int)then oB (c[a.toNat]?) fun v=>(if 0<=(a+b)/\(a+b)<((c.set a.toNat k).length:Int)then oB ((c.set a.toNat k)[(a+b).toNat]?) fun w=>(oB (jKh N ((c.set a.toNat k).set (a+b).toNat p) n b a) fun o=>if fits (b-1)then q (o,a,n,(b-1))else none)else none)else none)else none)else none else none else none else some c) N (m,j,l,(f-1))else none) N (u,d,(0:Int),(e-d),(((e-d)-1).tdiv 2))else none else none else none else none)
theorem jLI :mK 224 (bX [.mtk 800000 tI 3 true,pI,pI] [.tup [],.mtk 800000 tI 3 true] (c3A (jKw N))):=
 mO (fC (jMR N) ja) func224 rfl N (.seq .no (.seq .no (.seq .no (.seq (.seq .no (.block (.loop jNf .no))) (.seq .no (.block (.loop jNc .no))))))) _ (rs:=[800000])
def jKY :Sh:=⟨.mtk 800000 tI 3 true::pI::dz 4 (pI:: .box 7 0:: .pv (.int .u64)::pI::dz 55 []),[(7,false,[.pv (.int .u64)])]⟩
def jMt :Sh:=⟨.mtk 800000 tI 3 true::pI::dz 4 (pI:: .box 7 0:: .pv (.int .u64)::pI::pI::dz 54 []),[(7,false,[.pv (.int .u64)])]⟩
def jKH (q:List Int) (a:Int) (d:Int):Z19:=
 (if fits (d-a)then bif decide ((8:Int)<=(d-a))then oB (k_slices_nextPowerOfTwo_m N (d-a)) fun w=>(if 4≠0 then if fits ((d-a).tdiv 4)then if fits (((d-a).tdiv 4)*2)then if fits (a+(((d-a).tdiv 4)*2))then if fits ((a+(((d-a).tdiv 4)*2))-1)then iter (fun v (n,k,c,j,l,u)=>if 4≠0 then if fits (c.tdiv 4)then if fits ((c.tdiv 4)*2)then if fits (k+((c.tdiv 4)*2))then if fits ((k+((c.tdiv 4)*2))+1)then bif decide (l<=((k+((c.tdiv 4)*2))+1))then oB (k__slices_xorshift_Next_m N u) fun i=>(meet (fun(o:(List Int)×Int×Int×Int×Int×Int×Int)=>match o with|(h,e,y,x,b,f,r)=>if fits (e+f)then if fits (e+f)then if 0<=(e+f)/\(e+f)<(h.length:Int)then oB (h[(e+f).toNat]?) fun m=>(if 0<=b/\b<(h.length:Int)then oB (h[b.toNat]?) fun t=>(if 0<=b/\b<(h.length:Int)then oB (h[b.toNat]?) fun A=>(if 0<=(e+f)/\(e+f)<((h.set b.toNat m).length:Int)then oB ((h.set b.toNat m)[(e+f).toNat]?) fun z=>(if fits (b+1)then v (((h.set b.toNat m).set (e+f).toNat t),e,y,x,(b+1),r)else none)else none)else none)else none)else none else none else none) fun p=>bif decide (c<=(IntKind.i64.wrap (bitsI .and .u64 i.1 (IntKind.u64.wrap (j-1)))))then if fits ((IntKind.i64.wrap (bitsI .and .u64 i.1 (IntKind.u64.wrap (j-1))))-c)then p (n,k,c,j,l,((IntKind.i64.wrap (bitsI .and .u64 i.1 (IntKind.u64.wrap (j-1))))-c),i.2)else none else p (n,k,c,j,l,(IntKind.i64.wrap (bitsI .and .u64 i.1 (IntKind.u64.wrap (j-1)))),i.2))else(some n)else none else none else none else none else none) N (q,a,(d-a),w,((a+(((d-a).tdiv 4)*2))-1),(IntKind.u64.wrap (d-a)))else none else none else none else none else none)else(some q)else none)
theorem jMF :mK 225 (bX [.mtk 800000 tI 3 true,pI,pI] [.tup [],.mtk 800000 tI 3 true] (c3A (jKH N))):=
 mO (fC (jhv N) (fC (jet N) ja)) func225 rfl N (.seq .no (.seq .no (.cond (.seq .no (.seq .no (.seq .no (.block (.loop jKY (.seq .no (.seq (.block (.seq .no (.meet jMt .no .no))) .no))))))) .no))) _ (rs:=[800000])
def jJ7 (a:List Int) (c:Int) (b:Int) (d:Int):Option (Int×Int×(List Int)×Int):=
 (if 0<=b/\b<(a.length:Int)then oB (a[b.toNat]?) fun e=>(if 0<=c/\c<(a.length:Int)then oB (a[c.toNat]?) fun h=>(oB (k_cmp_Less_67_m N e h) fun f=>bif f then if fits (d+1)then some (b,c,a,(d+1))else none else some (c,b,a,d))else none)else none)
theorem jLg :mK 304 ⟨⟨[.mtk 800000 tI 3 true,pI,pI,.box 900003 0],[(900003,false,[pI])]⟩,⟨[.tup [pI,pI],.mtk 800000 tI 3 true],[(900003,false,[pI])]⟩,c4A (jJ7 N)⟩:=
 mO (fC (jA5 N) ja) func304 rfl N .no _ (rs:=[900003,800000])
def jKl (f:List Int) (i:Int) (d:Int) (h:Int) (e:Int):Option (Int×(List Int)×Int):=
 (oB (jJ7 N f i d e) fun a=>oB (jJ7 N a.2.2.1 a.2.1 h a.2.2.2) fun b=>oB (jJ7 N b.2.2.1 a.1 b.1 b.2.2.2) fun c=>some (c.2.1,c.2.2.1,c.2.2.2))
theorem jKO :mK 276 ⟨⟨[.mtk 800000 tI 3 true,pI,pI,pI,.box 900004 0],[(900004,false,[pI])]⟩,⟨[pI,.mtk 800000 tI 3 true],[(900004,false,[pI])]⟩,c5A (jKl N)⟩:=
 mO (fC (jLg N) ja) func276 rfl N .no _ (rs:=[900004,800000])
def jKb (d:List Int) (a:Int) (c:Int):Option (Int×(List Int)×Int):=
 (if fits (a-1)then if fits (a+1)then oB (jKl N d (a-1) a (a+1) c) fun b=>(some (b.1,b.2.1,b.2.2))else none else none)
theorem jLb :mK 275 ⟨⟨[.mtk 800000 tI 3 true,pI,.box 900002 0],[(900002,false,[pI])]⟩,⟨[pI,.mtk 800000 tI 3 true],[(900002,false,[pI])]⟩,c3A (jKb N)⟩:=
 mO (fC (jKO N) ja) func275 rfl N .no _ (rs:=[900002,800000])
def jLc :Sh:=⟨.mtk 800000 tI 3 true::dz 8 (.box 9 0::pI::pI::pI::dz 44 []),[(9,false,[pI])]⟩
def jM6 :Sh:=⟨.mtk 800000 tI 3 true::dz 8 (.box 9 0:: .dead::pI::dz 45 []),[(9,false,[pI])]⟩
def jKT (h:List Int) (a:Int) (b:Int):Option (Int×Int×(List Int)):=
 (if fits (b-a)then if 4≠0 then if fits ((b-a).tdiv 4)then if fits (((b-a).tdiv 4)*1)then if fits (a+(((b-a).tdiv 4)*1))then if 4≠0 then if fits ((b-a).tdiv 4)then if fits (((b-a).tdiv 4)*2)then if fits (a+(((b-a).tdiv 4)*2))then if 4≠0 then if fits ((b-a).tdiv 4)then if fits (((b-a).tdiv 4)*3)then if fits (a+(((b-a).tdiv 4)*3))then meet (fun(d:(List Int)×Int×Int)=>match d with|(i,k,n)=>bif decide (n=0)then some (k,1,i)else bif decide (n=12)then some (k,2,i)else some (k,0,i)) fun l=>(bif decide ((8:Int)<=(b-a))then meet (fun(d:Z18)=>match d with|(q,p,o,t,r)=>oB (jKl N q p o t r) fun j=>l (j.2.1,j.1,j.2.2)) fun m=>(bif decide ((50:Int)<=(b-a))then oB (jKb N h (a+(((b-a).tdiv 4)*1)) 0) fun f=>(oB (jKb N f.2.1 (a+(((b-a).tdiv 4)*2)) f.2.2) fun c=>oB (jKb N c.2.1 (a+(((b-a).tdiv 4)*3)) c.2.2) fun e=>m (e.2.1,f.1,c.1,e.1,e.2.2))else m (h,(a+(((b-a).tdiv 4)*1)),(a+(((b-a).tdiv 4)*2)),(a+(((b-a).tdiv 4)*3)),0))else l (h,(a+(((b-a).tdiv 4)*2)),0))else none else none else none else none else none else none else none else none else none else none else none else none else none)
theorem jMB :mK 226 (bX [.mtk 800000 tI 3 true,pI,pI] [.tup [pI,pI],.mtk 800000 tI 3 true] (c3A (jKT N))):=
 mO (fC (jLb N) (fC (jKO N) ja)) func226 rfl N (.seq .no (.seq .no (.seq .no (.seq .no (.seq .no (.seq .no (.meet jM6 (.seq .no (.cond (.meet jLc .no .no) .no)) .no))))))) _ (rs:=[800000])
def jLt :Sh:=⟨.mtk 800000 tI 3 true::dz 5 (pI::pI::dz 24 []),[]⟩
def jKC (i:List Int) (k:Int) (e:Int):Z19:=
 (if fits (e-1)then iter (fun h (c,a,b)=>bif decide (a<b)then if 0<=b/\b<(c.length:Int)then oB (c[b.toNat]?) fun d=>(if 0<=a/\a<(c.length:Int)then oB (c[a.toNat]?) fun j=>(if 0<=a/\a<(c.length:Int)then oB (c[a.toNat]?) fun l=>(if 0<=b/\b<((c.set a.toNat d).length:Int)then oB ((c.set a.toNat d)[b.toNat]?) fun m=>(if fits (a+1)then if fits (b-1)then h (((c.set a.toNat d).set b.toNat j),(a+1),(b-1))else none else none)else none)else none)else none)else none else some c) N (i,k,(e-1))else none)
theorem jLn :mK 227 (bX [.mtk 800000 tI 3 true,pI,pI] [.tup [],.mtk 800000 tI 3 true] (c3A (jKC N))):=
 mO ja func227 rfl N (.seq .no (.seq .no (.block (.loop jLt .no)))) _ (rs:=[800000])
def jKk :Sh:=⟨.mtk 800000 tI 3 true::pI::pI::dz 4 (pI::pI::dz 124 []),[]⟩
def jMz :Sh:=⟨.mtk 800000 tI 3 true::pI::pI::dz 4 (pI::pI::pI::dz 123 []),[]⟩
def jMq :Sh:=⟨.mtk 800000 tI 3 true::pI::pI::dz 4 (pI::pI:: .dead::pI::dz 122 []),[]⟩
def jKt (data:List Int) (a:Int) (b:Int):Option (Bool×(List Int)):=
 (if fits (a+1)then iter (fun go (data2,a2,b2,i,j)=>bif decide (j<5)then iter (fun go2 (data3,a3,b3,i2,j2)=>bif decide (i2<b3)then if 0<=i2/\i2<(data3.length:Int)then oB (data3[i2.toNat]?) fun e=>(if fits (i2-1)then if 0<=(i2-1)/\(i2-1)<(data3.length:Int)then oB (data3[(i2-1).toNat]?) fun e2=>(oB (k_cmp_Less_67_m N e e2) fun r=>bif !r then if fits (i2+1)then go2 (data3,a3,b3,(i2+1),j2)else none else bif decide (i2=b3)then some (true,data3)else if fits (b3-a3)then bif decide ((b3-a3)<50)then some (false,data3)else(if fits (i2-1)then if fits (i2-1)then if 0<=(i2-1)/\(i2-1)<(data3.length:Int)then oB (data3[(i2-1).toNat]?) fun e3=>(if 0<=i2/\i2<(data3.length:Int)then oB (data3[i2.toNat]?) fun e4=>(if 0<=i2/\i2<(data3.length:Int)then oB (data3[i2.toNat]?) fun e5=>(if 0<=(i2-1)/\(i2-1)<((data3.set i2.toNat e3).length:Int)then oB ((data3.set i2.toNat e3)[(i2-1).toNat]?) fun e6=>(meet (fun(g:Z18)=>match g with|(data5,a5,b5,i4,j5)=>if fits (b5-i4)then bif decide ((2:Int)<=(b5-i4))then if fits (i4+1)then iter (fun go4 (data6,a6,b6,i5,j6,j7)=>bif decide (j7<b6)then if 0<=j7/\j7<(data6.length:Int)then oB (data6[j7.toNat]?) fun e13=>(if fits (j7-1)then if 0<=(j7-1)/\(j7-1)<(data6.length:Int)then oB (data6[(j7-1).toNat]?) fun e14=>(oB (k_cmp_Less_67_m N e13 e14) fun r3=>bif !r3 then if fits (j6+1)then go (data6,a6,b6,i5,(j6+1))else none else if fits (j7-1)then if fits (j7-1)then if 0<=(j7-1)/\(j7-1)<(data6.length:Int)then oB (data6[(j7-1).toNat]?) fun e15=>(if 0<=j7/\j7<(data6.length:Int)then oB (data6[j7.toNat]?) fun e16=>(if 0<=j7/\j7<(data6.length:Int)then oB (data6[j7.toNat]?) fun e17=>(if 0<=(j7-1)/\(j7-1)<((data6.set j7.toNat e15).length:Int)then oB ((data6.set j7.toNat e15)[(j7-1).toNat]?) fun e18=>(if fits (j7+1)then go4 (((data6.set j7.toNat e15).set (j7-1).toNat e16),a6,b6,i5,j6,(j7+1))else none)else none)else none)else none)else none else none else none)else none else none)else none else if fits (j6+1)then go (data6,a6,b6,i5,(j6+1))else none) N (data5,a5,b5,i4,j5,(i4+1))else none else(if fits (j5+1)then go (data5,a5,b5,i4,(j5+1))else none)else none) fun J=>if fits (i2-a3)then bif decide ((2:Int)<=(i2-a3))then if fits (i2-1)then iter (fun go3 (data4,a4,b4,i3,j3,j4)=>bif decide ((1:Int)<=j4)then if 0<=j4/\j4<(data4.length:Int)then oB (data4[j4.toNat]?) fun e7=>(if fits (j4-1)then if 0<=(j4-1)/\(j4-1)<(data4.length:Int)then oB (data4[(j4-1).toNat]?) fun e8=>(oB (k_cmp_Less_67_m N e7 e8) fun r2=>bif !r2 then J (data4,a4,b4,i3,j3)else if fits (j4-1)then if fits (j4-1)then if 0<=(j4-1)/\(j4-1)<(data4.length:Int)then oB (data4[(j4-1).toNat]?) fun e9=>(if 0<=j4/\j4<(data4.length:Int)then oB (data4[j4.toNat]?) fun e10=>(if 0<=j4/\j4<(data4.length:Int)then oB (data4[j4.toNat]?) fun e11=>(if 0<=(j4-1)/\(j4-1)<((data4.set j4.toNat e9).length:Int)then oB ((data4.set j4.toNat e9)[(j4-1).toNat]?) fun e12=>(if fits (j4-1)then go3 (((data4.set j4.toNat e9).set (j4-1).toNat e10),a4,b4,i3,j3,(j4-1))else none)else none)else none)else none)else none else none else none)else none else none)else none else J (data4,a4,b4,i3,j3)) N (((data3.set i2.toNat e3).set (i2-1).toNat e4),a3,b3,i2,j2,(i2-1))else none else(J (((data3.set i2.toNat e3).set (i2-1).toNat e4),a3,b3,i2,j2))else none)else none)else none)else none)else none else none else none)else none)else none else none)else none else bif decide (i2=b3)then some (true,data3)else if fits (b3-a3)then bif decide ((b3-a3)<50)then some (false,data3)else(if fits (i2-1)then if fits (i2-1)then if 0<=(i2-1)/\(i2-1)<(data3.length:Int)then oB (data3[(i2-1).toNat]?) fun e19=>(if 0<=i2/\i2<(data3.length:Int)then oB (data3[i2.toNat]?) fun e20=>(if 0<=i2/\i2<(data3.length:Int)then oB (data3[i2.toNat]?) fun e21=>(if 0<=(i2-1)/\(i2-1)<((data3.set i2.toNat e19).length:Int)then oB ((data3.set i2.toNat e19)[(i2-1).toNat]?) fun e22=>(meet (fun(g:Z18)=>match g with|(data8,a8,b8,i7,j10)=>if fits (b8-i7)then bif decide ((2:Int)<=(b8-i7))then if fits (i7+1)then iter (fun go6 (data9,a9,b9,i8,j11,j12)=>bif decide (j12<b9)then if 0<=j12/\j12<(data9.length:Int)then oB (data9[j12.toNat]?) fun e29=>(if fits (j12-1)then if 0<=(j12-1)/\(j12-1)<(data9.length:Int)then oB (data9[(j12-1).toNat]?) fun e30=>(oB (k_cmp_Less_67_m N e29 e30) fun r5=>bif !r5 then if fits (j11+1)then go (data9,a9,b9,i8,(j11+1))else none else if fits (j12-1)then if fits (j12-1)then if 0<=(j12-1)/\(j12-1)<(data9.length:Int)then oB (data9[(j12-1).toNat]?) fun e31=>(if 0<=j12/\j12<(data9.length:Int)then oB (data9[j12.toNat]?) fun e32=>(if 0<=j12/\j12<(data9.length:Int)then oB (data9[j12.toNat]?) fun e33=>(if 0<=(j12-1)/\(j12-1)<((data9.set j12.toNat e31).length:Int)then oB ((data9.set j12.toNat e31)[(j12-1).toNat]?) fun e34=>(if fits (j12+1)then go6 (((data9.set j12.toNat e31).set (j12-1).toNat e32),a9,b9,i8,j11,(j12+1))else none)else none)else none)else none)else none else none else none)else none else none)else none else if fits (j11+1)then go (data9,a9,b9,i8,(j11+1))else none) N (data8,a8,b8,i7,j10,(i7+1))else none else(if fits (j10+1)then go (data8,a8,b8,i7,(j10+1))else none)else none) fun J2=>if fits (i2-a3)then bif decide ((2:Int)<=(i2-a3))then if fits (i2-1)then iter (fun go5 (data7,a7,b7,i6,j8,j9)=>bif decide ((1:Int)<=j9)then if 0<=j9/\j9<(data7.length:Int)then oB (data7[j9.toNat]?) fun e23=>(if fits (j9-1)then if 0<=(j9-1)/\(j9-1)<(data7.length:Int)then oB (data7[(j9-1).toNat]?) fun e24=>(oB (k_cmp_Less_67_m N e23 e24) fun r4=>bif !r4 then J2 (data7,a7,b7,i6,j8)else if fits (j9-1)then if fits (j9-1)then if 0<=(j9-1)/\(j9-1)<(data7.length:Int)then oB (data7[(j9-1).toNat]?) fun e25=>(if 0<=j9/\j9<(data7.length:Int)then oB (data7[j9.toNat]?) fun e26=>(if 0<=j9/\j9<(data7.length:Int)then oB (data7[j9.toNat]?) fun e27=>(if 0<=(j9-1)/\(j9-1)<((data7.set j9.toNat e25).length:Int)then oB ((data7.set j9.toNat e25)[(j9-1).toNat]?) fun e28=>(if fits (j9-1)then go5 (((data7.set j9.toNat e25).set (j9-1).toNat e26),a7,b7,i6,j8,(j9-1))else none)else none)else none)else none)else none else none else none)else none else none)else none else J2 (data7,a7,b7,i6,j8)) N (((data3.set i2.toNat e19).set (i2-1).toNat e20),a3,b3,i2,j2,(i2-1))else none else(J2 (((data3.set i2.toNat e19).set (i2-1).toNat e20),a3,b3,i2,j2))else none)else none)else none)else none)else none else none else none)else none) N (data2,a2,b2,i,j)else some (false,data2)) N (data,a,b,(a+1),(0:Int))else none)
theorem jMH :mK 228 (bX [.mtk 800000 tI 3 true,pI,pI] [pB,.mtk 800000 tI 3 true] (c3A (jKt N))):=
 mO (fC (jA5 N) ja) func228 rfl N (.seq .no (.seq .no (.seq (.seq .no (.block (.loop jKk (.seq .no (.seq (.block (.seq (.block (.loop jKk .no)) (.seq .no (.seq .no (.seq .no (.meet jKk (.seq .no (.cond (.seq .no (.block (.loop jMz .no))) .no)) (.seq .no (.cond (.seq .no (.block (.loop jMq .no))) .no)))))))) .no))))) .no))) _ (rs:=[800000])
def jKf :Sh:=⟨.mtk 800000 tI 3 true::pI::dz 7 (pI::pI::dz 73 []),[]⟩
def jKu (i:List Int) (h:Int) (y:Int) (m:Int):Option (Int×(List Int)):=
 (if 0<=m/\m<(i.length:Int)then oB (i[m.toNat]?) fun v=>(if 0<=h/\h<(i.length:Int)then oB (i[h.toNat]?) fun D=>(if 0<=h/\h<(i.length:Int)then oB (i[h.toNat]?) fun ae=>(if 0<=m/\m<((i.set h.toNat v).length:Int)then oB ((i.set h.toNat v)[m.toNat]?) fun ag=>(if fits (h+1)then if fits (y-1)then iter (fun q (G,U,W,B)=>iter (fun R (l,p,j,r)=>bif decide (j<=r)then if 0<=p/\p<(l.length:Int)then oB (l[p.toNat]?) fun T=>(if 0<=j/\j<(l.length:Int)then oB (l[j.toNat]?) fun A=>(oB (k_cmp_Less_67_m N T A) fun V=>bif !V then if fits (j+1)then R (l,p,(j+1),r)else none else iter (fun L (f,n,b,c)=>bif decide (b<=c)then if 0<=n/\n<(f.length:Int)then oB (f[n.toNat]?) fun K=>(if 0<=c/\c<(f.length:Int)then oB (f[c.toNat]?) fun Q=>(oB (k_cmp_Less_67_m N K Q) fun z=>bif z then if fits (c-1)then L (f,n,b,(c-1))else none else bif decide (c<b)then some (b,f)else if 0<=c/\c<(f.length:Int)then oB (f[c.toNat]?) fun w=>(if 0<=b/\b<(f.length:Int)then oB (f[b.toNat]?) fun I=>(if 0<=b/\b<(f.length:Int)then oB (f[b.toNat]?) fun ah=>(if 0<=c/\c<((f.set b.toNat w).length:Int)then oB ((f.set b.toNat w)[c.toNat]?) fun af=>(if fits (b+1)then if fits (c-1)then q (((f.set b.toNat w).set c.toNat I),n,(b+1),(c-1))else none else none)else none)else none)else none)else none)else none)else none else bif decide (c<b)then some (b,f)else if 0<=c/\c<(f.length:Int)then oB (f[c.toNat]?) fun x=>(if 0<=b/\b<(f.length:Int)then oB (f[b.toNat]?) fun X=>(if 0<=b/\b<(f.length:Int)then oB (f[b.toNat]?) fun aa=>(if 0<=c/\c<((f.set b.toNat x).length:Int)then oB ((f.set b.toNat x)[c.toNat]?) fun aj=>(if fits (b+1)then if fits (c-1)then q (((f.set b.toNat x).set c.toNat X),n,(b+1),(c-1))else none else none)else none)else none)else none)else none) N (l,p,j,r))else none)else none else iter (fun E (e,o,a,d)=>bif decide (a<=d)then if 0<=o/\o<(e.length:Int)then oB (e[o.toNat]?) fun P=>(if 0<=d/\d<(e.length:Int)then oB (e[d.toNat]?) fun H=>(oB (k_cmp_Less_67_m N P H) fun S=>bif S then if fits (d-1)then E (e,o,a,(d-1))else none else bif decide (d<a)then some (a,e)else if 0<=d/\d<(e.length:Int)then oB (e[d.toNat]?) fun u=>(if 0<=a/\a<(e.length:Int)then oB (e[a.toNat]?) fun O=>(if 0<=a/\a<(e.length:Int)then oB (e[a.toNat]?) fun ac=>(if 0<=d/\d<((e.set a.toNat u).length:Int)then oB ((e.set a.toNat u)[d.toNat]?) fun ad=>(if fits (a+1)then if fits (d-1)then q (((e.set a.toNat u).set d.toNat O),o,(a+1),(d-1))else none else none)else none)else none)else none)else none)else none)else none else bif decide (d<a)then some (a,e)else if 0<=d/\d<(e.length:Int)then oB (e[d.toNat]?) fun t=>(if 0<=a/\a<(e.length:Int)then oB (e[a.toNat]?) fun C=>(if 0<=a/\a<(e.length:Int)then oB (e[a.toNat]?) fun ab=>(if 0<=d/\d<((e.set a.toNat t).length:Int)then oB ((e.set a.toNat t)[d.toNat]?) fun ai=>(if fits (a+1)then if fits (d-1)then q (((e.set a.toNat t).set d.toNat C),o,(a+1),(d-1))else none else none)else none)else none)else none)else none) N (l,p,j,r)) N (G,U,W,B)) N (((i.set h.toNat v).set m.toNat D),h,(h+1),(y-1))else none else none)else none)else none)else none)else none)
theorem jMs :mK 230 (bX [.mtk 800000 tI 3 true,pI,pI,pI] [pI,.mtk 800000 tI 3 true] (c4A (jKu N))):=
 mO (fC (jA5 N) ja) func230 rfl N (.seq .no (.seq .no (.seq .no (.seq (.block (.loop jKf (.block (.seq (.block (.loop jKf .no)) (.seq (.block (.loop jKf .no)) .no))))) .no)))) _ (rs:=[800000])
def jJV :Sh:=⟨.mtk 800000 tI 3 true::pI::dz 8 (pI::pI::dz 156 []),[]⟩
def jKo (data:List Int) (a:Int) (b:Int) (pivot:Int):Option (Int×Bool×(List Int)):=
 (if 0<=pivot/\pivot<(data.length:Int)then oB (data[pivot.toNat]?) fun e=>(if 0<=a/\a<(data.length:Int)then oB (data[a.toNat]?) fun e2=>(if 0<=a/\a<(data.length:Int)then oB (data[a.toNat]?) fun e3=>(if 0<=pivot/\pivot<((data.set a.toNat e).length:Int)then oB ((data.set a.toNat e)[pivot.toNat]?) fun e4=>(if fits (a+1)then if fits (b-1)then iter (fun go (data2,a2,i,j)=>bif decide (i<=j)then if 0<=i/\i<(data2.length:Int)then oB (data2[i.toNat]?) fun e5=>(if 0<=a2/\a2<(data2.length:Int)then oB (data2[a2.toNat]?) fun e6=>(oB (k_cmp_Less_67_m N e5 e6) fun r=>bif r then if fits (i+1)then go (data2,a2,(i+1),j)else none else iter (fun go2 (data3,a3,i2,j2)=>bif decide (i2<=j2)then if 0<=j2/\j2<(data3.length:Int)then oB (data3[j2.toNat]?) fun e7=>(if 0<=a3/\a3<(data3.length:Int)then oB (data3[a3.toNat]?) fun e8=>(oB (k_cmp_Less_67_m N e7 e8) fun r2=>bif !r2 then if fits (j2-1)then go2 (data3,a3,i2,(j2-1))else none else bif decide (j2<i2)then if 0<=a3/\a3<(data3.length:Int)then oB (data3[a3.toNat]?) fun e9=>(if 0<=j2/\j2<(data3.length:Int)then oB (data3[j2.toNat]?) fun e10=>(if 0<=j2/\j2<(data3.length:Int)then oB (data3[j2.toNat]?) fun e11=>(if 0<=a3/\a3<((data3.set j2.toNat e9).length:Int)then oB ((data3.set j2.toNat e9)[a3.toNat]?) fun e12=>(some (j2,true,((data3.set j2.toNat e9).set a3.toNat e10)))else none)else none)else none)else none else if 0<=j2/\j2<(data3.length:Int)then oB (data3[j2.toNat]?) fun e13=>(if 0<=i2/\i2<(data3.length:Int)then oB (data3[i2.toNat]?) fun e14=>(if 0<=i2/\i2<(data3.length:Int)then oB (data3[i2.toNat]?) fun e15=>(if 0<=j2/\j2<((data3.set i2.toNat e13).length:Int)then oB ((data3.set i2.toNat e13)[j2.toNat]?) fun e16=>(if fits (i2+1)then if fits (j2-1)then iter (fun go3 (data4,a4,i3,j3)=>iter (fun go4 (data5,a5,i4,j4)=>bif decide (i4<=j4)then if 0<=i4/\i4<(data5.length:Int)then oB (data5[i4.toNat]?) fun e17=>(if 0<=a5/\a5<(data5.length:Int)then oB (data5[a5.toNat]?) fun e18=>(oB (k_cmp_Less_67_m N e17 e18) fun r3=>bif r3 then if fits (i4+1)then go4 (data5,a5,(i4+1),j4)else none else iter (fun go5 (data6,a6,i5,j5)=>bif decide (i5<=j5)then if 0<=j5/\j5<(data6.length:Int)then oB (data6[j5.toNat]?) fun e19=>(if 0<=a6/\a6<(data6.length:Int)then oB (data6[a6.toNat]?) fun e20=>(oB (k_cmp_Less_67_m N e19 e20) fun r4=>bif !r4 then if fits (j5-1)then go5 (data6,a6,i5,(j5-1))else none else bif decide (j5<i5)then if 0<=a6/\a6<(data6.length:Int)then oB (data6[a6.toNat]?) fun e21=>(if 0<=j5/\j5<(data6.length:Int)then oB (data6[j5.toNat]?) fun e22=>(if 0<=j5/\j5<(data6.length:Int)then oB (data6[j5.toNat]?) fun e23=>(if 0<=a6/\a6<((data6.set j5.toNat e21).length:Int)then oB ((data6.set j5.toNat e21)[a6.toNat]?) fun e24=>(some (j5,false,((data6.set j5.toNat e21).set a6.toNat e22)))else none)else none)else none)else none else if 0<=j5/\j5<(data6.length:Int)then oB (data6[j5.toNat]?) fun e25=>(if 0<=i5/\i5<(data6.length:Int)then oB (data6[i5.toNat]?) fun e26=>(if 0<=i5/\i5<(data6.length:Int)then oB (data6[i5.toNat]?) fun e27=>(if 0<=j5/\j5<((data6.set i5.toNat e25).length:Int)then oB ((data6.set i5.toNat e25)[j5.toNat]?) fun e28=>(if fits (i5+1)then if fits (j5-1)then go3 (((data6.set i5.toNat e25).set j5.toNat e26),a6,(i5+1),(j5-1))else none else none)else none)else none)else none)else none)else none)else none else bif decide (j5<i5)then if 0<=a6/\a6<(data6.length:Int)then oB (data6[a6.toNat]?) fun e29=>(if 0<=j5/\j5<(data6.length:Int)then oB (data6[j5.toNat]?) fun e30=>(if 0<=j5/\j5<(data6.length:Int)then oB (data6[j5.toNat]?) fun e31=>(if 0<=a6/\a6<((data6.set j5.toNat e29).length:Int)then oB ((data6.set j5.toNat e29)[a6.toNat]?) fun e32=>(some (j5,false,((data6.set j5.toNat e29).set a6.toNat e30)))else none)else none)else none)else none else if 0<=j5/\j5<(data6.length:Int)then oB (data6[j5.toNat]?) fun e33=>(if 0<=i5/\i5<(data6.length:Int)then oB (data6[i5.toNat]?) fun e34=>(if 0<=i5/\i5<(data6.length:Int)then oB (data6[i5.toNat]?) fun e35=>(if 0<=j5/\j5<((data6.set i5.toNat e33).length:Int)then oB ((data6.set i5.toNat e33)[j5.toNat]?) fun e36=>(if fits (i5+1)then if fits (j5-1)then go3 (((data6.set i5.toNat e33).set j5.toNat e34),a6,(i5+1),(j5-1))else none else none)else none)else none)else none)else none) N (data5,a5,i4,j4))else none)else none else iter (fun go6 (data7,a7,i6,j6)=>bif decide (i6<=j6)then if 0<=j6/\j6<(data7.length:Int)then oB (data7[j6.toNat]?) fun e37=>(if 0<=a7/\a7<(data7.length:Int)then oB (data7[a7.toNat]?) fun e38=>(oB (k_cmp_Less_67_m N e37 e38) fun r5=>bif !r5 then if fits (j6-1)then go6 (data7,a7,i6,(j6-1))else none else bif decide (j6<i6)then if 0<=a7/\a7<(data7.length:Int)then oB (data7[a7.toNat]?) fun e39=>(if 0<=j6/\j6<(data7.length:Int)then oB (data7[j6.toNat]?) fun e40=>(if 0<=j6/\j6<(data7.length:Int)then oB (data7[j6.toNat]?) fun e41=>(if 0<=a7/\a7<((data7.set j6.toNat e39).length:Int)then oB ((data7.set j6.toNat e39)[a7.toNat]?) fun e42=>(some (j6,false,((data7.set j6.toNat e39).set a7.toNat e40)))else none)else none)else none)else none else if 0<=j6/\j6<(data7.length:Int)then oB (data7[j6.toNat]?) fun e43=>(if 0<=i6/\i6<(data7.length:Int)then oB (data7[i6.toNat]?) fun e44=>(if 0<=i6/\i6<(data7.length:Int)then oB (data7[i6.toNat]?) fun e45=>(if 0<=j6/\j6<((data7.set i6.toNat e43).length:Int)then oB ((data7.set i6.toNat e43)[j6.toNat]?) fun e46=>(if fits (i6+1)then if fits (j6-1)then go3 (((data7.set i6.toNat e43).set j6.toNat e44),a7,(i6+1),(j6-1))else none else none)else none)else none)else none)else none)else none)else none else bif decide (j6<i6)then if 0<=a7/\a7<(data7.length:Int)then oB (data7[a7.toNat]?) fun e47=>(if 0<=j6/\j6<(data7.length:Int)then oB (data7[j6.toNat]?) fun e48=>(if 0<=j6/\j6<(data7.length:Int)then oB (data7[j6.toNat]?) fun e49=>(if 0<=a7/\a7<((data7.set j6.toNat e47).length:Int)then oB ((data7.set j6.toNat e47)[a7.toNat]?) fun e50=>(some (j6,false,((data7.set j6.toNat e47).set a7.toNat e48)))else none)else none)else none)else none else if 0<=j6/\j6<(data7.length:Int)then oB (data7[j6.toNat]?) fun e51=>(if 0<=i6/\i6<(data7.length:Int)then oB (data7[i6.toNat]?) fun e52=>(if 0<=i6/\i6<(data7.length:Int)then oB (data7[i6.toNat]?) fun e53=>(if 0<=j6/\j6<((data7.set i6.toNat e51).length:Int)then oB ((data7.set i6.toNat e51)[j6.toNat]?) fun e54=>(if fits (i6+1)then if fits (j6-1)then go3 (((data7.set i6.toNat e51).set j6.toNat e52),a7,(i6+1),(j6-1))else none else none)else none)else none)else none)else none) N (data5,a5,i4,j4)) N (data4,a4,i3,j3)) N (((data3.set i2.toNat e13).set j2.toNat e14),a3,(i2+1),(j2-1))else none else none)else none)else none)else none)else none)else none)else none else bif decide (j2<i2)then if 0<=a3/\a3<(data3.length:Int)then oB (data3[a3.toNat]?) fun e55=>(if 0<=j2/\j2<(data3.length:Int)then oB (data3[j2.toNat]?) fun e56=>(if 0<=j2/\j2<(data3.length:Int)then oB (data3[j2.toNat]?) fun e57=>(if 0<=a3/\a3<((data3.set j2.toNat e55).length:Int)then oB ((data3.set j2.toNat e55)[a3.toNat]?) fun e58=>(some (j2,true,((data3.set j2.toNat e55).set a3.toNat e56)))else none)else none)else none)else none else if 0<=j2/\j2<(data3.length:Int)then oB (data3[j2.toNat]?) fun e59=>(if 0<=i2/\i2<(data3.length:Int)then oB (data3[i2.toNat]?) fun e60=>(if 0<=i2/\i2<(data3.length:Int)then oB (data3[i2.toNat]?) fun e61=>(if 0<=j2/\j2<((data3.set i2.toNat e59).length:Int)then oB ((data3.set i2.toNat e59)[j2.toNat]?) fun e62=>(if fits (i2+1)then if fits (j2-1)then iter (fun go7 (data8,a8,i7,j7)=>iter (fun go8 (data9,a9,i8,j8)=>bif decide (i8<=j8)then if 0<=i8/\i8<(data9.length:Int)then oB (data9[i8.toNat]?) fun e63=>(if 0<=a9/\a9<(data9.length:Int)then oB (data9[a9.toNat]?) fun e64=>(oB (k_cmp_Less_67_m N e63 e64) fun r6=>bif r6 then if fits (i8+1)then go8 (data9,a9,(i8+1),j8)else none else iter (fun go9 (data10,a10,i9,j9)=>bif decide (i9<=j9)then if 0<=j9/\j9<(data10.length:Int)then oB (data10[j9.toNat]?) fun e65=>(if 0<=a10/\a10<(data10.length:Int)then oB (data10[a10.toNat]?) fun e66=>(oB (k_cmp_Less_67_m N e65 e66) fun r7=>bif !r7 then if fits (j9-1)then go9 (data10,a10,i9,(j9-1))else none else bif decide (j9<i9)then if 0<=a10/\a10<(data10.length:Int)then oB (data10[a10.toNat]?) fun e67=>(if 0<=j9/\j9<(data10.length:Int)then oB (data10[j9.toNat]?) fun e68=>(if 0<=j9/\j9<(data10.length:Int)then oB (data10[j9.toNat]?) fun e69=>(if 0<=a10/\a10<((data10.set j9.toNat e67).length:Int)then oB ((data10.set j9.toNat e67)[a10.toNat]?) fun e70=>(some (j9,false,((data10.set j9.toNat e67).set a10.toNat e68)))else none)else none)else none)else none else if 0<=j9/\j9<(data10.length:Int)then oB (data10[j9.toNat]?) fun e71=>(if 0<=i9/\i9<(data10.length:Int)then oB (data10[i9.toNat]?) fun e72=>(if 0<=i9/\i9<(data10.length:Int)then oB (data10[i9.toNat]?) fun e73=>(if 0<=j9/\j9<((data10.set i9.toNat e71).length:Int)then oB ((data10.set i9.toNat e71)[j9.toNat]?) fun e74=>(if fits (i9+1)then if fits (j9-1)then go7 (((data10.set i9.toNat e71).set j9.toNat e72),a10,(i9+1),(j9-1))else none else none)else none)else none)else none)else none)else none)else none else bif decide (j9<i9)then if 0<=a10/\a10<(data10.length:Int)then oB (data10[a10.toNat]?) fun e75=>(if 0<=j9/\j9<(data10.length:Int)then oB (data10[j9.toNat]?) fun e76=>(if 0<=j9/\j9<(data10.length:Int)then oB (data10[j9.toNat]?) fun e77=>(if 0<=a10/\a10<((data10.set j9.toNat e75).length:Int)then oB ((data10.set j9.toNat e75)[a10.toNat]?) fun e78=>(some (j9,false,((data10.set j9.toNat e75).set a10.toNat e76)))else none)else none)else none)else none else if 0<=j9/\j9<(data10.length:Int)then oB (data10[j9.toNat]?) fun e79=>(if 0<=i9/\i9<(data10.length:Int)then oB (data10[i9.toNat]?) fun e80=>(if 0<=i9/\i9<(data10.length:Int)then oB (data10[i9.toNat]?) fun e81=>(if 0<=j9/\j9<((data10.set i9.toNat e79).length:Int)then oB ((data10.set i9.toNat e79)[j9.toNat]?) fun e82=>(if fits (i9+1)then if fits (j9-1)then go7 (((data10.set i9.toNat e79).set j9.toNat e80),a10,(i9+1),(j9-1))else none else none)else none)else none)else none)else none) N (data9,a9,i8,j8))else none)else none else iter (fun go10 (data11,a11,i10,j10)=>bif decide (i10<=j10)then if 0<=j10/\j10<(data11.length:Int)then oB (data11[j10.toNat]?) fun e83=>(if 0<=a11/\a11<(data11.length:Int)then oB (data11[a11.toNat]?) fun e84=>(oB (k_cmp_Less_67_m N e83 e84) fun r8=>bif !r8 then if fits (j10-1)then go10 (data11,a11,i10,(j10-1))else none else bif decide (j10<i10)then if 0<=a11/\a11<(data11.length:Int)then oB (data11[a11.toNat]?) fun e85=>(if 0<=j10/\j10<(data11.length:Int)then oB (data11[j10.toNat]?) fun e86=>(if 0<=j10/\j10<(data11.length:Int)then oB (data11[j10.toNat]?) fun e87=>(if 0<=a11/\a11<((data11.set j10.toNat e85).length:Int)then oB ((data11.set j10.toNat e85)[a11.toNat]?) fun e88=>(some (j10,false,((data11.set j10.toNat e85).set a11.toNat e86)))else none)else none)else none)else none else if 0<=j10/\j10<(data11.length:Int)then oB (data11[j10.toNat]?) fun e89=>(if 0<=i10/\i10<(data11.length:Int)then oB (data11[i10.toNat]?) fun e90=>(if 0<=i10/\i10<(data11.length:Int)then oB (data11[i10.toNat]?) fun e91=>(if 0<=j10/\j10<((data11.set i10.toNat e89).length:Int)then oB ((data11.set i10.toNat e89)[j10.toNat]?) fun e92=>(if fits (i10+1)then if fits (j10-1)then go7 (((data11.set i10.toNat e89).set j10.toNat e90),a11,(i10+1),(j10-1))else none else none)else none)else none)else none)else none)else none)else none else bif decide (j10<i10)then if 0<=a11/\a11<(data11.length:Int)then oB (data11[a11.toNat]?) fun e93=>(if 0<=j10/\j10<(data11.length:Int)then oB (data11[j10.toNat]?) fun e94=>(if 0<=j10/\j10<(data11.length:Int)then oB (data11[j10.toNat]?) fun e95=>(if 0<=a11/\a11<((data11.set j10.toNat e93).length:Int)then oB ((data11.set j10.toNat e93)[a11.toNat]?) fun e96=>(some (j10,false,((data11.set j10.toNat e93).set a11.toNat e94)))else none)else none)else none)else none else if 0<=j10/\j10<(data11.length:Int)then oB (data11[j10.toNat]?) fun e97=>(if 0<=i10/\i10<(data11.length:Int)then oB (data11[i10.toNat]?) fun e98=>(if 0<=i10/\i10<(data11.length:Int)then oB (data11[i10.toNat]?) fun e99=>(if 0<=j10/\j10<((data11.set i10.toNat e97).length:Int)then oB ((data11.set i10.toNat e97)[j10.toNat]?) fun e100=>(if fits (i10+1)then if fits (j10-1)then go7 (((data11.set i10.toNat e97).set j10.toNat e98),a11,(i10+1),(j10-1))else none else none)else none)else none)else none)else none) N (data9,a9,i8,j8)) N (data8,a8,i7,j7)) N (((data3.set i2.toNat e59).set j2.toNat e60),a3,(i2+1),(j2-1))else none else none)else none)else none)else none)else none) N (data2,a2,i,j))else none)else none else iter (fun go11 (data12,a12,i11,j11)=>bif decide (i11<=j11)then if 0<=j11/\j11<(data12.length:Int)then oB (data12[j11.toNat]?) fun e101=>(if 0<=a12/\a12<(data12.length:Int)then oB (data12[a12.toNat]?) fun e102=>(oB (k_cmp_Less_67_m N e101 e102) fun r9=>bif !r9 then if fits (j11-1)then go11 (data12,a12,i11,(j11-1))else none else bif decide (j11<i11)then if 0<=a12/\a12<(data12.length:Int)then oB (data12[a12.toNat]?) fun e103=>(if 0<=j11/\j11<(data12.length:Int)then oB (data12[j11.toNat]?) fun e104=>(if 0<=j11/\j11<(data12.length:Int)then oB (data12[j11.toNat]?) fun e105=>(if 0<=a12/\a12<((data12.set j11.toNat e103).length:Int)then oB ((data12.set j11.toNat e103)[a12.toNat]?) fun e106=>(some (j11,true,((data12.set j11.toNat e103).set a12.toNat e104)))else none)else none)else none)else none else if 0<=j11/\j11<(data12.length:Int)then oB (data12[j11.toNat]?) fun e107=>(if 0<=i11/\i11<(data12.length:Int)then oB (data12[i11.toNat]?) fun e108=>(if 0<=i11/\i11<(data12.length:Int)then oB (data12[i11.toNat]?) fun e109=>(if 0<=j11/\j11<((data12.set i11.toNat e107).length:Int)then oB ((data12.set i11.toNat e107)[j11.toNat]?) fun e110=>(if fits (i11+1)then if fits (j11-1)then iter (fun go12 (data13,a13,i12,j12)=>iter (fun go13 (data14,a14,i13,j13)=>bif decide (i13<=j13)then if 0<=i13/\i13<(data14.length:Int)then oB (data14[i13.toNat]?) fun e111=>(if 0<=a14/\a14<(data14.length:Int)then oB (data14[a14.toNat]?) fun e112=>(oB (k_cmp_Less_67_m N e111 e112) fun r10=>bif r10 then if fits (i13+1)then go13 (data14,a14,(i13+1),j13)else none else iter (fun go14 (data15,a15,i14,j14)=>bif decide (i14<=j14)then if 0<=j14/\j14<(data15.length:Int)then oB (data15[j14.toNat]?) fun e113=>(if 0<=a15/\a15<(data15.length:Int)then oB (data15[a15.toNat]?) fun e114=>(oB (k_cmp_Less_67_m N e113 e114) fun r11=>bif !r11 then if fits (j14-1)then go14 (data15,a15,i14,(j14-1))else none else bif decide (j14<i14)then if 0<=a15/\a15<(data15.length:Int)then oB (data15[a15.toNat]?) fun e115=>(if 0<=j14/\j14<(data15.length:Int)then oB (data15[j14.toNat]?) fun e116=>(if 0<=j14/\j14<(data15.length:Int)then oB (data15[j14.toNat]?) fun e117=>(if 0<=a15/\a15<((data15.set j14.toNat e115).length:Int)then oB ((data15.set j14.toNat e115)[a15.toNat]?) fun e118=>(some (j14,false,((data15.set j14.toNat e115).set a15.toNat e116)))else none)else none)else none)else none else if 0<=j14/\j14<(data15.length:Int)then oB (data15[j14.toNat]?) fun e119=>(if 0<=i14/\i14<(data15.length:Int)then oB (data15[i14.toNat]?) fun e120=>(if 0<=i14/\i14<(data15.length:Int)then oB (data15[i14.toNat]?) fun e121=>(if 0<=j14/\j14<((data15.set i14.toNat e119).length:Int)then oB ((data15.set i14.toNat e119)[j14.toNat]?) fun e122=>(if fits (i14+1)then if fits (j14-1)then go12 (((data15.set i14.toNat e119).set j14.toNat e120),a15,(i14+1),(j14-1))else none else none)else none)else none)else none)else none)else none)else none else bif decide (j14<i14)then if 0<=a15/\a15<(data15.length:Int)then oB (data15[a15.toNat]?) fun e123=>(if 0<=j14/\j14<(data15.length:Int)then oB (data15[j14.toNat]?) fun e124=>(if 0<=j14/\j14<(data15.length:Int)then oB (data15[j14.toNat]?) fun e125=>(if 0<=a15/\a15<((data15.set j14.toNat e123).length:Int)then oB ((data15.set j14.toNat e123)[a15.toNat]?) fun e126=>(some (j14,false,((data15.set j14.toNat e123).set a15.toNat e124)))else none)else none)else none)else none else if 0<=j14/\j14<(data15.length:Int)then oB (data15[j14.toNat]?) fun e127=>(if 0<=i14/\i14<(data15.length:Int)then oB (data15[i14.toNat]?) fun e128=>(if 0<=i14/\i14<(data15.length:Int)then oB (data15[i14.toNat]?) fun e129=>(if 0<=j14/\j14<((data15.set i14.toNat e127).length:Int)then oB ((data15.set i14.toNat e127)[j14.toNat]?) fun e130=>(if fits (i14+1)then if fits (j14-1)then go12 (((data15.set i14.toNat e127).set j14.toNat e128),a15,(i14+1),(j14-1))else none else none)else none)else none)else none)else none) N (data14,a14,i13,j13))else none)else none else iter (fun go15 (data16,a16,i15,j15)=>bif decide (i15<=j15)then if 0<=j15/\j15<(data16.length:Int)then oB (data16[j15.toNat]?) fun e131=>(if 0<=a16/\a16<(data16.length:Int)then oB (data16[a16.toNat]?) fun e132=>(oB (k_cmp_Less_67_m N e131 e132) fun r12=>bif !r12 then if fits (j15-1)then go15 (data16,a16,i15,(j15-1))else none else bif decide (j15<i15)then if 0<=a16/\a16<(data16.length:Int)then oB (data16[a16.toNat]?) fun e133=>(if 0<=j15/\j15<(data16.length:Int)then oB (data16[j15.toNat]?) fun e134=>(if 0<=j15/\j15<(data16.length:Int)then oB (data16[j15.toNat]?) fun e135=>(if 0<=a16/\a16<((data16.set j15.toNat e133).length:Int)then oB ((data16.set j15.toNat e133)[a16.toNat]?) fun e136=>(some (j15,false,((data16.set j15.toNat e133).set a16.toNat e134)))else none)else none)else none)else none else if 0<=j15/\j15<(data16.length:Int)then oB (data16[j15.toNat]?) fun e137=>(if 0<=i15/\i15<(data16.length:Int)then oB (data16[i15.toNat]?) fun e138=>(if 0<=i15/\i15<(data16.length:Int)then oB (data16[i15.toNat]?) fun e139=>(if 0<=j15/\j15<((data16.set i15.toNat e137).length:Int)then oB ((data16.set i15.toNat e137)[j15.toNat]?) fun e140=>(if fits (i15+1)then if fits (j15-1)then go12 (((data16.set i15.toNat e137).set j15.toNat e138),a16,(i15+1),(j15-1))else none else none)else none)else none)else none)else none)else none)else none else bif decide (j15<i15)then if 0<=a16/\a16<(data16.length:Int)then oB (data16[a16.toNat]?) fun e141=>(if 0<=j15/\j15<(data16.length:Int)then oB (data16[j15.toNat]?) fun e142=>(if 0<=j15/\j15<(data16.length:Int)then oB (data16[j15.toNat]?) fun e143=>(if 0<=a16/\a16<((data16.set j15.toNat e141).length:Int)then oB ((data16.set j15.toNat e141)[a16.toNat]?) fun e144=>(some (j15,false,((data16.set j15.toNat e141).set a16.toNat e142)))else none)else none)else none)else none else if 0<=j15/\j15<(data16.length:Int)then oB (data16[j15.toNat]?) fun e145=>(if 0<=i15/\i15<(data16.length:Int)then oB (data16[i15.toNat]?) fun e146=>(if 0<=i15/\i15<(data16.length:Int)then oB (data16[i15.toNat]?) fun e147=>(if 0<=j15/\j15<((data16.set i15.toNat e145).length:Int)then oB ((data16.set i15.toNat e145)[j15.toNat]?) fun e148=>(if fits (i15+1)then if fits (j15-1)then go12 (((data16.set i15.toNat e145).set j15.toNat e146),a16,(i15+1),(j15-1))else none else none)else none)else none)else none)else none) N (data14,a14,i13,j13)) N (data13,a13,i12,j12)) N (((data12.set i11.toNat e107).set j11.toNat e108),a12,(i11+1),(j11-1))else none else none)else none)else none)else none)else none)else none)else none else bif decide (j11<i11)then if 0<=a12/\a12<(data12.length:Int)then oB (data12[a12.toNat]?) fun e149=>(if 0<=j11/\j11<(data12.length:Int)then oB (data12[j11.toNat]?) fun e150=>(if 0<=j11/\j11<(data12.length:Int)then oB (data12[j11.toNat]?) fun e151=>(if 0<=a12/\a12<((data12.set j11.toNat e149).length:Int)then oB ((data12.set j11.toNat e149)[a12.toNat]?) fun e152=>(some (j11,true,((data12.set j11.toNat e149).set a12.toNat e150)))else none)else none)else none)else none else if 0<=j11/\j11<(data12.length:Int)then oB (data12[j11.toNat]?) fun e153=>(if 0<=i11/\i11<(data12.length:Int)then oB (data12[i11.toNat]?) fun e154=>(if 0<=i11/\i11<(data12.length:Int)then oB (data12[i11.toNat]?) fun e155=>(if 0<=j11/\j11<((data12.set i11.toNat e153).length:Int)then oB ((data12.set i11.toNat e153)[j11.toNat]?) fun e156=>(if fits (i11+1)then if fits (j11-1)then iter (fun go16 (data17,a17,i16,j16)=>iter (fun go17 (data18,a18,i17,j17)=>bif decide (i17<=j17)then if 0<=i17/\i17<(data18.length:Int)then oB (data18[i17.toNat]?) fun e157=>(if 0<=a18/\a18<(data18.length:Int)then oB (data18[a18.toNat]?) fun e158=>(oB (k_cmp_Less_67_m N e157 e158) fun r13=>bif r13 then if fits (i17+1)then go17 (data18,a18,(i17+1),j17)else none else iter (fun go18 (data19,a19,i18,j18)=>bif decide (i18<=j18)then if 0<=j18/\j18<(data19.length:Int)then oB (data19[j18.toNat]?) fun e159=>(if 0<=a19/\a19<(data19.length:Int)then oB (data19[a19.toNat]?) fun e160=>(oB (k_cmp_Less_67_m N e159 e160) fun r14=>bif !r14 then if fits (j18-1)then go18 (data19,a19,i18,(j18-1))else none else bif decide (j18<i18)then if 0<=a19/\a19<(data19.length:Int)then oB (data19[a19.toNat]?) fun e161=>(if 0<=j18/\j18<(data19.length:Int)then oB (data19[j18.toNat]?) fun e162=>(if 0<=j18/\j18<(data19.length:Int)then oB (data19[j18.toNat]?) fun e163=>(if 0<=a19/\a19<((data19.set j18.toNat e161).length:Int)then oB ((data19.set j18.toNat e161)[a19.toNat]?) fun e164=>(some (j18,false,((data19.set j18.toNat e161).set a19.toNat e162)))else none)else none)else none)else none else if 0<=j18/\j18<(data19.length:Int)then oB (data19[j18.toNat]?) fun e165=>(if 0<=i18/\i18<(data19.length:Int)then oB (data19[i18.toNat]?) fun e166=>(if 0<=i18/\i18<(data19.length:Int)then oB (data19[i18.toNat]?) fun e167=>(if 0<=j18/\j18<((data19.set i18.toNat e165).length:Int)then oB ((data19.set i18.toNat e165)[j18.toNat]?) fun e168=>(if fits (i18+1)then if fits (j18-1)then go16 (((data19.set i18.toNat e165).set j18.toNat e166),a19,(i18+1),(j18-1))else none else none)else none)else none)else none)else none)else none)else none else bif decide (j18<i18)then if 0<=a19/\a19<(data19.length:Int)then oB (data19[a19.toNat]?) fun e169=>(if 0<=j18/\j18<(data19.length:Int)then oB (data19[j18.toNat]?) fun e170=>(if 0<=j18/\j18<(data19.length:Int)then oB (data19[j18.toNat]?) fun e171=>(if 0<=a19/\a19<((data19.set j18.toNat e169).length:Int)then oB ((data19.set j18.toNat e169)[a19.toNat]?) fun e172=>(some (j18,false,((data19.set j18.toNat e169).set a19.toNat e170)))else none)else none)else none)else none else if 0<=j18/\j18<(data19.length:Int)then oB (data19[j18.toNat]?) fun e173=>(if 0<=i18/\i18<(data19.length:Int)then oB (data19[i18.toNat]?) fun e174=>(if 0<=i18/\i18<(data19.length:Int)then oB (data19[i18.toNat]?) fun e175=>(if 0<=j18/\j18<((data19.set i18.toNat e173).length:Int)then oB ((data19.set i18.toNat e173)[j18.toNat]?) fun e176=>(if fits (i18+1)then if fits (j18-1)then go16 (((data19.set i18.toNat e173).set j18.toNat e174),a19,(i18+1),(j18-1))else none else none)else none)else none)else none)else none) N (data18,a18,i17,j17))else none)else none else iter (fun go19 (data20,a20,i19,j19)=>bif decide (i19<=j19)then if 0<=j19/\j19<(data20.length:Int)then oB (data20[j19.toNat]?) fun e177=>(if 0<=a20/\a20<(data20.length:Int)then oB (data20[a20.toNat]?) fun e178=>(oB (k_cmp_Less_67_m N e177 e178) fun r15=>bif !r15 then if fits (j19-1)then go19 (data20,a20,i19,(j19-1))else none else bif decide (j19<i19)then if 0<=a20/\a20<(data20.length:Int)then oB (data20[a20.toNat]?) fun e179=>(if 0<=j19/\j19<(data20.length:Int)then oB (data20[j19.toNat]?) fun e180=>(if 0<=j19/\j19<(data20.length:Int)then oB (data20[j19.toNat]?) fun e181=>(if 0<=a20/\a20<((data20.set j19.toNat e179).length:Int)then oB ((data20.set j19.toNat e179)[a20.toNat]?) fun e182=>(some (j19,false,((data20.set j19.toNat e179).set a20.toNat e180)))else none)else none)else none)else none else if 0<=j19/\j19<(data20.length:Int)then oB (data20[j19.toNat]?) fun e183=>(if 0<=i19/\i19<(data20.length:Int)then oB (data20[i19.toNat]?) fun e184=>(if 0<=i19/\i19<(data20.length:Int)then oB (data20[i19.toNat]?) fun e185=>(if 0<=j19/\j19<((data20.set i19.toNat e183).length:Int)then oB ((data20.set i19.toNat e183)[j19.toNat]?) fun e186=>(if fits (i19+1)then if fits (j19-1)then go16 (((data20.set i19.toNat e183).set j19.toNat e184),a20,(i19+1),(j19-1))else none else none)else none)else none)else none)else none)else none)else none else bif decide (j19<i19)then if 0<=a20/\a20<(data20.length:Int)then oB (data20[a20.toNat]?) fun e187=>(if 0<=j19/\j19<(data20.length:Int)then oB (data20[j19.toNat]?) fun e188=>(if 0<=j19/\j19<(data20.length:Int)then oB (data20[j19.toNat]?) fun e189=>(if 0<=a20/\a20<((data20.set j19.toNat e187).length:Int)then oB ((data20.set j19.toNat e187)[a20.toNat]?) fun e190=>(some (j19,false,((data20.set j19.toNat e187).set a20.toNat e188)))else none)else none)else none)else none else if 0<=j19/\j19<(data20.length:Int)then oB (data20[j19.toNat]?) fun e191=>(if 0<=i19/\i19<(data20.length:Int)then oB (data20[i19.toNat]?) fun e192=>(if 0<=i19/\i19<(data20.length:Int)then oB (data20[i19.toNat]?) fun e193=>(if 0<=j19/\j19<((data20.set i19.toNat e191).length:Int)then oB ((data20.set i19.toNat e191)[j19.toNat]?) fun e194=>(if fits (i19+1)then if fits (j19-1)then go16 (((data20.set i19.toNat e191).set j19.toNat e192),a20,(i19+1),(j19-1))else none else none)else none)else none)else none)else none) N (data18,a18,i17,j17)) N (data17,a17,i16,j16)) N (((data12.set i11.toNat e153).set j11.toNat e154),a12,(i11+1),(j11-1))else none else none)else none)else none)else none)else none) N (data2,a2,i,j)) N (((data.set a.toNat e).set pivot.toNat e2),a,(a+1),(b-1))else none else none)else none)else none)else none)else none)
theorem jL5 :mK 231 (bX [.mtk 800000 tI 3 true,pI,pI,pI] [.tup [pI,pB],.mtk 800000 tI 3 true] (c4A (jKo N))):=
 mO (fC (jA5 N) ja) func231 rfl N (.seq .no (.seq .no (.seq .no (.seq (.block (.loop jJV .no)) (.seq (.block (.loop jJV .no)) (.seq .no (.seq .no (.seq .no (.seq .no (.seq (.block (.loop jJV (.block (.seq (.block (.loop jJV .no)) (.seq (.block (.loop jJV .no)) .no))))) .no)))))))))) _ (rs:=[800000])
def jM4 :Sh:=⟨.mtk 800000 tI 3 true::pI::pI::pI::dz 4 (pB::pB::dz 124 []),[]⟩
def jLX :Sh:=⟨.mtk 800000 tI 3 true::pI::pI::pI::dz 4 (pB::pB::pI::pI::dz 122 []),[]⟩
def jK8 :Sh:=⟨.mtk 800000 tI 3 true::pI::pI::pI::dz 4 (pB::pB::pI::pI::pI::dz 121 []),[]⟩
def jLk :Sh:=⟨.mtk 800000 tI 3 true::pI::pI::pI::dz 4 (pB::pB::pI::dz 123 []),[]⟩
def k_slices_pdqsortOrdered_440_m (N:Nat):(D:Nat)->(List Int)->Int->Int->Int->Z19
 |0,_,_,_,_=>none
 |D+1,data,a,b,limit=>
 iter (fun go (g:(List Int)×Int×Int×Int×Bool×Bool)=>
 match g with
 |(data2,a2,b2,limit2,wasBalanced,wasPartitioned)=>
 if fits (b2-a2)then bif decide ((b2-a2)<=12)then
 oB (jKD N data2 a2 b2) fun r=>
 (some r)
 else
 (bif decide (limit2=0)then
 oB (jKw N data2 a2 b2) fun r2=>
 (some r2)
 else
 meet (fun(g:(List Int)×Int×Int×Int×Bool×Bool×Int)=>
 match g with
 |(data3,a3,b3,limit3,wasBalanced2,wasPartitioned2,length)=>
 oB (jKT N data3 a3 b3) fun r4=>
 meet (fun(g:(List Int)×Int×Int×Int×Bool×Bool×Int×Int×Int)=>
 match g with
 |(data4,a4,b4,limit4,wasBalanced3,wasPartitioned3,length2,pivot,hint)=>
 meet (fun(g:(List Int)×Int×Int×Int×Bool×Bool×Int×Int)=>
 match g with
 |(data5,a5,b5,limit5,wasBalanced4,wasPartitioned4,length3,pivot2)=>
 bif decide ((0:Int)<a5)then
 if fits (a5-1)then if 0<=(a5-1)/\(a5-1)<(data5.length:Int)then
 oB (data5[(a5-1).toNat]?) fun e=>
 (if 0<=pivot2/\pivot2<(data5.length:Int)then
 oB (data5[pivot2.toNat]?) fun e2=>
 (oB (k_cmp_Less_67_m N e e2) fun r7=>
 bif !r7 then
 oB (jKu N data5 a5 b5 pivot2) fun r8=>
 (go (r8.2,r8.1,b5,limit5,wasBalanced4,wasPartitioned4))
 else
 oB (jKo N data5 a5 b5 pivot2) fun r9=>
 if fits (r9.1-a5)then if fits (b5-r9.1)then if 8≠0 then
 if fits (length3.tdiv 8)then bif decide ((r9.1-a5)<(b5-r9.1))then
 oB (k_slices_pdqsortOrdered_440_m N D r9.2.2 a5 r9.1 limit5) fun r10=>
 (if fits (r9.1+1)then go (r10,(r9.1+1),b5,limit5,(decide ((length3.tdiv 8)<=(r9.1-a5))),r9.2.1)else none)
 else
 (if fits (r9.1+1)then oB (k_slices_pdqsortOrdered_440_m N D r9.2.2 (r9.1+1) b5 limit5) fun r11=>
 (go (r11,a5,r9.1,limit5,(decide ((length3.tdiv 8)<=(b5-r9.1))),r9.2.1))else none)else none
 else none else none else none)
 else none)
 else none else none
 else
 oB (jKo N data5 a5 b5 pivot2) fun r12=>
 if fits (r12.1-a5)then if fits (b5-r12.1)then if 8≠0 then
 if fits (length3.tdiv 8)then bif decide ((r12.1-a5)<(b5-r12.1))then
 oB (k_slices_pdqsortOrdered_440_m N D r12.2.2 a5 r12.1 limit5) fun r13=>
 (if fits (r12.1+1)then go (r13,(r12.1+1),b5,limit5,(decide ((length3.tdiv 8)<=(r12.1-a5))),r12.2.1)else none)
 else
 (if fits (r12.1+1)then oB (k_slices_pdqsortOrdered_440_m N D r12.2.2 (r12.1+1) b5 limit5) fun r14=>
 (go (r14,a5,r12.1,limit5,(decide ((length3.tdiv 8)<=(b5-r12.1))),r12.2.1))else none)else none
 else none else none else none) fun J3=>
 bif wasBalanced3 then
 bif wasPartitioned3 then
 bif decide (hint=1)then
 oB (jKt N data4 a4 b4) fun r6=>
 (bif r6.1 then
 some r6.2
 else
 J3 (r6.2,a4,b4,limit4,wasBalanced3,wasPartitioned3,length2,pivot))
 else
 (J3 (data4,a4,b4,limit4,wasBalanced3,wasPartitioned3,length2,pivot))
 else
 (J3 (data4,a4,b4,limit4,wasBalanced3,wasPartitioned3,length2,pivot))
 else
 J3 (data4,a4,b4,limit4,wasBalanced3,wasPartitioned3,length2,pivot)) fun J2=>
 bif decide (r4.2.1=2)then
 oB (jKC N r4.2.2 a3 b3) fun r5=>
 (if fits (b3-1)then if fits (r4.1-a3)then if fits ((b3-1)-(r4.1-a3))then J2 (r5,a3,b3,limit3,wasBalanced2,wasPartitioned2,length,((b3-1)-(r4.1-a3)),1)else none else none else none)
 else
 J2 (r4.2.2,a3,b3,limit3,wasBalanced2,wasPartitioned2,length,r4.1,r4.2.1)) fun J=>
 bif !wasBalanced then
 oB (jKH N data2 a2 b2) fun r3=>
 (if fits (limit2-1)then J (r3,a2,b2,(limit2-1),wasBalanced,wasPartitioned,(b2-a2))else none)
 else
 J (data2,a2,b2,limit2,wasBalanced,wasPartitioned,(b2-a2)))else none) N (data,a,b,limit,true,true)
def jJ9 (N D:Nat):Model:=⟨⟨[.mtk 800000 tI 3 true,pI,pI,pI],[]⟩,⟨[.tup [],.mtk 800000 tI 3 true],[]⟩,c4A (k_slices_pdqsortOrdered_440_m N D)⟩
theorem jK0 (N D:Nat) (ih:mK 169 (jJ9 N D)):mK 169 (jJ9 N (D+1)):=
 mO (fC ih (fC (jMr N) (fC (jLI N) (fC (jMF N) (fC (jMB N) (fC (jLn N) (fC (jMH N) (fC (jA5 N) (fC (jMs N) (fC (jL5 N) ja)))))))))) func169 rfl N (.seq .no (.seq .no (.block (.loop jM4 (.block (.seq .no (.seq .no (.seq .no (.meet jLk .no (.seq .no (.meet jK8 .no (.meet jLX .no .no)))))))))))) (jJ9 N (D+1)) (rs:=[800000])
theorem jKz (N:Nat):∀D,mK 169 (jJ9 N D)
 |0=>modelOk_none ⟨_,func169,by decide,by kernel_rfl⟩ _ (fun a=>rfl)
 |D+1=>jK0 N D (jKz N D)
def k_slices_Sort_287_m (a:List Int):Z19:=
 (oB (k_math_bits_Len_m N (IntKind.u64.wrap (a.length:Int))) fun c=>oB (k_slices_pdqsortOrdered_440_m N N a 0 (a.length:Int) c) fun b=>some b)
theorem jMQ :mK 106 (bX [.mtk 800000 tI 3 true] [.tup [],.mtk 800000 tI 3 true] (c1A (k_slices_Sort_287_m N))):=
 mO (fC (jda N) (fC (jKz N N) ja)) func106 rfl N .no _ (rs:=[800000])
def jMe :Sh:=⟨.box 900000 0:: .pv Y22::dz 3 (pI:: .own 600006 Y2 99 true::dz 8 (.trk 850002 Y2 99::pI::pI::dz 41 [])),[(900000,false,[.mtk 850000 .str 9 true,.tre 850001 Y19 117,.dead])]⟩
def jMV :Sh:=⟨.box 900000 0:: .pv Y22::dz 3 (pI:: .own 600006 Y2 99 true:: .dead:: .box 8 0::dz 6 (.trk 850002 Y2 99::pI::pI::dz 4 (.own 600022 Y5 51 false::pI::pI::dz 34 []))),[(8,false,[.own 700800 Y5 51 true,.own 700801 Y7 131 true,.mtk 700802 tI 3 true]),(900000,false,[.mtk 850000 .str 9 true,.tre 850001 Y19 117,.dead])]⟩
def jK6 :Sh:=⟨.box 900000 0:: .pv Y22::dz 3 (pI:: .own 600006 Y2 99 true:: .dead:: .box 8 0::dz 6 (.trk 850002 Y2 99::pI::pI::dz 30 (pB::dz 10 []))),[(8,false,[.own 700800 Y5 51 true,.own 700801 Y7 131 true,.own 700802 tI 3 true]),(900000,false,[.mtk 850000 .str 9 true,.tre 850001 Y19 117,.dead])]⟩
def i_Index_drop_m (ids:List Int) (b:List Z2) (b2:List Z4) (b3:List Z3):Option (Int×(List Z2)×(List Z4)×(List Z3)):=
 (iter (fun go (ids2,many,segs,t15,t16,t17,b4,b5)=>bif decide (t17<t16)then if t15.2.toNat<=t17.toNat then oB (t15.1[t17.toNat]?) fun e=>(if t15.2.toNat<=t17.toNat then oB (t15.1[t17.toNat]?) fun e2=>(if t15.2.toNat<=t17.toNat then oB (t15.1[t17.toNat]?) fun e3=>(if 0<=t17/\t17<(t15.1.length:Int)then if t17.toNat=t17.toNat then if t17.toNat=t17.toNat then if t17.toNat=t17.toNat then if t17.toNat=t17.toNat then if t17.toNat=t17.toNat then if t17.toNat=t17.toNat then if t15.2.toNat=t17.toNat then oB (i_Live_alive_v2_m N e.1.1 e2.1.2 e3.2) fun r=>(iter (fun go2 (ids3,many2,segs2,t152,t162,t172,t22,t23,t24,l,l2,l3,b6,b7)=>bif decide (t24<t23)then oB (idx t22 t24) fun e5=>(oB (jHG N ids3 e5.1) fun r2=>bif r2 then if room l3.length ([e5.1]:List Int).length 8 then if fits (many2+1)then if fits (t24+1)then go2 (ids3,(many2+1),segs2,(t152.1,((t152.2.toNat:Nat):Int)),t162,t172,t22,t23,(t24+1),l,l2,(l3++([e5.1]:List Int)),b6,b7)else none else none else none else if fits (t24+1)then go2 (ids3,many2,segs2,(t152.1,((t152.2.toNat:Nat):Int)),t162,t172,t22,t23,(t24+1),l,l2,l3,b6,b7)else none)else oB (k_slices_Sort_287_m N l3) fun r3=>meet (fun(g:(List Int)×Int×(List Z3)×((List Z3)×Int)×Int×Int×Bool×(List Z0)×(List Z1)×(List Int)×(List Z2)×(List Z4))=>match g with|(ids4,many3,segs3,t153,t163,t173,t48,l4,l5,l6,b8,b9)=>bif t48 then if room segs3.length ([((l4,l5),l6)]:List Z3).length 72 then if fits (t173+1)then go (ids4,many3,(segs3++([((l4,l5),l6)]:List Z3)),(t153.1,((t153.2.toNat:Nat):Int)),t163,(t173+1),b8,b9)else none else none else if fits (t173+1)then go (ids4,many3,segs3,(t153.1,((t153.2.toNat:Nat):Int)),t163,(t173+1),b8,b9)else none) fun J=>oB (i_Live_alive_v2_m N l l2 r3) fun r4=>J (ids3,many2,segs2,(t152.1,((t152.2.toNat:Nat):Int)),t162,t172,(decide ((0:Int)<r4.1.length)),l,l2,r4.2,b6,b7)) N (ids2,many,segs,(t15.1,((t17.toNat+1:Nat):Int)),t16,t17,r.1,(r.1.length:Int),(0:Int),e.1.1,e2.1.2,r.2,b4,b5))else none else none else none else none else none else none else none else none)else none)else none)else none else some (many,b4,b5,segs)) N (ids,(0:Int),([]:List Z3),(b3,((0:Nat):Int)),(b3.length:Int),(0:Int),b,b2))
theorem jNa :mK 54 ⟨⟨[.box 900000 0,.pv Y22],[(900000,false,[.mtk 850000 .str 9 true,.tre 850001 Y19 117,.tre 850002 Y2 99])]⟩,⟨[pI],[(900000,false,[.mtk 850000 .str 9 true,.tre 850001 Y19 117,.own 1 Y2 99 true])]⟩,c4A (i_Index_drop_m N)⟩:=
 mO (fC (jLZ N) (fC (jIT N) (fC (jMQ N) ja))) func54 rfl N (.seq .no (.seq .no (.seq .no (.seq (.seq (.touch [.opn 900000 2]) (.block (.loop jMe (.seq .no (.seq .no (.seq (.block (.seq (.touch [.outs 15 17 [(0,200,51),(1,201,131),(2,202,3)]]) (.seq (.seq (.touch [.adv 15 17]) (.block (.loop jMV .no))) (.seq .no (.meet jK6 .no .no))))) .no)))))) .no)))) _ (wr:=[37]) (rs:=[900000,850000,850001,850002])
def i_IndexAdd_m (e:List Z2) (c:List Z4) (f:List Z3) (d:List Z0):Z20:=
 (oB (i_IndexOk_m N e c f) fun j=>bif !j then some (([]:List Z2),([]:List Z4),([]:List Z3),false)else oB (i_cloneIndex_m N e c f) fun a=>bif decide ((d.length:Int)=0)then some (a.1,a.2.1,a.2.2,false)else oB (jbf N d) fun k=>bif !k then some (a.1,a.2.1,a.2.2,false)else oB (i_idsOf_m N d) fun l=>oB (i_Index_drop_m N l a.1 a.2.1 a.2.2) fun b=>oB (i_SegOf_m N e c d) fun h=>if room b.2.2.2.length ([(h,([]:List Int))]:List Z3).length 72 then oB (i_IndexOk_m N b.2.1 b.2.2.1 (b.2.2.2++([(h,([]:List Int))]:List Z3))) fun m=>(bif !m then oB (i_cloneIndex_m N e c f) fun i=>(some (i.1,i.2.1,i.2.2,false))else some (b.2.1,b.2.2.1,(b.2.2.2++([(h,([]:List Int))]:List Z3)),true))else none)
theorem jRi :mK 10 (bX [.agg [.pv (.sl .str),.pv Y17,.pv Y1],.pv Y4] [.tup [.agg [.own 1 .str 9 true,.own 2 Y19 117 true,.own 3 Y2 99 false],pB]] (c4A (i_IndexAdd_m N))):=
 mO (fC (jIr N) (fC (jLT N) (fC (jjU N) (fC (jQ8 N) (fC (jNa N) (fC (jqC N) ja)))))) func10 rfl N .no _ (dw:=[12,40])
def jve :Sh:=⟨.pv (.sl .str):: .pv (.sl .str)::dz 3 (pI::dz 20 []),[]⟩
def l_foTexts_m (e:List Z2) (c:List Z2):Z9:=
 (bif !decide ((e.length:Int)=(c.length:Int))then some false else iter (fun h (b,d,a)=>bif decide (a<(b.length:Int))then oB (idx b a) fun f=>(oB (idx d a) fun i=>bif !decide (f=i)then some false else if fits (a+1)then h (b,d,(a+1))else none)else some true) N (e,c,(0:Int)))
theorem juE :mK 26 (bX [.pv (.sl .str),.pv (.sl .str)] [pB] (c2A (l_foTexts_m N))):=
 mO ja func26 rfl N (.seq .no (.seq .no (.seq (.seq .no (.block (.loop jve .no))) .no))) _
def jRo :Sh:=⟨.dead:: .dead:: .box 2 0:: .box 3 0:: .dead::pI::dz 51 [],[(2,false,[.pv (.sl .str),.pv Y17]),(3,false,[.pv (.sl .str),.pv Y17])]⟩
def l_foConf_m (e:List Z2) (f:List Z4) (h:List Z2) (d:List Z4):Z9:=
 (oB (l_foTexts_m N e h) fun n=>bif !n then some false else bif !decide ((f.length:Int)=(d.length:Int))then some false else iter (fun o (a,p,b,m,c)=>bif decide (a<(b.length:Int))then oB (idx b a) fun k=>(oB (idx c a) fun l=>bif !decide (k.2=l.2)then some false else oB (idx b a) fun q=>oB (idx c a) fun r=>oB (l_foTexts_m N q.1 r.1) fun i=>bif !i then some false else if fits (a+1)then o ((a+1),p,b,m,c)else none)else some true) N ((0:Int),e,f,h,d))
theorem jRp :mK 62 (bX [.agg [.pv (.sl .str),.pv Y17],.agg [.pv (.sl .str),.pv Y17]] [pB] (c4A (l_foConf_m N))):=
 mO (fC (juE N) ja) func62 rfl N (.seq .no (.seq .no (.seq (.seq .no (.block (.loop jRo .no))) .no))) _
def jRj :Sh:=⟨.dead:: .dead:: .box 2 0:: .box 3 0:: .dead::pI::dz 60 [],[(2,false,[pI,.pv Y20,.pv Y16]),(3,false,[pI,.pv Y20,.pv Y16])]⟩
def jRu :Sh:=⟨.dead:: .dead:: .box 2 0:: .box 3 0:: .dead:: .dead::pI::dz 59 [],[(2,false,[pI,.pv Y20,.pv Y16]),(3,false,[pI,.pv Y20,.pv Y16])]⟩
def l_foDoc_m (k:Int) (o:Z15) (q:Z10) (p:Int) (h:Z15) (n:Z10):Z9:=
 (bif !decide (k=p)then some false else bif !decide ((o.length:Int)=(h.length:Int))then some false else bif !decide ((q.length:Int)=(n.length:Int))then some false else iter (fun A (b,l,c,r,u,e,t)=>bif decide (b<(c.length:Int))then oB (idx c b) fun i=>(oB (idx e b) fun j=>bif !((decide (i.1=j.1))&&(decide (i.2=j.2)))then some false else if fits (b+1)then A ((b+1),l,c,r,u,e,t)else none)else iter (fun z (a,x,B,f,C,y,m)=>bif decide (a<(f.length:Int))then oB (idx f a) fun v=>(oB (idx m a) fun w=>bif !((decide (v.1=w.1))&&(decide (v.2=w.2)))then some false else if fits (a+1)then z ((a+1),x,B,f,C,y,m)else none)else some true) N ((0:Int),l,c,r,u,e,t)) N ((0:Int),k,o,q,p,h,n))
theorem jRr :mK 64 (bX [.agg [pI,.pv Y20,.pv Y16],.agg [pI,.pv Y20,.pv Y16]] [pB] (c6A (l_foDoc_m N))):=
 mO ja func64 rfl N (.seq .no (.seq .no (.seq (.seq .no (.block (.loop jRj .no))) (.seq (.seq .no (.block (.loop jRu .no))) .no)))) _
def jRs :Sh:=⟨.pv Y4:: .pv Y4::dz 3 (pI::dz 21 []),[]⟩
def l_foDocs_m (h:List Z0) (e:List Z0):Z9:=
 (bif !decide ((h.length:Int)=(e.length:Int))then some false else iter (fun i (b,f,a)=>bif decide (a<(b.length:Int))then oB (idx b a) fun c=>(oB (idx f a) fun d=>oB (l_foDoc_m N c.1 c.2.1 c.2.2 d.1 d.2.1 d.2.2) fun j=>bif !j then some false else if fits (a+1)then i (b,f,(a+1))else none)else some true) N (h,e,(0:Int)))
theorem jQV :mK 13 (bX [.pv Y4,.pv Y4] [pB] (c2A (l_foDocs_m N))):=
 mO (fC (jRr N) ja) func13 rfl N (.seq .no (.seq .no (.seq (.seq .no (.block (.loop jRs .no))) .no))) _
def l_foInts_m (e:List Int) (c:List Int):Z9:=
 (bif !decide ((e.length:Int)=(c.length:Int))then some false else iter (fun h (b,d,a)=>bif decide (a<(b.length:Int))then oB (idx b a) fun f=>(oB (idx d a) fun i=>bif !decide (f=i)then some false else if fits (a+1)then h (b,d,(a+1))else none)else some true) N (e,c,(0:Int)))
theorem jQS :mK 38 (bX [.pv Y22,.pv Y22] [pB] (c2A (l_foInts_m N))):=
 mO ja func38 rfl N (.seq .no (.seq .no (.seq (.seq .no (.block (.loop jnI .no))) .no))) _
def jQ6 :Sh:=⟨.pv Y13:: .pv Y13::dz 3 (pI::dz 36 []),[]⟩
def l_foPosts_m (e:Z5) (d:Z5):Z9:=
 (bif !decide ((e.length:Int)=(d.length:Int))then some false else iter (fun j (b,c,a)=>bif decide (a<(b.length:Int))then oB (idx b a) fun h=>(oB (idx c a) fun k=>bif !decide (h.1=k.1)then some false else oB (idx b a) fun l=>oB (idx c a) fun m=>oB (l_foInts_m N l.2 m.2) fun i=>bif !i then some false else if fits (a+1)then j (b,c,(a+1))else none)else some true) N (e,d,(0:Int)))
theorem jRl :mK 184 (bX [.pv Y13,.pv Y13] [pB] (c2A (l_foPosts_m N))):=
 mO (fC (jQS N) ja) func184 rfl N (.seq .no (.seq .no (.seq (.seq .no (.block (.loop jQ6 .no))) .no))) _
def jQ7 :Sh:=⟨.dead:: .dead:: .box 2 0:: .box 3 0:: .dead::pI::dz 66 [],[(2,false,[.pv Y4,.pv Y6]),(3,false,[.pv Y4,.pv Y6])]⟩
def l_foSeg_m (e:List Z0) (f:List Z1) (h:List Z0) (d:List Z1):Z9:=
 (oB (l_foDocs_m N e h) fun q=>bif !q then some false else bif !decide ((f.length:Int)=(d.length:Int))then some false else iter (fun p (a,r,b,n,c)=>bif decide (a<(b.length:Int))then oB (idx b a) fun l=>(oB (idx c a) fun m=>bif !decide (l.1=m.1)then some false else oB (idx b a) fun t=>oB (idx c a) fun u=>bif !decide (t.2.1=u.2.1)then some false else oB (idx b a) fun o=>oB (idx c a) fun j=>oB (l_foPosts_m N o.2.2 j.2.2) fun i=>bif !i then some false else if fits (a+1)then p ((a+1),r,b,n,c)else none)else some true) N ((0:Int),e,f,h,d))
theorem jRc :mK 128 (bX [.agg [.pv Y4,.pv Y6],.agg [.pv Y4,.pv Y6]] [pB] (c4A (l_foSeg_m N))):=
 mO (fC (jQV N) (fC (jRl N) ja)) func128 rfl N (.seq .no (.seq .no (.seq (.seq .no (.block (.loop jQ7 .no))) .no))) _
def l_foLive_m (h:List Z0) (b:List Z1) (f:List Int) (c:List Z0) (d:List Z1) (i:List Int):Z9:=
 (oB (l_foSeg_m N h b c d) fun e=>bif e then oB (l_foInts_m N f i) fun a=>(some a)else some false)
theorem jQ4 :mK 63 (bX [.agg [.pv Y4,.pv Y6,.pv Y22],.agg [.pv Y4,.pv Y6,.pv Y22]] [pB] (c6A (l_foLive_m N))):=
 mO (fC (jRc N) (fC (jQS N) ja)) func63 rfl N .no _
def jRd :Sh:=⟨.dead:: .dead:: .box 2 0:: .box 3 0:: .dead::pI::dz 34 [],[(2,false,[.pv (.sl .str),.pv Y17,.pv Y1]),(3,false,[.pv (.sl .str),.pv Y17,.pv Y1])]⟩
def l_foIndex_m (f:List Z2) (i:List Z4) (k:List Z3) (j:List Z2) (e:List Z4) (h:List Z3):Z9:=
 (oB (l_foConf_m N f i j e) fun q=>bif !q then some false else bif !decide ((k.length:Int)=(h.length:Int))then some false else iter (fun r (a,p,o,d,t,n,l)=>bif decide (a<(d.length:Int))then oB (idx d a) fun b=>(oB (idx l a) fun c=>oB (l_foLive_m N b.1.1 b.1.2 b.2 c.1.1 c.1.2 c.2) fun m=>bif !m then some false else if fits (a+1)then r ((a+1),p,o,d,t,n,l)else none)else some true) N ((0:Int),f,i,k,j,e,h))
theorem jRf :mK 12 (bX [.agg [.pv (.sl .str),.pv Y17,.pv Y1],.agg [.pv (.sl .str),.pv Y17,.pv Y1]] [pB] (c6A (l_foIndex_m N))):=
 mO (fC (jRp N) (fC (jQ4 N) ja)) func12 rfl N (.seq .no (.seq .no (.seq (.seq .no (.block (.loop jRd .no))) .no))) _
def i_IndexDocs_m (e:List Z2) (c:List Z4) (a:List Z3):Z22:=
 (oB (i_IndexOk_m N e c a) fun f=>bif !f then some ([]:List Z0)else oB (i_allAlive_m N a) fun b=>oB (jbV N b) fun d=>some d)
theorem jN8 :mK 14 (bX [.agg [.pv (.sl .str),.pv Y17,.pv Y1]] [.own 1 Y5 51 true] (c3A (i_IndexDocs_m N))):=
 mO (fC (jIr N) (fC (jHR N) (fC (joC N) ja))) func14 rfl N .no _
def jDx :Sh:=⟨pS::dz 4 (pI::pI::dz 23 []),[]⟩
def jxV (e:List UInt8):Z9:=
 (iter (fun d (b,c,a)=>bif decide (a<c)then oB (idx b a) fun k=>(oB (jaw N (k.toNat:Int)) fun i=>bif !i then oB (idx b a) fun j=>(bif !decide ((j.toNat:Int)=42)then oB (idx b a) fun h=>(bif !decide ((h.toNat:Int)=63)then some false else if fits (a+1)then d (b,c,(a+1))else none)else if fits (a+1)then d (b,c,(a+1))else none)else if fits (a+1)then d (b,c,(a+1))else none)else oB (jm N (b.length:Int) 1 12) fun f=>some f) N (e,(e.length:Int),(0:Int)))
theorem jz9 :mK 167 (bX [pS] [pB] (c1A (jxV N))):=
 mO (fC (jeK N) (fC (jY N) ja)) func167 rfl N (.seq .no (.seq (.seq .no (.block (.loop jDx .no))) .no)) _
def jBs :Sh:=⟨.dead::pI:: .box 2 0::dz 90 (.pv (.sl .str)::pI::pI::dz 39 []),[(2,false,[pI,pS,.pv (.sl .str),pI,pI,.pv (.sl .q)])]⟩
def jC6 :Sh:=⟨.dead::pI::dz 121 (.pv (.sl .q)::pI::pI::dz 9 []),[]⟩
def jDY :Sh:=⟨.dead::pI:: .box 2 0::dz 132 [],[(2,false,[pI,pS,.pv (.sl .str),pI,pI,.pv (.sl .q)])]⟩
def jzZ :Sh:=⟨.dead::pI:: .box 2 0:: .dead:: .dead:: .box 5 0::dz 129 [],[(2,false,[pI,pS,.pv (.sl .str),pI,pI,.pv (.sl .q)]),(5,false,[pB,pI,pI,pI,pI,pB,pI,pI])]⟩
def jxE (N:Nat):(D:Nat)->Int->Z2->(List Z2)->Int->Int->(List DQ)->Int->Z9
 |0,_,_,_,_,_,_,_=>none
 |D+1,q,q2,q3,q4,q5,q6,deep=>
 meet (fun(g:Z26)=>
 match g with
 |(deep2,q7,q8,q9,q10,q11,q12,x,x2,x3,x4,x5,x6,x7,x8)=>
 meet (fun(g:Z26)=>
 match g with
 |(deep3,q13,q14,q15,q16,q17,q18,x9,x10,x11,x12,x13,x14,x15,x16)=>
 meet (fun(g:Int×Int×Z2×(List Z2)×Int×Int×(List DQ))=>
 match g with
 |(deep4,q19,q20,q21,q22,q23,q24)=>
 iter (fun go (g:Int×(List Z2)×Int×Int×Int×Z2×(List Z2)×Int×Int×(List DQ))=>
 match g with
 |(deep5,t93,t94,t95,q25,q26,q27,q28,q29,q30)=>
 bif decide (t95<t94)then
 oB (idx t93 t95) fun e=>
 (bif decide (q25=5)then
 oB (jxV N e) fun r6=>
 (bif !r6 then
 some false
 else
 oB (jO N e) fun r7=>
 bif r7 then
 some false
 else
 bif !decide (q25=5)then
 oB (jO N e) fun r8=>
 (bif !r8 then
 some false
 else
 if fits (t95+1)then go (deep5,t93,t94,(t95+1),q25,q26,q27,q28,q29,q30)else none)
 else
 if fits (t95+1)then go (deep5,t93,t94,(t95+1),q25,q26,q27,q28,q29,q30)else none)
 else
 bif !decide (q25=5)then
 oB (jO N e) fun r9=>
 (bif !r9 then
 some false
 else
 if fits (t95+1)then go (deep5,t93,t94,(t95+1),q25,q26,q27,q28,q29,q30)else none)
 else
 if fits (t95+1)then go (deep5,t93,t94,(t95+1),q25,q26,q27,q28,q29,q30)else none)
 else
 iter (fun go2 (g:Int×(List DQ)×Int×Int)=>
 match g with
 |(deep6,t123,t124,t125)=>
 bif decide (t125<t124)then
 oB (idx t123 t125) fun e2=>
 (if fits (deep6-1)then oB (jxE N D e2.kind e2.field e2.words e2.lo e2.hi e2.kids (deep6-1)) fun r10=>
 (bif !r10 then
 some false
 else
 if fits (t125+1)then go2 (deep6,t123,t124,(t125+1))else none)else none)
 else
 some true) N (deep5,q30,(q30.length:Int),0)) N (deep4,q21,(q21.length:Int),0,q19,q20,q21,q22,q23,q24)) fun J3=>
 bif x14 then
 oB (jm N q17 q16 999999999) fun r5=>
 (bif !r5 then
 some false
 else
 bif !x14 then
 bif !decide (q17=0)then
 some false
 else
 (J3 (deep3,q13,q14,q15,q16,q17,q18))
 else
 J3 (deep3,q13,q14,q15,q16,q17,q18))
 else
 bif !x14 then
 bif !decide (q17=0)then
 some false
 else
 (J3 (deep3,q13,q14,q15,q16,q17,q18))
 else
 J3 (deep3,q13,q14,q15,q16,q17,q18)) fun J2=>
 oB (jm N (q9.length:Int) x2 x3) fun r2=>
 bif !r2 then
 some false
 else
 oB (jm N (q12.length:Int) x7 x8) fun r3=>
 bif !r3 then
 some false
 else
 oB (jm N q10 x4 x5) fun r4=>
 bif !r4 then
 some false
 else
 J2 (deep2,q7,q8,q9,q10,q11,q12,x,x2,x3,x4,x5,x6,x7,x8)) fun J=>
 bif !((mget tI (.pair .bool (.pair tI (.pair tI (.pair tI (.pair tI (.pair .bool Y15)))))) gm_shapes q).isSome)then
 some false
 else
 bif decide (deep<1)then
 some false
 else
 bif !((((mget tI (.pair .bool (.pair tI (.pair tI (.pair tI (.pair tI (.pair .bool Y15)))))) gm_shapes q).getD (false,(0,(0,(0,(0,(false,(0,0)))))))).1)==(!decide (q2=([]:List UInt8))))then
 some false
 else
 bif((mget tI (.pair .bool (.pair tI (.pair tI (.pair tI (.pair tI (.pair .bool Y15)))))) gm_shapes q).getD (false,(0,(0,(0,(0,(false,(0,0)))))))).1 then
 oB (jO N q2) fun r=>
 (bif !r then
 some false
 else
 J (deep,q,q2,q3,q4,q5,q6,((mget tI (.pair .bool (.pair tI (.pair tI (.pair tI (.pair tI (.pair .bool Y15)))))) gm_shapes q).getD (false,(0,(0,(0,(0,(false,(0,0)))))))).1,(((mget tI (.pair .bool (.pair tI (.pair tI (.pair tI (.pair tI (.pair .bool Y15)))))) gm_shapes q).getD (false,(0,(0,(0,(0,(false,(0,0)))))))).2).1,((((mget tI (.pair .bool (.pair tI (.pair tI (.pair tI (.pair tI (.pair .bool Y15)))))) gm_shapes q).getD (false,(0,(0,(0,(0,(false,(0,0)))))))).2).2).1,(((((mget tI (.pair .bool (.pair tI (.pair tI (.pair tI (.pair tI (.pair .bool Y15)))))) gm_shapes q).getD (false,(0,(0,(0,(0,(false,(0,0)))))))).2).2).2).1,((((((mget tI (.pair .bool (.pair tI (.pair tI (.pair tI (.pair tI (.pair .bool Y15)))))) gm_shapes q).getD (false,(0,(0,(0,(0,(false,(0,0)))))))).2).2).2).2).1,(((((((mget tI (.pair .bool (.pair tI (.pair tI (.pair tI (.pair tI (.pair .bool Y15)))))) gm_shapes q).getD (false,(0,(0,(0,(0,(false,(0,0)))))))).2).2).2).2).2).1,((((((((mget tI (.pair .bool (.pair tI (.pair tI (.pair tI (.pair tI (.pair .bool Y15)))))) gm_shapes q).getD (false,(0,(0,(0,(0,(false,(0,0)))))))).2).2).2).2).2).2).1,((((((((mget tI (.pair .bool (.pair tI (.pair tI (.pair tI (.pair tI (.pair .bool Y15)))))) gm_shapes q).getD (false,(0,(0,(0,(0,(false,(0,0)))))))).2).2).2).2).2).2).2))
 else
 J (deep,q,q2,q3,q4,q5,q6,((mget tI (.pair .bool (.pair tI (.pair tI (.pair tI (.pair tI (.pair .bool Y15)))))) gm_shapes q).getD (false,(0,(0,(0,(0,(false,(0,0)))))))).1,(((mget tI (.pair .bool (.pair tI (.pair tI (.pair tI (.pair tI (.pair .bool Y15)))))) gm_shapes q).getD (false,(0,(0,(0,(0,(false,(0,0)))))))).2).1,((((mget tI (.pair .bool (.pair tI (.pair tI (.pair tI (.pair tI (.pair .bool Y15)))))) gm_shapes q).getD (false,(0,(0,(0,(0,(false,(0,0)))))))).2).2).1,(((((mget tI (.pair .bool (.pair tI (.pair tI (.pair tI (.pair tI (.pair .bool Y15)))))) gm_shapes q).getD (false,(0,(0,(0,(0,(false,(0,0)))))))).2).2).2).1,((((((mget tI (.pair .bool (.pair tI (.pair tI (.pair tI (.pair tI (.pair .bool Y15)))))) gm_shapes q).getD (false,(0,(0,(0,(0,(false,(0,0)))))))).2).2).2).2).1,(((((((mget tI (.pair .bool (.pair tI (.pair tI (.pair tI (.pair tI (.pair .bool Y15)))))) gm_shapes q).getD (false,(0,(0,(0,(0,(false,(0,0)))))))).2).2).2).2).2).1,((((((((mget tI (.pair .bool (.pair tI (.pair tI (.pair tI (.pair tI (.pair .bool Y15)))))) gm_shapes q).getD (false,(0,(0,(0,(0,(false,(0,0)))))))).2).2).2).2).2).2).1,((((((((mget tI (.pair .bool (.pair tI (.pair tI (.pair tI (.pair tI (.pair .bool Y15)))))) gm_shapes q).getD (false,(0,(0,(0,(0,(false,(0,0)))))))).2).2).2).2).2).2).2)
def jyl (N D:Nat):Model:=⟨⟨[.agg [pI,pS,.pv (.sl .str),pI,pI,.pv (.sl .q)],pI],[]⟩,⟨[pB],[]⟩,c7A (jxE N D)⟩
theorem jAF (N D:Nat) (ih:mK 103 (jyl N D)):mK 103 (jyl N (D+1)):=
 mO (fC ih (fC (jcM N) (fC (jY N) (fC (jz9 N) ja)))) func103 rfl N (.seq .no (.seq .no (.meet jzZ .no (.meet jzZ .no (.meet jDY .no (.seq (.seq .no (.block (.loop jBs .no))) (.seq (.seq .no (.block (.loop jC6 .no))) .no))))))) (jyl N (D+1))
theorem jzh (N:Nat):∀D,mK 103 (jyl N D)
 |0=>modelOk_none ⟨_,func103,by decide,by kernel_rfl⟩ _ (fun a=>rfl)
 |D+1=>jAF N D (jzh N D)
def i_QueryOk_m (e:Int) (a:List UInt8) (b:List Z2) (c:Int) (f:Int) (h:List DQ):Z9:=
 (oB (jxE N N e a b c f h 4) fun d=>some d)
theorem jCN :mK 41 (bX [.agg [pI,pS,.pv (.sl .str),pI,pI,.pv (.sl .q)]] [pB] (c6A (i_QueryOk_m N))):=
 mO (fC (jzh N N) ja) func41 rfl N .no _
def jyc (c:List Z2) (d:List Z4) (b:List UInt8):Option (Z2):=
 (oB (jO N b) fun f=>bif !f then some ([]:List UInt8)else oB (jbw N c d b) fun a=>bif decide ((a.length:Int)=0)then some ([]:List UInt8)else oB (idx a 0) fun e=>some e.1)
theorem jBn :mK 191 (bX [.agg [.pv (.sl .str),.pv Y17],pS] [pS] (c3A (jyc N))):=
 mO (fC (jcM N) (fC (jgO N) ja)) func191 rfl N .no _
def jnu :Sh:=⟨.dead::pS::pS::dz 9 (.pv Y6::pI::pI::dz 16 []),[]⟩
def i_Seg_posts_m (i:(List Z0)×(List Z1)) (k:List UInt8) (j:List UInt8):Option (Z14):=
 (iter (fun h (c,b,e,f,a)=>bif decide (a<f)then oB (idx e a) fun d=>(bif decide (d.1=c)then bif decide (d.2.1=b)then some d.2.2 else(if fits (a+1)then h (c,b,e,f,(a+1))else none)else if fits (a+1)then h (c,b,e,f,(a+1))else none)else some ([]:Z5)) N (k,j,i.2,(i.2.length:Int),(0:Int)))
theorem jcq :mK 259 (bX [.ptr Y3,pS,pS] [.pv Y13] (c3A (i_Seg_posts_m N))):=
 mO ja func259 rfl N (.seq .no (.seq (.seq .no (.block (.loop jnu .no))) .no)) _
def jni :Sh:=⟨dz 3 (pI::dz 12 (.pv Y13::pI::pI::dz 10 [])),[]⟩
def i_scorer_places_m (k:((List Z2)×(List Z4))×(List Z0)×(List Z1)) (j:List UInt8) (i:List UInt8) (h:Int):Z19:=
 (oB (i_Seg_posts_m N k.2 j i) fun e=>iter (fun l (b,c,f,a)=>bif decide (a<f)then oB (idx c a) fun d=>(bif decide (d.1=b)then some d.2 else if fits (a+1)then l (b,c,f,(a+1))else none)else some ([]:List Int)) N (h,e,(e.length:Int),(0:Int)))
theorem jrB :mK 196 (bX [.ptr Y0,pS,pS,pI] [.pv Y22] (c4A (i_scorer_places_m N))):=
 mO (fC (jcq N) ja) func196 rfl N (.seq .no (.seq (.seq .no (.block (.loop jni .no))) .no)) _
def jmV :Sh:=⟨.dead::pS::dz 8 (.pv Y20::pI::pI::dz 10 []),[]⟩
def i_DocField_m (l:Int) (b:Z15) (h:Z10) (i:List UInt8):Option (Z2):=
 (oB (jbx N l b h) fun k=>bif k then iter (fun j (f,c,d,a)=>bif decide (a<d)then oB (idx c a) fun e=>(bif decide (e.1=f)then some e.2 else if fits (a+1)then j (f,c,d,(a+1))else none)else some ([]:List UInt8)) N (i,b,(b.length:Int),(0:Int))else some ([]:List UInt8))
theorem jqd :mK 294 (bX [.agg [pI,.pv Y20,.pv Y16],pS] [pS] (c4A (i_DocField_m N))):=
 mO (fC (jh0 N) ja) func294 rfl N (.seq .no (.seq (.seq .no (.cond (.seq .no (.block (.loop jmV .no))) .no)) .no)) _
def i_Seg_long_m (f:(List Z0)×(List Z1)) (e:List Z2) (h:List Z4) (d:List UInt8) (c:Int):Z17:=
 (oB (i_Seg_doc_m N f c) fun a=>bif !a.2.2.2 then some 0 else oB (i_DocField_m N a.1 a.2.1 a.2.2.1 d) fun b=>oB (jbw N e h b) fun i=>some (i.length:Int))
theorem jhs :mK 257 (bX [.ptr Y3,.agg [.pv (.sl .str),.pv Y17],pS,pI] [pI] (c5A (i_Seg_long_m N))):=
 mO (fC (jlU N) (fC (jqd N) (fC (jgO N) ja))) func257 rfl N .no _
def joq :Sh:=⟨pI::pI::dz 13 [],[]⟩
def ja2 (e:Int) (d:Int):Z17:=
 (iter (fun f (a,b)=>bif !decide (b=0)then if b≠0 then f (b,(a.tmod b))else none else if fits (0-a)then some (if(0-a)>a then 0-a else a)else none) N (e,d))
theorem jiQ :mK 311 (bX [pI,pI] [pI] (c2A (ja2 N))):=
 mO ja func311 rfl N (.seq .no (.seq (.block (.loop joq .no)) .no)) _
def jbk (b:Int) (a:Int):Z9:=
 (oB (jm N b (-1000000000) 1000000000) fun c=>bif c then oB (jm N a 1 1000000000) fun d=>(bif d then oB (ja2 N b a) fun e=>(some (decide (e=1)))else some false)else some false)
theorem jhS :mK 296 (bX [.agg [pI,pI]] [pB] (c2A (jbk N))):=
 mO (fC (jY N) (fC (jiQ N) ja)) func296 rfl N .no _
def jk5 :Sh:=⟨pI::pI:: .dead:: .dead:: .box 4 0::dz 24 [],[(4,false,[pI,pI])]⟩
def jcl (e:Int) (b:Int):Option (Int×Int×Bool):=
 (meet (fun(i:Int×Int×Int×Int)=>match i with|(d,c,j,k)=>oB (ja2 N d c) fun a=>if a≠0 then if fits (d.tdiv a)then if a≠0 then if fits (c.tdiv a)then oB (jbk N (d.tdiv a) (c.tdiv a)) fun h=>(bif !h then some (0,1,false)else some ((d.tdiv a),(c.tdiv a),true))else none else none else none else none) fun f=>bif decide (b<0)then if fits (0-e)then if fits (0-b)then f ((0-e),(0-b),0,0)else none else none else f (e,b,0,0))
theorem jlG :mK 310 (bX [pI,pI] [.tup [.agg [pI,pI],pB]] (c2A (jcl N))):=
 mO (fC (jiQ N) (fC (jhS N) ja)) func310 rfl N (.seq .no (.meet jk5 .no .no)) _
def jb7 (c:Int) (a:Int):Option (Int×Int×Bool):=
 (oB (jm N c (-1000000000) 1000000000) fun e=>bif !e then some (0,1,false)else oB (jm N a (-1000000000) 1000000000) fun d=>bif !d then some (0,1,false)else bif decide (a=0)then some (0,1,false)else oB (jcl N c a) fun b=>some (b.1,b.2.1,b.2.2))
theorem jpX :mK 295 (bX [pI,pI] [.tup [.agg [pI,pI],pB]] (c2A (jb7 N))):=
 mO (fC (jY N) (fC (jlG N) ja)) func295 rfl N .no _
def jtO :Sh:=⟨pI::pI::pI::pI::pI::dz 5 (.box 10 0:: .dead::pI::dz 53 []),[(10,false,[pI,pI])]⟩
def i_TermScore_m (i:Int) (j:Int) (l:Int) (f:Int) (m:Int):Option (Int×Int×Bool):=
 (oB (jm N i 1 80) fun u=>bif !u then some (0,1,false)else oB (jm N j i 80) fun n=>bif !n then some (0,1,false)else oB (jm N f 1 16) fun q=>bif !q then some (0,1,false)else oB (jm N m 1 f) fun v=>bif !v then some (0,1,false)else oB (jm N l j 1280) fun p=>bif !p then some (0,1,false)else iter (fun t (b,d,e,c,h,a,r,o)=>if fits (a+1)then if 0<=(a+1)then if fits (h*2^(min (a+1).toNat (IntKind.bits .i64)))then bif decide ((h*2^(min (a+1).toNat (IntKind.bits .i64)))<=c)then if fits (a+1)then t (b,d,e,c,h,(a+1),r,o)else none else(if fits (22*b)then if fits (a+1)then if fits ((22*b)*(a+1))then if fits (10*b)then if fits ((10*b)+3)then if fits (9*d)then if fits ((9*d)*c)then if e≠0 then if fits (((9*d)*c).tdiv e)then if fits (((10*b)+3)+(((9*d)*c).tdiv e))then oB (jb7 N ((22*b)*(a+1)) (((10*b)+3)+(((9*d)*c).tdiv e))) fun k=>(some (k.1,k.2.1,k.2.2))else none else none else none else none else none else none else none else none else none else none)else none else none else none) N (i,j,l,f,m,(0:Int),(0:Int),(0:Int)))
theorem jgE :mK 258 (bX [pI,pI,pI,pI,pI] [.tup [.agg [pI,pI],pB]] (c5A (i_TermScore_m N))):=
 mO (fC (jY N) (fC (jpX N) ja)) func258 rfl N (.seq .no (.seq .no (.seq .no (.seq (.block (.loop jtO .no)) .no)))) _
def i_RatFloor_m (c:Int) (a:Int) (b:Int):Z17:=
 (oB (jbk N c a) fun d=>bif !d then some 0 else oB (jm N b 1 1000) fun e=>bif !e then some 0 else if fits (c*b)then bif decide ((0:Int)<=(c*b))then if a≠0 then if fits ((c*b).tdiv a)then some ((c*b).tdiv a)else none else none else(if fits (0-(c*b))then if fits ((0-(c*b))+a)then if fits (((0-(c*b))+a)-1)then if a≠0 then if fits ((((0-(c*b))+a)-1).tdiv a)then if fits (0-((((0-(c*b))+a)-1).tdiv a))then some (0-((((0-(c*b))+a)-1).tdiv a))else none else none else none else none else none else none)else none)
theorem jiY :mK 260 (bX [.agg [pI,pI],pI] [pI] (c3A (i_RatFloor_m N))):=
 mO (fC (jhS N) (fC (jY N) ja)) func260 rfl N .no _
def jlZ :Sh:=⟨.ptr Y0::pS::pS::pI::dz 5 (.pv Y22::pI::dz 16 (.pv Y4::pI::pI::dz 49 [])),[]⟩
def i_scorer_points_m (b:((List Z2)×(List Z4))×(List Z0)×(List Z1)) (o:List UInt8) (n:List UInt8) (i:Int):Z17:=
 (oB (i_scorer_places_m N b o n i) fun p=>bif decide ((p.length:Int)=0)then some 0 else iter (fun v (a,d,k,h,m,e,q,j,c)=>bif decide (c<j)then oB (idx q c) fun r=>(oB (i_Seg_long_m N a.2 a.1.1 a.1.2 d r.1) fun f=>if fits (e+f)then if fits (c+1)then v (a,d,k,h,m,(e+f),q,j,(c+1))else none else none)else oB (i_Seg_long_m N a.2 a.1.1 a.1.2 d h) fun t=>oB (i_Seg_posts_m N a.2 d k) fun w=>oB (i_TermScore_m N (m.length:Int) t e (a.2.1.length:Int) (w.length:Int)) fun l=>oB (i_RatFloor_m N l.1 l.2.1 1000) fun u=>some u) N (b,o,n,i,p,(0:Int),b.2.1,(b.2.1.length:Int),(0:Int)))
theorem jsD :mK 190 (bX [.ptr Y0,pS,pS,pI] [pI] (c4A (i_scorer_points_m N))):=
 mO (fC (jrB N) (fC (jhs N) (fC (jcq N) (fC (jgE N) (fC (jiY N) ja))))) func190 rfl N (.seq .no (.seq .no (.seq .no (.seq .no (.seq (.seq .no (.block (.loop jlZ .no))) .no))))) _
def jyu (N:Nat) (a:List Z2) (b:List UInt8):Option (Z2):=jxR a b
 
def jBB (N:Nat):Model:=⟨⟨[.pv (.sl .str),pS],[]⟩,⟨[pS],[]⟩,c2A (jyu N)⟩
theorem jBE :mK 261 (jBB N):=jBz
def jBY :Sh:=⟨.pv (.sl Y22)::dz 4 (.pv (.sl Y22)::pI::pI::dz 10 []),[]⟩
def jyD (b:List (List Int)):Z9:=
 (iter (fun f (d,c,e,a)=>bif decide (a<e)then oB (idx c a) fun h=>(oB (jx1 N h) fun i=>bif !i then some false else if fits (a+1)then f (d,c,e,(a+1))else none)else some (decide ((d.length:Int)<=6))) N (b,b,(b.length:Int),(0:Int)))
theorem jD9 :mK 314 (bX [.pv (.sl Y22)] [pB] (c1A (jyD N))):=
 mO (fC (jAN N) ja) func314 rfl N (.seq .no (.seq (.seq .no (.block (.loop jBY .no))) .no)) _
def jyK (a:List (List Int)):Z9:=
 (bif decide ((0:Int)<a.length)then oB (jyD N a) fun b=>(some b)else some false)
theorem jD6 :mK 300 (bX [.pv (.sl Y22)] [pB] (c1A (jyK N))):=
 mO (fC (jD9 N) ja) func300 rfl N .no _
def jxW (N:Nat) (a:Int):Z9:=
 (some (!decide (a=a)))
theorem jCp :mK 319 (bX [pI] [pB] (c1A (jxW N))):=
 mO ja func319 rfl N .no _
def jB3 :Sh:=⟨.pv Y22::pI::dz 4 (pI::pI::pI::dz 45 []),[]⟩
def jyA (e:List Int) (j:Int):Option (Int×Bool):=
 (iter (fun h (c,d,f,a,b)=>bif decide (a<b)then if fits (a+b)then if 0<=(1:Int)then oB (idx c (IntKind.i64.wrap ((IntKind.u64.wrap (a+b)).fdiv (2^(min (1:Int).toNat (IntKind.bits .u64)))))) fun k=>(oB (k_cmp_Less_67_m N k d) fun l=>bif l then if fits ((IntKind.i64.wrap ((IntKind.u64.wrap (a+b)).fdiv (2^(min (1:Int).toNat (IntKind.bits .u64)))))+1)then h (c,d,f,((IntKind.i64.wrap ((IntKind.u64.wrap (a+b)).fdiv (2^(min (1:Int).toNat (IntKind.bits .u64)))))+1),b)else none else h (c,d,f,a,(IntKind.i64.wrap ((IntKind.u64.wrap (a+b)).fdiv (2^(min (1:Int).toNat (IntKind.bits .u64)))))))else none else none else bif decide (a<f)then oB (idx c a) fun m=>(bif decide (m=d)then some (a,true)else oB (idx c a) fun n=>oB (jxW N n) fun i=>bif i then oB (jxW N d) fun o=>(some (a,o))else some (a,false))else some (a,false)) N (e,j,(e.length:Int),(0:Int),(e.length:Int)))
theorem jDL :mK 315 (bX [.pv Y22,pI] [.tup [pI,pB]] (c2A (jyA N))):=
 mO (fC (jA5 N) (fC (jCp N) ja)) func315 rfl N (.seq .no (.seq .no (.seq .no (.seq (.block (.loop jB3 .no)) .no)))) _
def jys (a:List Int) (c:Int):Option (Int×Bool):=
 (oB (jyA N a c) fun b=>bif decide (b.1=(a.length:Int))then some (0,false)else oB (idx a b.1) fun d=>some (d,true))
theorem jAO :mK 301 (bX [.pv Y22,pI] [.tup [pI,pB]] (c2A (jys N))):=
 mO (fC (jDL N) ja) func301 rfl N .no _
def jBS :Sh:=⟨.pv (.sl Y22)::pI::dz 3 (.own 600005 tI 3 true::dz 20 (.pv Y22::pI::pI::dz 42 [])),[]⟩
def jDv :Sh:=⟨.pv (.sl Y22)::pI::dz 3 (.own 600005 tI 3 true:: .dead::pI::pI::pB::dz 16 (.pv Y22::pI::pI::dz 5 (.pv (.sl Y22)::pI::pI::dz 34 []))),[]⟩
def jyw (p:List (List Int)) (z:Int):Z19:=
 (oB (jyK N p) fun D=>bif !D then some ([]:List Int)else oB (jm N z 0 5) fun C=>bif !C then some ([]:List Int)else oB (idx p 0) fun u=>iter (fun n (l,E,y,B,A,j)=>bif decide (j<A)then oB (idx B j) fun v=>(oB (cut l 1 (l.length:Int)) fun x=>iter (fun w (a,d,f,c,q,t,i,h,b,o,k,e)=>bif decide (e<k)then oB (idx o e) fun G=>(if fits (q+1)then oB (jys N G (q+1)) fun m=>(bif t then if fits (e+1)then w (a,d,f,c,m.1,m.2,i,h,b,o,k,(e+1))else none else if fits (e+1)then w (a,d,f,c,m.1,false,i,h,b,o,k,(e+1))else none)else none)else bif t then if fits (c+(a.length:Int))then if fits ((c+(a.length:Int))-1)then if fits (((c+(a.length:Int))-1)+d)then bif decide (q<=(((c+(a.length:Int))-1)+d))then if room f.length ([c]:List Int).length 8 then if fits (b+1)then n (a,d,(f++([c]:List Int)),i,h,(b+1))else none else none else(if fits (b+1)then n (a,d,f,i,h,(b+1))else none)else none else none else none else if fits (b+1)then n (a,d,f,i,h,(b+1))else none) N (l,E,y,v,v,true,B,A,j,x,(x.length:Int),(0:Int)))else some y) N (p,z,([]:List Int),u,(u.length:Int),(0:Int)))
theorem jCX :mK 262 (bX [.pv (.sl Y22),pI] [.own 1 tI 3 true] (c2A (jyw N))):=
 mO (fC (jD6 N) (fC (jY N) (fC (jAO N) ja))) func262 rfl N (.seq .no (.seq .no (.seq .no (.seq (.seq .no (.block (.loop jBS (.seq .no (.seq .no (.seq (.block (.seq .no (.seq .no (.seq (.seq .no (.block (.loop jDv .no))) .no)))) .no)))))) .no)))) _
def jCk :Sh:=⟨.ptr Y0::dz 3 (.box 4 0:: .box 5 0:: .dead:: .own 600007 Y18 126 true:: .own 600008 Y22 75 true::pI::dz 18 (.pv Y16::pI::pI::dz 59 [])),[(4,false,[pI,pS,.pv (.sl .str),pI,pI,.pv (.sl .q)]),(5,false,[pI,.pv Y20,.pv Y16])]⟩
def jDK :Sh:=⟨.ptr Y0::dz 3 (.box 4 0:: .box 5 0:: .dead:: .own 600007 Y18 126 true:: .own 600008 Y22 75 true::pI::pI:: .box 11 0:: .own 600012 tI 3 true::dz 15 (.pv Y16::pI::pI::dz 12 (.pv Y22::pI::pI::dz 44 []))),[(4,false,[pI,pS,.pv (.sl .str),pI,pI,.pv (.sl .q)]),(5,false,[pI,.pv Y20,.pv Y16]),(11,false,[pS,pI])]⟩
def jyB (x:((List Z2)×(List Z4))×(List Z0)×(List Z1)) (q:Int) (q2:List UInt8) (q3:List Z2) (q4:Int) (q5:Int) (q6:List DQ) (d:Int) (d2:Z15) (d3:Z10):Z17:=
 (oB (jyu N q3 ([32]:List UInt8)) fun r=>oB (jbw N x.1.1 x.1.2 r) fun r2=>bif decide ((r2.length:Int)=0)then some 0 else iter (fun go (x2,terms,lists,all,t28,t29,t30,q7,q8,q9,q10,q11,q12,d4,d5,d6)=>bif decide (t30<t29)then oB (idx t28 t30) fun e=>(oB (i_scorer_places_m N x2 q8 e.1 d4) fun r3=>iter (fun go2 (x3,terms2,lists2,all2,i,list,t282,t292,t302,t43,t44,t45,q13,q14,q15,q16,q17,q18,d7,d8,d9,t,t2)=>bif decide (t45<t44)then oB (idx t43 t45) fun e2=>(oB (idx terms2 0) fun e3=>if fits (t2-e3.2)then if fits ((t2-e3.2)-i)then if fits (e2-((t2-e3.2)-i))then bif decide ((0:Int)<=(e2-((t2-e3.2)-i)))then if room list.length ([(e2-((t2-e3.2)-i))]:List Int).length 8 then if fits (t45+1)then go2 (x3,terms2,lists2,all2,i,(list++([(e2-((t2-e3.2)-i))]:List Int)),t282,t292,t302,t43,t44,(t45+1),q13,q14,q15,q16,q17,q18,d7,d8,d9,t,t2)else none else none else(if fits (t45+1)then go2 (x3,terms2,lists2,all2,i,list,t282,t292,t302,t43,t44,(t45+1),q13,q14,q15,q16,q17,q18,d7,d8,d9,t,t2)else none)else none else none else none)else if room lists2.length ([list]:List (List Int)).length 24 then oB (i_scorer_points_m N x3 q14 t d7) fun r4=>(if fits (all2+r4)then if fits (t302+1)then go (x3,terms2,(lists2++([list]:List (List Int))),(all2+r4),t282,t292,(t302+1),q13,q14,q15,q16,q17,q18,d7,d8,d9)else none else none)else none) N (x2,terms,lists,all,t30,([]:List Int),t28,t29,t30,r3,(r3.length:Int),(0:Int),q7,q8,q9,q10,q11,q12,d4,d5,d6,e.1,e.2))else oB (jyw N lists q10) fun r5=>if fits ((if(r5.length:Int)<3 then(r5.length:Int)else 3)*all)then some ((if(r5.length:Int)<3 then(r5.length:Int)else 3)*all)else none) N (x,r2,([]:List (List Int)),(0:Int),r2,(r2.length:Int),(0:Int),q,q2,q3,q4,q5,q6,d,d2,d3))
theorem jDC :mK 192 (bX [.ptr Y0,.agg [pI,pS,.pv (.sl .str),pI,pI,.pv (.sl .q)],.agg [pI,.pv Y20,.pv Y16]] [pI] (c10A (jyB N))):=
 mO (fC (jBE N) (fC (jgO N) (fC (jrB N) (fC (jsD N) (fC (jCX N) ja))))) func192 rfl N (.seq .no (.seq .no (.seq .no (.seq .no (.seq .no (.seq (.seq .no (.block (.loop jCk (.seq .no (.seq .no (.seq (.block (.seq .no (.seq .no (.seq (.seq .no (.block (.loop jDK .no))) .no)))) .no)))))) .no)))))) _
def jtE :Sh:=⟨.dead::pS::dz 3 (.own 600005 .str 9 true::dz 6 (.pv Y6::pI::pI::dz 14 [])),[]⟩
def i_Seg_terms_m (i:(List Z0)×(List Z1)) (j:List UInt8):Option ((List Z2)):=
 (iter (fun h (c,b,e,f,a)=>bif decide (a<f)then oB (idx e a) fun d=>(bif decide (d.1=c)then if room b.length ([d.2.1]:List Z2).length 16 then if fits (a+1)then h (c,(b++([d.2.1]:List Z2)),e,f,(a+1))else none else none else if fits (a+1)then h (c,b,e,f,(a+1))else none)else some b) N (j,([]:List Z2),i.2,(i.2.length:Int),(0:Int)))
theorem jln :mK 193 (bX [.ptr Y3,pS] [.own 1 .str 9 true] (c2A (i_Seg_terms_m N))):=
 mO ja func193 rfl N (.seq .no (.seq .no (.seq (.seq .no (.block (.loop jtE .no))) .no))) _
def jDE :Sh:=⟨pS::pS::dz 3 (.mtk 600005 tI 3 true::dz 18 (pI::pI::dz 62 [])),[]⟩
def jBC :Sh:=⟨pS::pS::dz 3 (.mtk 600005 tI 3 true:: .dead::pI::dz 80 []),[]⟩
def jCv :Sh:=⟨pS::pS::dz 3 (.mtk 600005 tI 3 true:: .dead::pI::pI::pI::dz 78 []),[]⟩
def jAI :Sh:=⟨pS::pS::dz 3 (.mtk 600005 tI 3 true:: .dead::pI:: .dead::pI::pI::dz 77 []),[]⟩
def jAQ :Sh:=⟨pS::pS::dz 3 (.mtk 22 tI 3 true::dz 82 []),[]⟩
def jDZ :Sh:=⟨pS::pS::dz 86 [],[]⟩
def i_NearFar_m (a:List UInt8) (b:List UInt8):Z17:=
 (meet (fun(g:Z2×Z2)=>match g with|(a2,b2)=>meet (fun(g:Z2×Z2×(List Int))=>match g with|(a3,b3,row)=>iter (fun go (a4,b4,row2,t24,t25)=>bif decide (t25<t24)then if 0<=t25/\t25<(row2.length:Int)then oB (row2[t25.toNat]?) fun e=>(if fits (t25+1)then go (a4,b4,(row2.set t25.toNat t25),t24,(t25+1))else none)else none else iter (fun go2 (a5,b5,row3,i)=>bif decide (i<=(a5.length:Int))then if 0<=(0:Int)/\(0:Int)<row3.length then oB (row3[(0:Int).toNat]?) fun e2=>(if 0<=(0:Int)/\(0:Int)<row3.length then oB (row3[(0:Int).toNat]?) fun e3=>(iter (fun go3 (a6,b6,row4,i2,corner,j)=>bif decide (j<=(b6.length:Int))then meet (fun(g:Z25)=>match g with|(a7,b7,row5,i3,j2,cost)=>if 0<=j2/\j2<(row5.length:Int)then oB (row5[j2.toNat]?) fun e4=>(if 0<=j2/\j2<(row5.length:Int)then oB (row5[j2.toNat]?) fun e5=>(if fits (e5+1)then if fits (j2-1)then if 0<=(j2-1)/\(j2-1)<(row5.length:Int)then oB (row5[(j2-1).toNat]?) fun e6=>(if fits (e6+1)then if 0<=j2/\j2<(row5.length:Int)then oB (row5[j2.toNat]?) fun e7=>(if fits (j2+1)then go3 (a7,b7,(row5.set j2.toNat (if(e6+1)<(if(e5+1)<cost then e5+1 else cost)then e6+1 else if(e5+1)<cost then e5+1 else cost)),i3,e4,(j2+1))else none)else none else none)else none else none else none)else none)else none) fun J3=>(if fits (i2-1)then oB (idx a6 (i2-1)) fun c=>(if fits (j-1)then oB (idx b6 (j-1)) fun c2=>(bif !decide ((c.toNat:Int)=(c2.toNat:Int))then if fits (corner+1)then J3 (a6,b6,row4,i2,j,(corner+1))else none else J3 (a6,b6,row4,i2,j,corner))else none)else none)else if fits (i2+1)then go2 (a6,b6,row4,(i2+1))else none) N (a5,b5,(row3.set (0:Int).toNat i),i,e2,(1:Int)))else none)else none else if 0<=(b5.length:Int)/\(b5.length:Int)<(row3.length:Int)then oB (row3[(b5.length:Int).toNat]?) fun e8=>(some e8)else none) N (a4,b4,row2,(1:Int))) N (a3,b3,row,(row.length:Int),(0:Int))) fun J2=>if fits ((b2.length:Int)+1)then if((b2.length:Int)+1)=((b2.length:Int)+1)/\0<=((b2.length:Int)+1)/\((b2.length:Int)+1)*8<=140737488355328/\((b2.length:Int)+1)<=140737488355328 then J2 (a2,b2,(List.replicate ((b2.length:Int)+1).toNat 0))else none else none) fun J=>oB (jO N a) fun r=>bif !r then some (-1)else oB (jO N b) fun r2=>bif !r2 then some (-1)else J (a,b))
theorem jDu :mK 194 (bX [pS,pS] [pI] (c2A (i_NearFar_m N))):=
 mO (fC (jcM N) ja) func194 rfl N (.seq .no (.meet jDZ .no (.meet jAQ .no (.seq (.seq .no (.block (.loop jDE .no))) (.seq (.seq .no (.block (.loop jBC (.seq .no (.seq (.block (.seq .no (.seq .no (.seq .no (.block (.loop jCv (.seq .no (.seq (.block (.seq .no (.meet jAI .no .no))) .no)))))))) .no))))) .no))))) _ (wr:=[22])
def jxG (N:Nat):(D:Nat)->Z2->Z2->Z9
 |0,_,_=>none
 |D+1,p,s=>
 bif decide (p=([]:List UInt8))then
 some (decide (s=([]:List UInt8)))
 else
 oB (idx p 0) fun c=>
 bif decide ((c.toNat:Int)=42)then
 oB (cut p 1 (p.length:Int)) fun y=>
 (oB (jxG N D y s) fun r=>
 bif r then
 some true
 else
 bif !decide (s=([]:List UInt8))then
 oB (cut s 1 (s.length:Int)) fun y2=>
 (oB (jxG N D p y2) fun r2=>
 some r2)
 else
 some false)
 else
 bif decide (s=([]:List UInt8))then
 some false
 else
 oB (idx p 0) fun c2=>
 bif decide ((c2.toNat:Int)=63)then
 oB (cut p 1 (p.length:Int)) fun y3=>
 (oB (cut s 1 (s.length:Int)) fun y4=>
 oB (jxG N D y3 y4) fun r3=>
 some r3)
 else
 oB (idx p 0) fun c3=>
 oB (idx s 0) fun c4=>
 bif decide ((c3.toNat:Int)=(c4.toNat:Int))then
 oB (cut p 1 (p.length:Int)) fun y5=>
 (oB (cut s 1 (s.length:Int)) fun y6=>
 oB (jxG N D y5 y6) fun r4=>
 some r4)
 else
 some false
def jyg (N D:Nat):Model:=⟨⟨[pS,pS],[]⟩,⟨[pB],[]⟩,c2A (jxG N D)⟩
theorem jBG (N D:Nat) (ih:mK 263 (jyg N D)):mK 263 (jyg N (D+1)):=
 mO (fC ih ja) func263 rfl N .no (jyg N (D+1))
theorem jAz (N:Nat):∀D,mK 263 (jyg N D)
 |0=>modelOk_none ⟨_,func263,by decide,by kernel_rfl⟩ _ (fun a=>rfl)
 |D+1=>jBG N D (jAz N D)
def jx0 (b:List UInt8) (a:List UInt8):Z9:=
 (oB (jxV N b) fun e=>bif e then oB (jO N a) fun c=>(bif c then oB (jxG N N b a) fun d=>(some d)else some false)else some false)
theorem jDd :mK 195 (bX [pS,pS] [pB] (c2A (jx0 N))):=
 mO (fC (jz9 N) (fC (jcM N) (fC (jAz N N) ja))) func195 rfl N .no _
def jD5 :Sh:=⟨.dead::pS::dz 8 (.pv Y16::pI::pI::dz 10 []),[]⟩
def jyp (k:Int) (l:Z15) (b:Z10) (h:List UInt8):Z17:=
 (oB (jbx N k l b) fun j=>bif j then iter (fun i (f,c,d,a)=>bif decide (a<d)then oB (idx c a) fun e=>(bif decide (e.1=f)then some e.2 else if fits (a+1)then i (f,c,d,(a+1))else none)else some (-1)) N (h,b,(b.length:Int),(0:Int))else some (-1))
theorem jBQ :mK 48 (bX [.agg [pI,.pv Y20,.pv Y16],pS] [pI] (c4A (jyp N))):=
 mO (fC (jh0 N) ja) func48 rfl N (.seq .no (.seq (.seq .no (.cond (.seq .no (.block (.loop jD5 .no))) .no)) .no)) _
def jDa :Sh:=⟨.ptr Y0::dz 3 (.box 4 0:: .box 5 0:: .dead::pI::dz 43 (.own 600051 .str 9 true::pI::pI::dz 122 [])),[(4,false,[pI,pS,.pv (.sl .str),pI,pI,.pv (.sl .q)]),(5,false,[pI,.pv Y20,.pv Y16])]⟩
def jCO :Sh:=⟨.ptr Y0::dz 3 (.box 4 0:: .box 5 0::dz 83 (.own 600089 .str 9 true::pI::pI::dz 84 [])),[(4,false,[pI,pS,.pv (.sl .str),pI,pI,.pv (.sl .q)]),(5,false,[pI,.pv Y20,.pv Y16])]⟩
def jDp :Sh:=⟨.ptr Y0::dz 3 (.box 4 0:: .box 5 0::dz 7 (pI::dz 140 (.pv (.sl .q)::pI::pI::dz 19 []))),[(4,false,[pI,pS,.pv (.sl .str),pI,pI,.pv (.sl .q)]),(5,false,[pI,.pv Y20,.pv Y16])]⟩
def i_scorer_score_m (N:Nat):(D:Nat)->Z16->Int->Z2->(List Z2)->Int->Int->(List DQ)->Int->Z12->Z8->Z17
 |0,_,_,_,_,_,_,_,_,_,_=>none
 |D+1,x,q,q2,q3,q4,q5,q6,d,d2,d3=>
 bif decide (q=1)then
 some 100
 else
 bif decide (q=2)then
 oB (idx q3 0) fun e=>
 (oB (jyc N x.1.1 x.1.2 e) fun r=>
 oB (i_scorer_points_m N x q2 r d) fun r2=>
 some r2)
 else
 bif decide (q=3)then
 oB (jyB N x q q2 q3 q4 q5 q6 d d2 d3) fun r3=>
 (some r3)
 else
 bif decide (q=4)then
 oB (i_Seg_terms_m N x.2 q2) fun r4=>
 (iter (fun go (g:Z16×Int×(List Z2)×Int×Int×Int×Z2×(List Z2)×Int×Int×(List DQ)×Int×Z12×Z8)=>
 match g with
 |(x2,best,t51,t52,t53,q7,q8,q9,q10,q11,q12,d4,d5,d6)=>
 bif decide (t53<t52)then
 oB (idx t51 t53) fun e2=>
 (oB (idx q9 0) fun e3=>
 oB (i_NearFar_m N e2 e3) fun r5=>
 oB (jm N r5 0 q10) fun r6=>
 bif r6 then
 oB (i_scorer_points_m N x2 q8 e2 d4) fun r7=>
 (if fits (3-r5)then if fits (r7*(3-r5))then if 3≠0 then
 if fits ((r7*(3-r5)).tdiv 3)then if fits (t53+1)then go (x2,(if((r7*(3-r5)).tdiv 3)>best then(r7*(3-r5)).tdiv 3 else best),t51,t52,(t53+1),q7,q8,q9,q10,q11,q12,d4,d5,d6)else none else none
 else none else none else none)
 else
 if fits (t53+1)then go (x2,best,t51,t52,(t53+1),q7,q8,q9,q10,q11,q12,d4,d5,d6)else none)
 else
 some best) N (x,0,r4,(r4.length:Int),0,q,q2,q3,q4,q5,q6,d,d2,d3))
 else
 bif decide (q=5)then
 oB (i_Seg_terms_m N x.2 q2) fun r8=>
 (iter (fun go2 (g:Z16×(List Z2)×Int×Int×Int×Z2×(List Z2)×Int×Int×(List DQ)×Int×Z12×Z8)=>
 match g with
 |(x3,t89,t90,t91,q13,q14,q15,q16,q17,q18,d7,d8,d9)=>
 bif decide (t91<t90)then
 oB (idx t89 t91) fun e4=>
 (oB (idx q15 0) fun e5=>
 oB (jx0 N e5 e4) fun r9=>
 bif r9 then
 oB (i_scorer_places_m N x3 q14 e4 d7) fun r10=>
 (bif decide ((0:Int)<r10.length)then
 some 100
 else
 if fits (t91+1)then go2 (x3,t89,t90,(t91+1),q13,q14,q15,q16,q17,q18,d7,d8,d9)else none)
 else
 if fits (t91+1)then go2 (x3,t89,t90,(t91+1),q13,q14,q15,q16,q17,q18,d7,d8,d9)else none)
 else
 some 0) N (x,r8,(r8.length:Int),0,q,q2,q3,q4,q5,q6,d,d2,d3))
 else
 bif decide (q=6)then
 oB (jyp N d d2 d3 q2) fun r11=>
 (oB (jm N r11 q4 q5) fun r12=>
 bif r12 then
 some 100
 else
 some 0)
 else
 bif decide (q=10)then
 oB (idx q6 0) fun e6=>
 (oB (i_scorer_score_m N D x e6.kind e6.field e6.words e6.lo e6.hi e6.kids d d2 d3) fun r13=>
 if fits (q4*r13)then some (q4*r13)else none)
 else
 bif decide (q=9)then
 oB (idx q6 1) fun e7=>
 (oB (i_scorer_score_m N D x e7.kind e7.field e7.words e7.lo e7.hi e7.kids d d2 d3) fun r14=>
 bif decide ((0:Int)<r14)then
 some 0
 else
 oB (idx q6 0) fun e8=>
 oB (i_scorer_score_m N D x e8.kind e8.field e8.words e8.lo e8.hi e8.kids d d2 d3) fun r15=>
 some r15)
 else
 iter (fun go3 (g:Z16×Int×(List DQ)×Int×Int×Int×Z2×(List Z2)×Int×Int×(List DQ)×Int×Z12×Z8)=>
 match g with
 |(x4,all,t154,t155,t156,q19,q20,q21,q22,q23,q24,d10,d11,d12)=>
 bif decide (t156<t155)then
 oB (idx t154 t156) fun e9=>
 (oB (i_scorer_score_m N D x4 e9.kind e9.field e9.words e9.lo e9.hi e9.kids d10 d11 d12) fun r16=>
 bif decide (r16=0)then
 bif decide (q19=7)then
 some 0
 else
 (if fits (all+r16)then if fits (t156+1)then go3 (x4,(all+r16),t154,t155,(t156+1),q19,q20,q21,q22,q23,q24,d10,d11,d12)else none else none)
 else
 if fits (all+r16)then if fits (t156+1)then go3 (x4,(all+r16),t154,t155,(t156+1),q19,q20,q21,q22,q23,q24,d10,d11,d12)else none else none)
 else
 some all) N (x,0,q6,(q6.length:Int),0,q,q2,q3,q4,q5,q6,d,d2,d3)
def jx6 (N D:Nat):Model:=⟨⟨[.ptr Y0,.agg [pI,pS,.pv (.sl .str),pI,pI,.pv (.sl .q)],.agg [pI,.pv Y20,.pv Y16]],[]⟩,⟨[pI],[]⟩,c10A (i_scorer_score_m N D)⟩
theorem jBq (N D:Nat) (ih:mK 140 (jx6 N D)):mK 140 (jx6 N (D+1)):=
 mO (fC ih (fC (jBn N) (fC (jsD N) (fC (jDC N) (fC (jln N) (fC (jDu N) (fC (jY N) (fC (jDd N) (fC (jrB N) (fC (jBQ N) ja)))))))))) func140 rfl N (.seq .no (.seq (.seq .no (.block (.seq .no (.cond .no (.seq .no (.cond .no (.seq .no (.cond .no (.seq .no (.cond (.seq .no (.seq (.seq .no (.block (.loop jDa .no))) .no)) (.seq .no (.cond (.seq (.seq .no (.block (.loop jCO .no))) .no) .no)))))))))))) (.seq .no (.seq (.seq .no (.block (.loop jDp .no))) .no)))) (jx6 N (D+1))
theorem jzy (N:Nat):∀D,mK 140 (jx6 N D)
 |0=>modelOk_none ⟨_,func140,by decide,by kernel_rfl⟩ _ (fun a=>rfl)
 |D+1=>jBq N D (jzy N D)
def jBM :Sh:=⟨dz 5 (.box 5 0:: .dead:: .own 600007 Y15 90 true:: .box 26 0::dz 19 (.pv Y4::pI::pI::dz 18 [])),[(5,false,[pI,pS,.pv (.sl .str),pI,pI,.pv (.sl .q)]),(26,true,[.pv (.sl .str),.pv Y17,.pv Y4,.pv Y6])]⟩
def i_scores_m (A:List Z2) (B:List Z4) (c:List Z0) (v:List Z1) (z:Int) (t:List UInt8) (u:List Z2) (w:Int) (C:Int) (x:List DQ):Option (Z13):=
 (oB (i_SegOk_m N A B c v) fun E=>bif !E then some ([]:Z7)else oB (i_QueryOk_m N z t u w C x) fun D=>bif !D then some ([]:Z7)else iter (fun y (d,e,i,a,h,q,n,r,p,l,m,f,k,o)=>bif decide (a<i)then oB (idx e a) fun b=>(oB (i_scorer_score_m N N ((m,f),k,o) h q n r p l b.1 b.2.1 b.2.2) fun j=>bif decide ((0:Int)<j)then if room d.length ([(b.1,j)]:Z7).length 16 then if fits (a+1)then y ((d++([(b.1,j)]:Z7)),e,i,(a+1),h,q,n,r,p,l,m,f,k,o)else none else none else if fits (a+1)then y (d,e,i,(a+1),h,q,n,r,p,l,m,f,k,o)else none)else some d) N (([]:Z7),c,(c.length:Int),(0:Int),z,t,u,w,C,x,A,B,c,v))
theorem jBc :mK 96 (bX [.agg [.pv (.sl .str),.pv Y17],.agg [.pv Y4,.pv Y6],.agg [pI,pS,.pv (.sl .str),pI,pI,.pv (.sl .q)]] [.own 1 Y15 90 true] (c10A (i_scores_m N))):=
 mO (fC (joa N) (fC (jCN N) (fC (jzy N N) ja))) func96 rfl N (.seq .no (.seq .no (.seq .no (.seq .no (.seq (.seq .no (.block (.loop jBM .no))) .no))))) _
def jx4 (f:Int) (b:Int) (c:Int) (d:Int):Z17:=
 (oB (jxY N d b) fun e=>oB (jxY N f c) fun a=>oB (jbe N ([e,a]:List Int)) fun h=>some h)
theorem jvi :mK 171 (bX [.agg [pI,pI],.agg [pI,pI]] [pI] (c4A (jx4 N))):=
 mO (fC (jpP N) (fC (jhC N) ja)) func171 rfl N .no _
def cmp454 (N:Nat):(Unit)->(Int×Int)->(Int×Int)->Option Int:=(fun(cmp:Unit) (e e2:Int×Int)=>jx4 N e.1 e.2 e2.1 e2.2)
def jwq :Sh:=⟨.mtk 800000 Y15 90 true::pI::pI:: .clo 171 []::dz 4 (pI::dz 44 []),[]⟩
def jwI :Sh:=⟨.mtk 800000 Y15 90 true::pI::pI:: .clo 171 []::dz 4 (pI::pI::dz 43 []),[]⟩
def jvU (d:Z7) (b:Int) (a:Int) (c:Unit):Option (Z13):=insG (cmp454 N) N d b a c
 
theorem jwF :mK 277 (bX [.mtk 800000 Y15 90 true,pI,pI,.clo 171 []] [.tup [],.mtk 800000 Y15 90 true] (c4A (jvU N))):=
 mO (fC (jvi N) ja) func277 rfl N (.seq .no (.block (.loop jwq (.seq .no (.seq (.block (.seq .no (.block (.loop jwI .no)))) .no))))) _ (rs:=[800000])
def jv5 :Sh:=⟨.mtk 800000 Y15 90 true:: .dead::pI::pI:: .clo 171 []::dz 5 (pI::dz 71 []),[]⟩
def jwh :Sh:=⟨.mtk 800000 Y15 90 true:: .dead::pI::pI:: .clo 171 []::dz 5 (pI::pI::dz 70 []),[]⟩
def jvp (e:Z7) (d:Int) (b:Int) (c:Int) (a:Unit):Option (Z13):=siftG (cmp454 N) N e d b c a
 
theorem jwd :mK 305 (bX [.mtk 800000 Y15 90 true,pI,pI,pI,.clo 171 []] [.tup [],.mtk 800000 Y15 90 true] (c5A (jvp N))):=
 mO (fC (jvi N) ja) func305 rfl N (.seq .no (.block (.loop jv5 (.block (.seq .no (.seq .no (.meet jwh .no .no))))))) _ (rs:=[800000])
def jwy :Sh:=⟨.mtk 800000 Y15 90 true:: .dead:: .dead:: .clo 171 []::dz 4 (pI::pI::pI::pI::dz 48 []),[]⟩
def jwM :Sh:=⟨.mtk 800000 Y15 90 true:: .dead:: .dead:: .clo 171 []::dz 4 (pI::pI:: .dead:: .dead::pI::dz 47 []),[]⟩
def jvj (d:Z7) (b:Int) (a:Int) (c:Unit):Option (Z13):=heapG (cmp454 N) N d b a c
 
theorem jwr :mK 278 (bX [.mtk 800000 Y15 90 true,pI,pI,.clo 171 []] [.tup [],.mtk 800000 Y15 90 true] (c4A (jvj N))):=
 mO (fC (jwd N) ja) func278 rfl N (.seq .no (.seq .no (.seq .no (.seq (.seq .no (.block (.loop jwy .no))) (.seq .no (.block (.loop jwM .no))))))) _ (rs:=[800000])
def jw2 :Sh:=⟨.mtk 800000 Y15 90 true::pI::dz 6 (pI:: .box 9 0:: .pv (.int .u64)::pI::dz 55 []),[(9,false,[.pv (.int .u64)])]⟩
def jw5 :Sh:=⟨.mtk 800000 Y15 90 true::pI::dz 6 (pI:: .box 9 0:: .pv (.int .u64)::pI::pI::dz 54 []),[(9,false,[.pv (.int .u64)])]⟩
def jvw (d:Z7) (b:Int) (a:Int) (c:Unit):Option (Z13):=breakG N d b a c
 
theorem jwR :mK 279 (bX [.mtk 800000 Y15 90 true,pI,pI,.clo 171 []] [.tup [],.mtk 800000 Y15 90 true] (c4A (jvw N))):=
 mO (fC (jhv N) (fC (jet N) ja)) func279 rfl N (.seq .no (.seq .no (.cond (.seq .no (.seq .no (.seq .no (.block (.loop jw2 (.seq .no (.seq (.block (.seq .no (.meet jw5 .no .no))) .no))))))) .no))) _ (rs:=[800000])
def jvl (e:Z7) (d:Int) (b:Int) (a:Unit) (c:Int):Option (Int×Int×Z13×Int):=order2G (cmp454 N) N e d b a c
 
theorem jwG :mK 316 ⟨⟨[.mtk 800000 Y15 90 true,pI,pI,.box 900003 0,.clo 171 []],[(900003,false,[pI])]⟩,⟨[.tup [pI,pI],.mtk 800000 Y15 90 true],[(900003,false,[pI])]⟩,c5A (jvl N)⟩:=
 mO (fC (jvi N) ja) func316 rfl N .no _ (rs:=[900003,800000])
def jvr (f:Z7) (e:Int) (c:Int) (a:Int) (b:Unit) (d:Int):Option (Int×Z13×Int):=medianG (cmp454 N) N f e c a b d
 
theorem jvO :mK 307 ⟨⟨[.mtk 800000 Y15 90 true,pI,pI,pI,.box 900004 0,.clo 171 []],[(900004,false,[pI])]⟩,⟨[pI,.mtk 800000 Y15 90 true],[(900004,false,[pI])]⟩,c6A (jvr N)⟩:=
 mO (fC (jwG N) ja) func307 rfl N .no _ (rs:=[900004,800000])
def jvm (d:Z7) (b:Int) (c:Unit) (a:Int):Option (Int×Z13×Int):=medianAdjacentG (cmp454 N) N d b c a
 
theorem jwj :mK 306 ⟨⟨[.mtk 800000 Y15 90 true,pI,.box 900002 0,.clo 171 []],[(900002,false,[pI])]⟩,⟨[pI,.mtk 800000 Y15 90 true],[(900002,false,[pI])]⟩,c4A (jvm N)⟩:=
 mO (fC (jvO N) ja) func306 rfl N .no _ (rs:=[900002,800000])
def jwt :Sh:=⟨.mtk 800000 Y15 90 true:: .dead:: .dead:: .clo 171 []::dz 7 (.box 11 0::pI::pI::pI::dz 48 []),[(11,false,[pI])]⟩
def jwK :Sh:=⟨.mtk 800000 Y15 90 true::dz 10 (.box 11 0:: .dead::pI::dz 49 []),[(11,false,[pI])]⟩
def jvA (d:Z7) (b:Int) (a:Int) (c:Unit):Option (Int×Int×Z13):=choosePivotG (cmp454 N) N d b a c
 
theorem jwf :mK 280 (bX [.mtk 800000 Y15 90 true,pI,pI,.clo 171 []] [.tup [pI,pI],.mtk 800000 Y15 90 true] (c4A (jvA N))):=
 mO (fC (jwj N) (fC (jvO N) ja)) func280 rfl N (.seq .no (.seq .no (.seq .no (.seq .no (.seq .no (.seq .no (.meet jwK (.seq .no (.cond (.meet jwt .no .no) .no)) .no))))))) _ (rs:=[800000])
def jv2 :Sh:=⟨.mtk 800000 Y15 90 true::dz 7 (pI::pI::dz 24 []),[]⟩
def jvJ (d:Z7) (b:Int) (a:Int) (c:Unit):Option (Z13):=reverseRangeG N d b a c
 
theorem jwz :mK 281 (bX [.mtk 800000 Y15 90 true,pI,pI,.clo 171 []] [.tup [],.mtk 800000 Y15 90 true] (c4A (jvJ N))):=
 mO ja func281 rfl N (.seq .no (.seq .no (.block (.loop jv2 .no)))) _ (rs:=[800000])
def jw7 :Sh:=⟨.mtk 800000 Y15 90 true::pI::pI:: .clo 171 []::dz 5 (pI::pI::dz 130 []),[]⟩
def jwp :Sh:=⟨.mtk 800000 Y15 90 true::pI::pI:: .clo 171 []::dz 5 (pI::pI::pI::dz 129 []),[]⟩
def jwY :Sh:=⟨.mtk 800000 Y15 90 true::pI::pI:: .clo 171 []::dz 5 (pI::pI:: .dead::pI::dz 128 []),[]⟩
def jvz (d:Z7) (b:Int) (a:Int) (c:Unit):Option (Bool×Z13):=pisG (cmp454 N) N d b a c
 
theorem jw4 :mK 282 (bX [.mtk 800000 Y15 90 true,pI,pI,.clo 171 []] [pB,.mtk 800000 Y15 90 true] (c4A (jvz N))):=
 mO (fC (jvi N) ja) func282 rfl N (.seq .no (.seq .no (.seq (.seq .no (.block (.loop jw7 (.seq .no (.seq (.block (.seq (.block (.loop jw7 .no)) (.seq .no (.seq .no (.seq .no (.meet jw7 (.seq .no (.cond (.seq .no (.block (.loop jwp .no))) .no)) (.seq .no (.cond (.seq .no (.block (.loop jwY .no))) .no)))))))) .no))))) .no))) _ (rs:=[800000])
def jws :Sh:=⟨.mtk 800000 Y15 90 true::pI:: .dead:: .dead:: .clo 171 []::dz 6 (pI::pI::dz 77 []),[]⟩
def jvo (e:Z7) (c:Int) (b:Int) (a:Int) (d:Unit):Option (Int×Z13):=peqG (cmp454 N) N e c b a d
 
theorem jwA :mK 283 (bX [.mtk 800000 Y15 90 true,pI,pI,pI,.clo 171 []] [pI,.mtk 800000 Y15 90 true] (c5A (jvo N))):=
 mO (fC (jvi N) ja) func283 rfl N (.seq .no (.seq .no (.seq .no (.seq (.block (.loop jws (.block (.seq (.block (.loop jws .no)) (.seq (.block (.loop jws .no)) .no))))) .no)))) _ (rs:=[800000])
def jwU :Sh:=⟨.mtk 800000 Y15 90 true::pI:: .dead:: .dead:: .clo 171 []::dz 7 (pI::pI::dz 164 []),[]⟩
def jvs (e:Z7) (c:Int) (b:Int) (a:Int) (d:Unit):Option (Int×Bool×Z13):=partG (cmp454 N) N e c b a d
 
theorem jv9 :mK 284 (bX [.mtk 800000 Y15 90 true,pI,pI,pI,.clo 171 []] [.tup [pI,pB],.mtk 800000 Y15 90 true] (c5A (jvs N))):=
 mO (fC (jvi N) ja) func284 rfl N (.seq .no (.seq .no (.seq .no (.seq (.block (.loop jwU .no)) (.seq (.block (.loop jwU .no)) (.seq .no (.seq .no (.seq .no (.seq .no (.seq (.block (.loop jwU (.block (.seq (.block (.loop jwU .no)) (.seq (.block (.loop jwU .no)) .no))))) .no)))))))))) _ (rs:=[800000])
def jwT :Sh:=⟨.mtk 800000 Y15 90 true::pI::pI::pI:: .clo 171 []::dz 5 (pB::pB::dz 136 []),[]⟩
def jwO :Sh:=⟨.mtk 800000 Y15 90 true::pI::pI::pI:: .clo 171 []::dz 5 (pB::pB::pI::pI::dz 134 []),[]⟩
def jwP :Sh:=⟨.mtk 800000 Y15 90 true::pI::pI::pI:: .clo 171 []::dz 5 (pB::pB::pI::pI::pI::dz 133 []),[]⟩
def jwn :Sh:=⟨.mtk 800000 Y15 90 true::pI::pI::pI:: .clo 171 []::dz 5 (pB::pB::pI::dz 135 []),[]⟩
def jvh (N D:Nat) (f:Z7) (b a limit:Int) (h:Unit):Option (Z13):=pdqG (cmp454 N) (fun c b a d=>heapG (cmp454 N) N c b a d) (fun c b a e d=>peqG (cmp454 N) N c b a e d) N D f b a limit h
 
def jvn (N D:Nat):Model:=⟨⟨[.mtk 800000 Y15 90 true,pI,pI,pI,.clo 171 []],[]⟩,⟨[.tup [],.mtk 800000 Y15 90 true],[]⟩,c5A (jvh N D)⟩
theorem jwv (N D:Nat) (ih:mK 232 (jvn N D)):mK 232 (jvn N (D+1)):=
 mO (fC ih (fC (jwF N) (fC (jwr N) (fC (jwR N) (fC (jwf N) (fC (jwz N) (fC (jw4 N) (fC (jvi N) (fC (jwA N) (fC (jv9 N) ja)))))))))) func232 rfl N (.seq .no (.seq .no (.block (.loop jwT (.block (.seq .no (.seq .no (.seq .no (.meet jwn .no (.seq .no (.meet jwP .no (.meet jwO .no .no)))))))))))) (jvn N (D+1)) (rs:=[800000])
theorem jvI (N:Nat):∀D,mK 232 (jvn N D)
 |0=>modelOk_none ⟨_,func232,by decide,by kernel_rfl⟩ _ (fun a=>rfl)
 |D+1=>jwv N D (jvI N D)
def k_slices_SortFunc_454_m (a:Z7) (d:Unit):Option (Z13):=
 (oB (k_math_bits_Len_m N (IntKind.u64.wrap (a.length:Int))) fun c=>oB (jvh N N a 0 (a.length:Int) c ()) fun b=>some b)
theorem jwX :mK 170 (bX [.mtk 800000 Y15 90 true,.clo 171 []] [.tup [],.mtk 800000 Y15 90 true] (c2A (k_slices_SortFunc_454_m N))):=
 mO (fC (jda N) (fC (jvI N N) ja)) func170 rfl N .no _ (rs:=[800000])
def i_firstHits_m (d:Z7) (c:Int):Option (Z13):=
 (if room ([]:Z7).length d.length 16 then oB (k_slices_SortFunc_454_m N (([]:Z7)++d) ()) fun a=>(oB (cut a 0 (if c<(a.length:Int)then c else(a.length:Int))) fun b=>if room ([]:Z7).length b.length 16 then some (([]:Z7)++b)else none)else none)
theorem jv7 :mK 108 (bX [.pv (.sl Y15),pI] [.own 1 Y15 90 true] (c2A (i_firstHits_m N))):=
 mO (fC (jwX N) ja) func108 rfl N .no _ (wr:=[6,8,11,17,18])
def i_TopOf_m (j:List Z2) (l:List Z4) (k:List Z0) (e:List Z1) (i:Int) (c:List UInt8) (d:List Z2) (h:Int) (m:Int) (o:List DQ) (a:Int):Option (Z13):=
 (oB (jm N a 1 16) fun f=>bif !f then some ([]:Z7)else oB (i_scores_m N j l k e i c d h m o) fun b=>oB (i_firstHits_m N b a) fun n=>some n)
theorem jCZ :mK 45 (bX [.agg [.pv (.sl .str),.pv Y17],.agg [.pv Y4,.pv Y6],.agg [pI,pS,.pv (.sl .str),pI,pI,.pv (.sl .q)],pI] [.own 1 Y15 90 true] (c11A (i_TopOf_m N))):=
 mO (fC (jY N) (fC (jBc N) (fC (jv7 N) ja))) func45 rfl N .no _
def i_IndexTop_m (a:List Z2) (b:List Z4) (d:List Z3) (k:Int) (c:List UInt8) (e:List Z2) (h:Int) (l:Int) (i:List DQ) (j:Int):Option (Z13):=
 (oB (i_IndexOk_m N a b d) fun p=>bif !p then some ([]:Z7)else oB (i_QueryOk_m N k c e h l i) fun m=>bif !m then some ([]:Z7)else oB (jm N j 1 16) fun n=>bif !n then some ([]:Z7)else oB (i_allAlive_m N d) fun q=>oB (i_SegOf_m N a b q) fun f=>oB (i_TopOf_m N a b f.1 f.2 k c e h l i j) fun o=>some o)
theorem jIR :mK 16 (bX [.agg [.pv (.sl .str),.pv Y17,.pv Y1],.agg [pI,pS,.pv (.sl .str),pI,pI,.pv (.sl .q)],pI] [.own 1 Y15 90 true] (c10A (i_IndexTop_m N))):=
 mO (fC (jIr N) (fC (jCN N) (fC (jY N) (fC (jHR N) (fC (jqC N) (fC (jCZ N) ja)))))) func16 rfl N .no _
def jxa :Sh:=⟨.pv (.sl Y15):: .pv (.sl Y15)::dz 3 (pI::dz 20 []),[]⟩
def l_foHits_m (h:Z7) (c:Z7):Z9:=
 (bif !decide ((h.length:Int)=(c.length:Int))then some false else iter (fun i (b,d,a)=>bif decide (a<(b.length:Int))then oB (idx b a) fun e=>(oB (idx d a) fun f=>bif !((decide (e.1=f.1))&&(decide (e.2=f.2)))then some false else if fits (a+1)then i (b,d,(a+1))else none)else some true) N (h,c,(0:Int)))
theorem jwb :mK 15 (bX [.pv (.sl Y15),.pv (.sl Y15)] [pB] (c2A (l_foHits_m N))):=
 mO ja func15 rfl N (.seq .no (.seq .no (.seq (.seq .no (.block (.loop jxa .no))) .no))) _
def l_FnIndexTwice_m (e:List Int):Z9:=
 (bif decide ((1048576:Int)<e.length)then some true else oB (s_DrawIndexAdd_m N e) fun c=>oB (i_IndexAdd_m N c.1 c.2.1 c.2.2.1 c.2.2.2) fun a=>oB (s_IndexAdd_m N c.1 c.2.1 c.2.2.1 c.2.2.2) fun b=>bif !(a.2.2.2==b.2.2.2)then bif a.2.2.2==b.2.2.2 then oB (l_foIndex_m N a.1 a.2.1 a.2.2.1 b.1 b.2.1 b.2.2.1) fun l=>(some l)else(some false)else oB (l_foIndex_m N a.1 a.2.1 a.2.2.1 b.1 b.2.1 b.2.2.1) fun k=>bif !k then bif a.2.2.2==b.2.2.2 then oB (l_foIndex_m N a.1 a.2.1 a.2.2.1 b.1 b.2.1 b.2.2.1) fun j=>(some j)else(some false)else bif !a.2.2.2 then bif a.2.2.2==b.2.2.2 then oB (l_foIndex_m N a.1 a.2.1 a.2.2.1 b.1 b.2.1 b.2.2.1) fun p=>(some p)else(some false)else oB (i_IndexAdd_m N a.1 a.2.1 a.2.2.1 c.2.2.2) fun d=>bif d.2.2.2 then oB (i_IndexDocs_m N d.1 d.2.1 d.2.2.1) fun f=>(oB (i_IndexDocs_m N a.1 a.2.1 a.2.2.1) fun h=>oB (l_foDocs_m N f h) fun m=>bif m then oB (i_IndexTop_m N d.1 d.2.1 d.2.2.1 2 ([98,111,100,121]:List UInt8) ([([99,97,116]:List UInt8)]:List Z2) 0 0 ([]:List DQ) 16) fun i=>(oB (i_IndexTop_m N a.1 a.2.1 a.2.2.1 2 ([98,111,100,121]:List UInt8) ([([99,97,116]:List UInt8)]:List Z2) 0 0 ([]:List DQ) 16) fun n=>oB (l_foHits_m N i n) fun o=>bif o then some (decide ((d.2.2.1.length:Int)<=(a.2.2.1.length:Int)))else some false)else some false)else some false)
def jQ2 (N:Nat):Model:=⟨⟨[.pv (.sl (.int .u8))],[]⟩,⟨[pB],[]⟩,c1A (l_FnIndexTwice_m N)⟩
theorem jRe :mK 3 (jQ2 N):=
 mO (fC (jRm N) (fC (jRi N) (fC (jNM N) (fC (jRf N) (fC (jN8 N) (fC (jQV N) (fC (jIR N) (fC (jwb N) ja)))))))) func3 rfl N .no (jQ2 N)
def jyC (a:List Z2) (c:List Z4) (b:List UInt8):Option (Z2):=
 (oB (jcw N a c) fun h=>bif !h then some ([]:List UInt8)else oB (jT N b) fun e=>bif !e then some ([]:List UInt8)else oB (ja5 N a c b) fun d=>bif decide ((d.length:Int)=0)then some ([]:List UInt8)else oB (idx d 0) fun f=>some f.1)
def s_l7Posts_m (l:List Z0) (j:List Z1) (i:List UInt8) (h:List UInt8):Option (Z14):=
 (iter (fun e (d,c,a,f,b)=>bif decide (a<(b.length:Int))then oB (idx b a) fun k=>(bif decide (k.1=d)then oB (idx b a) fun m=>(bif decide (m.2.1=c)then oB (idx b a) fun n=>(some n.2.2)else if fits (a+1)then e (d,c,(a+1),f,b)else none)else if fits (a+1)then e (d,c,(a+1),f,b)else none)else some ([]:Z5)) N (i,h,(0:Int),l,j))
def s_l12At_m (l:List Z0) (h:List Z1) (f:List UInt8) (e:List UInt8) (d:Int):Z19:=
 (oB (s_l7Posts_m N l h f e) fun k=>iter (fun j (c,b,a)=>bif decide (a<(b.length:Int))then oB (idx b a) fun i=>(bif decide (i.1=c)then oB (idx b a) fun m=>(some m.2)else if fits (a+1)then j (c,b,(a+1))else none)else some ([]:List Int)) N (d,k,(0:Int)))
def s_l7Long_m (u:List Z0) (r:List Z1) (y:List UInt8) (q:Int):Z17:=
 (iter (fun m (z,p,l,o,w,n)=>bif decide (o<(n.length:Int))then iter (fun k (e,d,f,a,c,h,b)=>oB (idx b a) fun t=>bif decide (c<(t.2.2.length:Int))then oB (idx b a) fun v=>(bif decide (v.1=e)then oB (idx b a) fun A=>(oB (idx A.2.2 c) fun B=>bif decide (B.1=d)then oB (idx b a) fun x=>(oB (idx x.2.2 c) fun j=>if fits (f+(j.2.length:Int))then if fits (c+1)then k (e,d,(f+(j.2.length:Int)),a,(c+1),h,b)else none else none)else if fits (c+1)then k (e,d,f,a,(c+1),h,b)else none)else if fits (a+1)then m (e,d,f,(a+1),h,b)else none)else if fits (a+1)then m (e,d,f,(a+1),h,b)else none) N (z,p,l,o,(0:Int),w,n)else some l) N (y,q,(0:Int),(0:Int),u,r))
def s_l12Total_m (p:List Z0) (n:List Z1) (u:List UInt8):Z17:=
 (iter (fun j (v,i,l,t,k)=>bif decide (l<(k.length:Int))then iter (fun r (d,e,a,c,f,b)=>oB (idx b a) fun o=>bif decide (c<(o.2.2.length:Int))then oB (idx b a) fun q=>(bif decide (q.1=d)then oB (idx b a) fun w=>(oB (idx w.2.2 c) fun m=>if fits (e+(m.2.length:Int))then if fits (c+1)then r (d,(e+(m.2.length:Int)),a,(c+1),f,b)else none else none)else if fits (a+1)then j (d,e,(a+1),f,b)else none)else if fits (a+1)then j (d,e,(a+1),f,b)else none) N (v,i,l,(0:Int),t,k)else some i) N (u,(0:Int),(0:Int),p,n))
def jbz (e:Int) (d:Int):Z17:=
 (iter (fun f (a,c,b)=>bif decide ((0:Int)<a)then if fits (a*2)then bif decide ((a*2)<=c)then if fits (a*2)then if fits (b+1)then f ((a*2),c,(b+1))else none else none else(some b)else none else some b) N (e,d,(0:Int)))
def jaY (N:Nat):(D:Nat)->Int->Int->Z17
 |0,_,_=>none
 |D+1,a,b=>
 meet (fun(g:Int×Int)=>
 match g with
 |(a2,b2)=>
 bif decide (b2=0)then
 some a2
 else
 if b2≠0 then
 oB (jaY N D b2 (a2.tmod b2)) fun r=>
 (some r)
 else none) fun J=>
 bif decide (a<0)then
 if fits (0-a)then J ((0-a),b)else none
 else
 J (a,b)
def jcf (e:Int) (b:Int):Option (Int×Int):=
 (meet (fun(h:Int×Int×Int×Int)=>match h with|(c,d,j,i)=>oB (jaY N N c d) fun a=>if a≠0 then if fits (c.tdiv a)then if a≠0 then if fits (d.tdiv a)then some ((c.tdiv a),(d.tdiv a))else none else none else none else none) fun f=>bif decide (b<0)then if fits (0-e)then if fits (0-b)then f ((0-e),(0-b),0,0)else none else none else f (e,b,0,0))
def s_l12Term_m (k:Int) (e:Int) (c:Int) (a:Int) (j:Int):Option (Int×Int):=
 (meet (fun(n:Int×Int×Int×Int×Int×Int)=>match n with|(b,m,l,i,o,p)=>oB (jbz N l m) fun d=>if fits (1+d)then if fits ((1+d)*22)then if fits (((1+d)*22)*b)then if fits (10*b)then if fits ((10*b)+3)then if fits (((10*b)+3)+i)then oB (jcf N (((1+d)*22)*b) (((10*b)+3)+i)) fun f=>(some (f.1,f.2))else none else none else none else none else none else none) fun h=>bif decide ((0:Int)<c)then if fits (e*a)then if fits ((e*a)*9)then if c≠0 then if fits (((e*a)*9).tdiv c)then h (k,a,j,(((e*a)*9).tdiv c),0,0)else none else none else none else none else h (k,a,j,1,0,0))
def s_l12Points_m (b:List Z0) (d:List Z1) (c:List UInt8) (f:List UInt8) (e:Int):Z17:=
 (oB (s_l12At_m N b d c f e) fun h=>bif decide ((h.length:Int)=0)then some 0 else oB (s_l7Long_m N b d c e) fun i=>oB (s_l12Total_m N b d c) fun j=>oB (s_l7Posts_m N b d c f) fun k=>oB (s_l12Term_m N (h.length:Int) i j (b.length:Int) (k.length:Int)) fun a=>if fits (a.1*1000)then if a.2≠0 then if fits ((a.1*1000).tdiv a.2)then some ((a.1*1000).tdiv a.2)else none else none else none)
def jxS (n:List Z2) (m:List UInt8):Option (Z2):=
 (iter (fun o (e,b,a,c)=>bif decide (c<(e.length:Int))then meet (fun(f:(List Z2)×Z2×Z2×Int)=>match f with|(i,l,k,d)=>oB (idx i d) fun j=>if k.length+j.length<=9223372036854775807 then if fits (d+1)then o (i,l,(k++j),(d+1))else none else none) fun h=>(bif decide ((0:Int)<c)then if a.length+b.length<=9223372036854775807 then h (e,b,(a++b),c)else none else h (e,b,a,c))else some a) N (n,m,([]:List UInt8),(0:Int)))
def jyf (c:List Z2) (c2:List Z4) (s:List Z0) (s2:List Z1) (q:Int) (q2:List UInt8) (q3:List Z2) (q4:Int) (q5:Int) (q6:List DQ) (id:Int):Option (Z21):=
 (oB (jxS N q3 ([32]:List UInt8)) fun r=>oB (ja5 N c c2 r) fun r2=>iter (fun go (id2,out,terms,i,s3,s4,q7,q8,q9,q10,q11,q12)=>bif decide (i<(terms.length:Int))then oB (idx terms i) fun e=>(oB (idx terms 0) fun e2=>if fits (e.2-e2.2)then if fits ((e.2-e2.2)-i)then oB (idx terms i) fun e3=>(oB (s_l12At_m N s3 s4 q8 e3.1 id2) fun r3=>iter (fun go2 (id3,out2,terms2,i2,shift,at0,list,k,s5,s6,q13,q14,q15,q16,q17,q18)=>bif decide (k<(at0.length:Int))then oB (idx at0 k) fun e4=>(bif decide (shift<=e4)then oB (idx at0 k) fun e5=>(if fits (e5-shift)then if room list.length ([(e5-shift)]:List Int).length 8 then if fits (k+1)then go2 (id3,out2,terms2,i2,shift,at0,(list++([(e5-shift)]:List Int)),(k+1),s5,s6,q13,q14,q15,q16,q17,q18)else none else none else none)else if fits (k+1)then go2 (id3,out2,terms2,i2,shift,at0,list,(k+1),s5,s6,q13,q14,q15,q16,q17,q18)else none)else if room out2.length ([list]:List (List Int)).length 24 then if fits (i2+1)then go (id3,(out2++([list]:List (List Int))),terms2,(i2+1),s5,s6,q13,q14,q15,q16,q17,q18)else none else none) N (id2,out,terms,i,((e.2-e2.2)-i),r3,([]:List Int),(0:Int),s3,s4,q7,q8,q9,q10,q11,q12))else none else none)else some out) N (id,([]:List (List Int)),r2,(0:Int),s,s2,q,q2,q3,q4,q5,q6))
def jxJ (N:Nat):(D:Nat)->Z21->Int->Int->Int->Int->Z9
 |0,_,_,_,_,_=>none
 |D+1,lists,k,last,start,slop=>
 bif decide (k=(lists.length:Int))then
 if fits (last-start)then if fits ((lists.length:Int)-1)then if fits ((last-start)-((lists.length:Int)-1))then some (decide (((last-start)-((lists.length:Int)-1))<=slop))else none else none else none
 else
 iter (fun go (g:Z21×Int×Int×Int×Int×Int)=>
 match g with
 |(lists2,k2,last2,start2,slop2,i)=>
 oB (idx lists2 k2) fun e=>
 bif decide (i<(e.length:Int))then
 oB (idx lists2 k2) fun e2=>
 (oB (idx e2 i) fun e3=>
 bif decide (last2<e3)then
 if fits (k2+1)then oB (idx lists2 k2) fun e4=>
 (oB (idx e4 i) fun e5=>
 oB (jxJ N D lists2 (k2+1) e5 start2 slop2) fun r=>
 bif r then
 some true
 else
 if fits (i+1)then go (lists2,k2,last2,start2,slop2,(i+1))else none)else none
 else
 if fits (i+1)then go (lists2,k2,last2,start2,slop2,(i+1))else none)
 else
 some false) N (lists,k,last,start,slop,0)
def jyb (w:List (List Int)) (x:Int):Z19:=
 (iter (fun v (c,i,l,e)=>bif decide (e<(c.length:Int))then oB (idx c e) fun o=>(oB (jx3 N o) fun u=>bif !u then some ([]:List Int)else if fits (e+1)then v (c,i,l,(e+1))else none)else oB (jJ N (c.length:Int) 1 6) fun m=>bif !m then some ([]:List Int)else oB (jJ N i 0 5) fun q=>bif !q then some ([]:List Int)else iter (fun k (b,h,d,a)=>oB (idx b 0) fun p=>bif decide (a<(p.length:Int))then oB (idx b 0) fun y=>(oB (idx y a) fun A=>oB (idx b 0) fun t=>oB (idx t a) fun n=>oB (jxJ N N b 1 A n h) fun z=>bif z then oB (idx b 0) fun r=>(oB (idx r a) fun j=>if room d.length ([j]:List Int).length 8 then if fits (a+1)then k (b,h,(d++([j]:List Int)),(a+1))else none else none)else if fits (a+1)then k (b,h,d,(a+1))else none)else some d) N (c,i,l,(0:Int))) N (w,x,([]:List Int),(0:Int)))
def jx2 (o:List Z2) (p:List Z4) (f:List Z0) (e:List Z1) (j:Int) (l:List UInt8) (m:List Z2) (b:Int) (k:Int) (n:List DQ) (d:Int):Z17:=
 (oB (jyf N o p f e j l m b k n d) fun y=>bif decide ((y.length:Int)=0)then some 0 else oB (jyb N y b) fun r=>meet (fun(q:Int×Int×(List Z2)×(List Z4)×(List Z0)×(List Z1)×Int×Z2×(List Z2)×Int×Int×(List DQ))=>match q with|(K,T,R,B,Q,G,L,V,z,I,X,D)=>oB (jxS N z ([32]:List UInt8)) fun P=>oB (ja5 N R B P) fun H=>iter (fun S (v,i,a,h,c,u,A,C,x,E,W,aa,U)=>bif decide (c<(h.length:Int))then oB (idx h c) fun O=>(oB (s_l12Points_m N u A x O.1 v) fun w=>if fits (a+w)then if fits (c+1)then S (v,i,(a+w),h,(c+1),u,A,C,x,E,W,aa,U)else none else none)else if fits (a*i)then some (a*i)else none) N (K,T,(0:Int),H,(0:Int),Q,G,L,V,z,I,X,D)) fun t=>bif decide ((3:Int)<r.length)then t (d,3,o,p,f,e,j,l,m,b,k,n)else t (d,(r.length:Int),o,p,f,e,j,l,m,b,k,n))
def s_l5Min_m (N:Nat) (a:Int) (b:Int):Z17:=
 (bif decide (a<b)then some a else some b)
def s_l5Far_m (G:List UInt8) (c:List UInt8):Z17:=
 (if fits ((c.length:Int)+1)then if((c.length:Int)+1)=((c.length:Int)+1)/\0<=((c.length:Int)+1)/\((c.length:Int)+1)*8<=140737488355328/\((c.length:Int)+1)<=140737488355328 then iter (fun K (t,o,l,d)=>bif decide (d<=(o.length:Int))then if 0<=d/\d<(l.length:Int)then oB (l[d.toNat]?) fun S=>(if fits (d+1)then K (t,o,(l.set d.toNat d),(d+1))else none)else none else iter (fun E (v,k,e,m)=>bif decide (m<(v.length:Int))then if 0<=(0:Int)/\(0:Int)<e.length then oB (e[(0:Int).toNat]?) fun z=>(if fits (m+1)then if 0<=(0:Int)/\(0:Int)<e.length then oB (e[(0:Int).toNat]?) fun R=>(iter (fun A (j,h,q,i,p,n)=>bif decide (n<(h.length:Int))then meet (fun(f:Z25)=>match f with|(H,y,b,P,a,B)=>if fits (a+1)then if 0<=(a+1)/\(a+1)<(b.length:Int)then oB (b[(a+1).toNat]?) fun C=>(if fits (a+1)then if 0<=a/\a<(b.length:Int)then oB (b[a.toNat]?) fun I=>(if fits (a+1)then if 0<=(a+1)/\(a+1)<(b.length:Int)then oB (b[(a+1).toNat]?) fun x=>(oB (s_l5Min_m N I x) fun u=>if fits (u+1)then oB (s_l5Min_m N B (u+1)) fun w=>(if 0<=(a+1)/\(a+1)<(b.length:Int)then oB (b[(a+1).toNat]?) fun Q=>(if fits (a+1)then A (H,y,(b.set (a+1).toNat w),P,C,(a+1))else none)else none)else none)else none else none)else none else none)else none else none) fun r=>(oB (idx j i) fun L=>oB (idx h n) fun O=>bif !decide ((L.toNat:Int)=(O.toNat:Int))then if fits (p+1)then r (j,h,q,i,n,(p+1))else none else r (j,h,q,i,n,p))else if fits (i+1)then E (j,h,q,(i+1))else none) N (v,k,(e.set (0:Int).toNat (m+1)),m,z,(0:Int)))else none else none)else none else if 0<=(k.length:Int)/\(k.length:Int)<(e.length:Int)then oB (e[(k.length:Int).toNat]?) fun D=>(some D)else none) N (t,o,l,(0:Int))) N (G,c,(List.replicate ((c.length:Int)+1).toNat 0),(0:Int))else none else none)
def jx5 (w:List Z0) (u:List Z1) (z:Int) (q:List UInt8) (t:List Z2) (v:Int) (A:Int) (y:List DQ) (r:Int):Z17:=
 (iter (fun n (e,h,a,f,b,l,d,i,j,o,m)=>bif decide (a<(b.length:Int))then oB (idx b a) fun p=>(oB (idx i 0) fun x=>oB (s_l5Far_m N p.2.1 x) fun c=>bif !decide (p.1=d)then if fits (a+1)then n (e,h,(a+1),f,b,l,d,i,j,o,m)else none else bif decide (j<c)then if fits (a+1)then n (e,h,(a+1),f,b,l,d,i,j,o,m)else none else oB (s_l12Points_m N f b d p.2.1 e) fun k=>if fits (3-c)then if fits (k*(3-c))then if 3≠0 then if fits ((k*(3-c)).tdiv 3)then bif decide (h<((k*(3-c)).tdiv 3))then if fits (a+1)then n (e,((k*(3-c)).tdiv 3),(a+1),f,b,l,d,i,j,o,m)else none else(if fits (a+1)then n (e,h,(a+1),f,b,l,d,i,j,o,m)else none)else none else none else none else none)else some h) N (r,(0:Int),(0:Int),w,u,z,q,t,v,A,y))
def jxB (N:Nat):(D:Nat)->Z2->Z2->Z9
 |0,_,_=>none
 |D+1,p,s=>
 bif decide (p=([]:List UInt8))then
 some (decide (s=([]:List UInt8)))
 else
 oB (idx p 0) fun c=>
 bif decide ((c.toNat:Int)=42)then
 oB (cut p 1 (p.length:Int)) fun y=>
 (oB (jxB N D y s) fun r=>
 bif r then
 some true
 else
 bif !decide (s=([]:List UInt8))then
 oB (cut s 1 (s.length:Int)) fun y2=>
 (oB (jxB N D p y2) fun r2=>
 some r2)
 else
 some false)
 else
 bif !decide (s=([]:List UInt8))then
 oB (idx p 0) fun c2=>
 (bif decide ((c2.toNat:Int)=63)then
 oB (cut p 1 (p.length:Int)) fun y3=>
 (oB (cut s 1 (s.length:Int)) fun y4=>
 oB (jxB N D y3 y4) fun r3=>
 some r3)
 else
 oB (idx p 0) fun c3=>
 oB (idx s 0) fun c4=>
 bif decide ((c3.toNat:Int)=(c4.toNat:Int))then
 oB (cut p 1 (p.length:Int)) fun y5=>
 (oB (cut s 1 (s.length:Int)) fun y6=>
 oB (jxB N D y5 y6) fun r4=>
 some r4)
 else
 some false)
 else
 some false
def jyd (u:List Z0) (r:List Z1) (y:Int) (o:List UInt8) (q:List Z2) (t:Int) (z:Int) (w:List DQ) (p:Int):Z9:=
 (iter (fun k (d,a,e,b,h,c,f,m,l,j)=>bif decide (a<(b.length:Int))then oB (idx b a) fun i=>(bif decide (i.1=c)then oB (idx f 0) fun v=>(oB (jxB N N v i.2.1) fun x=>bif x then oB (s_l12At_m N e b c i.2.1 d) fun n=>(bif decide ((0:Int)<n.length)then some true else if fits (a+1)then k (d,(a+1),e,b,h,c,f,m,l,j)else none)else if fits (a+1)then k (d,(a+1),e,b,h,c,f,m,l,j)else none)else if fits (a+1)then k (d,(a+1),e,b,h,c,f,m,l,j)else none)else some false) N (p,(0:Int),u,r,y,o,q,t,z,w))
def jyV (N:Nat) (a:Bool):Z17:=
 (bif a then some 100 else some 0)
def jym (j:Int) (m:Z15) (d:Z10) (e:List UInt8):Z17:=
 (iter (fun i (c,a,l,f,b)=>bif decide (a<(b.length:Int))then oB (idx b a) fun h=>(bif decide (h.1=c)then oB (idx b a) fun k=>(some k.2)else if fits (a+1)then i (c,(a+1),l,f,b)else none)else some (-1)) N (e,(0:Int),j,m,d))
def s_l12Score_m (N:Nat):(D:Nat)->(List Z2)->(List Z4)->(List Z0)->(List Z1)->Int->Z2->(List Z2)->Int->Int->(List DQ)->Int->Z17
 |0,_,_,_,_,_,_,_,_,_,_,_=>none
 |D+1,c,c2,s,s2,q,q2,q3,q4,q5,q6,id=>
 bif decide (q=1)then
 some 100
 else
 bif decide (q=2)then
 oB (idx q3 0) fun e=>
 (oB (jyC N c c2 e) fun r=>
 oB (s_l12Points_m N s s2 q2 r id) fun r2=>
 some r2)
 else
 bif decide (q=3)then
 oB (jx2 N c c2 s s2 q q2 q3 q4 q5 q6 id) fun r3=>
 (some r3)
 else
 bif decide (q=4)then
 oB (jx5 N s s2 q q2 q3 q4 q5 q6 id) fun r4=>
 (some r4)
 else
 bif decide (q=5)then
 oB (jyd N s s2 q q2 q3 q4 q5 q6 id) fun r5=>
 (oB (jyV N r5) fun r6=>
 some r6)
 else
 bif decide (q=6)then
 oB (jyv N s s2 id) fun r7=>
 (oB (jym N r7.1 r7.2.1 r7.2.2 q2) fun r8=>
 oB (jJ N r8 q4 q5) fun r9=>
 oB (jyV N r9) fun r10=>
 some r10)
 else
 bif decide (q=10)then
 oB (idx q6 0) fun e2=>
 (oB (s_l12Score_m N D c c2 s s2 e2.kind e2.field e2.words e2.lo e2.hi e2.kids id) fun r11=>
 if fits (q4*r11)then some (q4*r11)else none)
 else
 bif decide (q=9)then
 oB (idx q6 1) fun e3=>
 (oB (s_l12Score_m N D c c2 s s2 e3.kind e3.field e3.words e3.lo e3.hi e3.kids id) fun r12=>
 bif decide ((0:Int)<r12)then
 some 0
 else
 oB (idx q6 0) fun e4=>
 oB (s_l12Score_m N D c c2 s s2 e4.kind e4.field e4.words e4.lo e4.hi e4.kids id) fun r13=>
 some r13)
 else
 iter (fun go (g:Int×Int×Int×(List Z2)×(List Z4)×(List Z0)×(List Z1)×Int×Z2×(List Z2)×Int×Int×(List DQ))=>
 match g with
 |(id2,sum,i,c3,c4,s3,s4,q7,q8,q9,q10,q11,q12)=>
 bif decide (i<(q12.length:Int))then
 oB (idx q12 i) fun e5=>
 (oB (s_l12Score_m N D c3 c4 s3 s4 e5.kind e5.field e5.words e5.lo e5.hi e5.kids id2) fun r14=>
 bif decide (r14=0)then
 bif decide (q7=7)then
 some 0
 else
 (if fits (sum+r14)then if fits (i+1)then go (id2,(sum+r14),(i+1),c3,c4,s3,s4,q7,q8,q9,q10,q11,q12)else none else none)
 else
 if fits (sum+r14)then if fits (i+1)then go (id2,(sum+r14),(i+1),c3,c4,s3,s4,q7,q8,q9,q10,q11,q12)else none else none)
 else
 some sum) N (id,0,0,c,c2,s,s2,q,q2,q3,q4,q5,q6)
end Go.Proofs.YtchgdmmcjgmfcaaGreatDoor
