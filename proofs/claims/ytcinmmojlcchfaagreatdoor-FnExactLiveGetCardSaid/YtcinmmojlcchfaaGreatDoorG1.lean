import Derived.Test.YtcinmmojlcchfaaGreatDoorG1A
set_option linter.unusedVariables false
set_option linter.unusedSimpArgs false
namespace Go.Proofs.YtcinmmojlcchfaaGreatDoor
open Go.RowKit Go.Proofs.Tryz
variable (N : Nat)
open Option renaming bind -> oB
def i_Seg_put_m (h:List UInt8) (f:List UInt8) (i:Int) (e:Int) (n:List Z0) (a:List Z2):Option ((List Z0)×(List Z2)):=
 (oB (k_slices_IndexFunc_146_m N a (h,f,i)) fun d=>bif decide (d<0)then if room a.length ([(h,f,([]:Z4))]:List Z2).length 56 then if 0<=(a.length:Int)/\(a.length:Int)<((a++([(h,f,([]:Z4))]:List Z2)).length:Int)then oB ((a++([(h,f,([]:Z4))]:List Z2))[(a.length:Int).toNat]?) fun b=>(if fits ((b.2.2.length:Int)-1)then bif decide (((b.2.2.length:Int)-1)<0)then oB ((a++([(h,f,([]:Z4))]:List Z2))[(a.length:Int).toNat]?) fun ao=>(if(a.length:Int).toNat=(a.length:Int).toNat then if room b.2.2.length ([(e,([]:List Int))]:Z4).length 32 then if(a.length:Int).toNat=(a.length:Int).toNat then oB ((a++([(h,f,([]:Z4))]:List Z2))[(a.length:Int).toNat]?) fun m=>(if fits (((b.2.2.length:Int)-1)+1)then oB (((a++([(h,f,([]:Z4))]:List Z2)).set (a.length:Int).toNat (m.1,m.2.1,(b.2.2++([(e,([]:List Int))]:Z4))))[(a.length:Int).toNat]?) fun r=>(oB (r.2.2[(((b.2.2.length:Int)-1)+1).toNat]?) fun x=>oB (((a++([(h,f,([]:Z4))]:List Z2)).set (a.length:Int).toNat (m.1,m.2.1,(b.2.2++([(e,([]:List Int))]:Z4))))[(a.length:Int).toNat]?) fun ag=>if(a.length:Int).toNat=(a.length:Int).toNat then oB (((a++([(h,f,([]:Z4))]:List Z2)).set (a.length:Int).toNat (m.1,m.2.1,(b.2.2++([(e,([]:List Int))]:Z4))))[(a.length:Int).toNat]?) fun ab=>(if(a.length:Int).toNat=(a.length:Int).toNat then if 0<=(((b.2.2.length:Int)-1)+1)/\(((b.2.2.length:Int)-1)+1)<(r.2.2.length:Int)then oB (r.2.2[(((b.2.2.length:Int)-1)+1).toNat]?) fun S=>(if(((b.2.2.length:Int)-1)+1).toNat=(((b.2.2.length:Int)-1)+1).toNat then if room x.2.length ([i]:List Int).length 8 then if 0<=(((b.2.2.length:Int)-1)+1)/\(((b.2.2.length:Int)-1)+1)<(r.2.2.length:Int)then if(((b.2.2.length:Int)-1)+1).toNat=(((b.2.2.length:Int)-1)+1).toNat then oB (r.2.2[(((b.2.2.length:Int)-1)+1).toNat]?) fun G=>(some (n,(((a++([(h,f,([]:Z4))]:List Z2)).set (a.length:Int).toNat (m.1,m.2.1,(b.2.2++([(e,([]:List Int))]:Z4)))).modify ((a.length:Int).toNat) fun z=>(z.1,z.2.1,(r.2.2.set (((b.2.2.length:Int)-1)+1).toNat (G.1,(x.2++([i]:List Int))))))))else none else none else none else none)else none else none)else none)else none)else none else none else none)else(oB ((a++([(h,f,([]:Z4))]:List Z2))[(a.length:Int).toNat]?) fun af=>if(a.length:Int).toNat=(a.length:Int).toNat then if 0<=((b.2.2.length:Int)-1)/\((b.2.2.length:Int)-1)<(b.2.2.length:Int)then oB (b.2.2[((b.2.2.length:Int)-1).toNat]?) fun L=>(bif !decide (L.1=e)then oB ((a++([(h,f,([]:Z4))]:List Z2))[(a.length:Int).toNat]?) fun T=>(if(a.length:Int).toNat=(a.length:Int).toNat then if room b.2.2.length ([(e,([]:List Int))]:Z4).length 32 then if(a.length:Int).toNat=(a.length:Int).toNat then oB ((a++([(h,f,([]:Z4))]:List Z2))[(a.length:Int).toNat]?) fun k=>(if fits (((b.2.2.length:Int)-1)+1)then oB (((a++([(h,f,([]:Z4))]:List Z2)).set (a.length:Int).toNat (k.1,k.2.1,(b.2.2++([(e,([]:List Int))]:Z4))))[(a.length:Int).toNat]?) fun o=>(oB (o.2.2[(((b.2.2.length:Int)-1)+1).toNat]?) fun w=>oB (((a++([(h,f,([]:Z4))]:List Z2)).set (a.length:Int).toNat (k.1,k.2.1,(b.2.2++([(e,([]:List Int))]:Z4))))[(a.length:Int).toNat]?) fun aj=>if(a.length:Int).toNat=(a.length:Int).toNat then oB (((a++([(h,f,([]:Z4))]:List Z2)).set (a.length:Int).toNat (k.1,k.2.1,(b.2.2++([(e,([]:List Int))]:Z4))))[(a.length:Int).toNat]?) fun U=>(if(a.length:Int).toNat=(a.length:Int).toNat then if 0<=(((b.2.2.length:Int)-1)+1)/\(((b.2.2.length:Int)-1)+1)<(o.2.2.length:Int)then oB (o.2.2[(((b.2.2.length:Int)-1)+1).toNat]?) fun an=>(if(((b.2.2.length:Int)-1)+1).toNat=(((b.2.2.length:Int)-1)+1).toNat then if room w.2.length ([i]:List Int).length 8 then if 0<=(((b.2.2.length:Int)-1)+1)/\(((b.2.2.length:Int)-1)+1)<(o.2.2.length:Int)then if(((b.2.2.length:Int)-1)+1).toNat=(((b.2.2.length:Int)-1)+1).toNat then oB (o.2.2[(((b.2.2.length:Int)-1)+1).toNat]?) fun H=>(some (n,(((a++([(h,f,([]:Z4))]:List Z2)).set (a.length:Int).toNat (k.1,k.2.1,(b.2.2++([(e,([]:List Int))]:Z4)))).modify ((a.length:Int).toNat) fun D=>(D.1,D.2.1,(o.2.2.set (((b.2.2.length:Int)-1)+1).toNat (H.1,(w.2++([i]:List Int))))))))else none else none else none else none)else none else none)else none)else none)else none else none else none)else if(a.length:Int).toNat=(a.length:Int).toNat then oB (b.2.2[((b.2.2.length:Int)-1).toNat]?) fun u=>(oB ((a++([(h,f,([]:Z4))]:List Z2))[(a.length:Int).toNat]?) fun am=>if(a.length:Int).toNat=(a.length:Int).toNat then oB ((a++([(h,f,([]:Z4))]:List Z2))[(a.length:Int).toNat]?) fun aa=>(if(a.length:Int).toNat=(a.length:Int).toNat then if 0<=((b.2.2.length:Int)-1)/\((b.2.2.length:Int)-1)<(b.2.2.length:Int)then oB (b.2.2[((b.2.2.length:Int)-1).toNat]?) fun ap=>(if((b.2.2.length:Int)-1).toNat=((b.2.2.length:Int)-1).toNat then if room u.2.length ([i]:List Int).length 8 then if 0<=((b.2.2.length:Int)-1)/\((b.2.2.length:Int)-1)<(b.2.2.length:Int)then if((b.2.2.length:Int)-1).toNat=((b.2.2.length:Int)-1).toNat then oB (b.2.2[((b.2.2.length:Int)-1).toNat]?) fun P=>(some (n,((a++([(h,f,([]:Z4))]:List Z2)).modify ((a.length:Int).toNat) fun C=>(C.1,C.2.1,(b.2.2.set ((b.2.2.length:Int)-1).toNat (P.1,(u.2++([i]:List Int))))))))else none else none else none else none)else none else none)else none)else none)else none else none)else none)else none else none else if 0<=d/\d<(a.length:Int)then oB (a[d.toNat]?) fun c=>(if fits ((c.2.2.length:Int)-1)then bif decide (((c.2.2.length:Int)-1)<0)then oB (a[d.toNat]?) fun aq=>(if d.toNat=d.toNat then if room c.2.2.length ([(e,([]:List Int))]:Z4).length 32 then if d.toNat=d.toNat then oB (a[d.toNat]?) fun j=>(if fits (((c.2.2.length:Int)-1)+1)then oB ((a.set d.toNat (j.1,j.2.1,(c.2.2++([(e,([]:List Int))]:Z4))))[d.toNat]?) fun q=>(oB (q.2.2[(((c.2.2.length:Int)-1)+1).toNat]?) fun A=>oB ((a.set d.toNat (j.1,j.2.1,(c.2.2++([(e,([]:List Int))]:Z4))))[d.toNat]?) fun ah=>if d.toNat=d.toNat then oB ((a.set d.toNat (j.1,j.2.1,(c.2.2++([(e,([]:List Int))]:Z4))))[d.toNat]?) fun ac=>(if d.toNat=d.toNat then if 0<=(((c.2.2.length:Int)-1)+1)/\(((c.2.2.length:Int)-1)+1)<(q.2.2.length:Int)then oB (q.2.2[(((c.2.2.length:Int)-1)+1).toNat]?) fun W=>(if(((c.2.2.length:Int)-1)+1).toNat=(((c.2.2.length:Int)-1)+1).toNat then if room A.2.length ([i]:List Int).length 8 then if 0<=(((c.2.2.length:Int)-1)+1)/\(((c.2.2.length:Int)-1)+1)<(q.2.2.length:Int)then if(((c.2.2.length:Int)-1)+1).toNat=(((c.2.2.length:Int)-1)+1).toNat then oB (q.2.2[(((c.2.2.length:Int)-1)+1).toNat]?) fun K=>(some (n,((a.set d.toNat (j.1,j.2.1,(c.2.2++([(e,([]:List Int))]:Z4)))).modify d.toNat fun B=>(B.1,B.2.1,(q.2.2.set (((c.2.2.length:Int)-1)+1).toNat (K.1,(A.2++([i]:List Int))))))))else none else none else none else none)else none else none)else none)else none)else none else none else none)else(oB (a[d.toNat]?) fun ae=>if d.toNat=d.toNat then if 0<=((c.2.2.length:Int)-1)/\((c.2.2.length:Int)-1)<(c.2.2.length:Int)then oB (c.2.2[((c.2.2.length:Int)-1).toNat]?) fun Q=>(bif !decide (Q.1=e)then oB (a[d.toNat]?) fun X=>(if d.toNat=d.toNat then if room c.2.2.length ([(e,([]:List Int))]:Z4).length 32 then if d.toNat=d.toNat then oB (a[d.toNat]?) fun l=>(if fits (((c.2.2.length:Int)-1)+1)then oB ((a.set d.toNat (l.1,l.2.1,(c.2.2++([(e,([]:List Int))]:Z4))))[d.toNat]?) fun p=>(oB (p.2.2[(((c.2.2.length:Int)-1)+1).toNat]?) fun E=>oB ((a.set d.toNat (l.1,l.2.1,(c.2.2++([(e,([]:List Int))]:Z4))))[d.toNat]?) fun V=>if d.toNat=d.toNat then oB ((a.set d.toNat (l.1,l.2.1,(c.2.2++([(e,([]:List Int))]:Z4))))[d.toNat]?) fun al=>(if d.toNat=d.toNat then if 0<=(((c.2.2.length:Int)-1)+1)/\(((c.2.2.length:Int)-1)+1)<(p.2.2.length:Int)then oB (p.2.2[(((c.2.2.length:Int)-1)+1).toNat]?) fun ai=>(if(((c.2.2.length:Int)-1)+1).toNat=(((c.2.2.length:Int)-1)+1).toNat then if room E.2.length ([i]:List Int).length 8 then if 0<=(((c.2.2.length:Int)-1)+1)/\(((c.2.2.length:Int)-1)+1)<(p.2.2.length:Int)then if(((c.2.2.length:Int)-1)+1).toNat=(((c.2.2.length:Int)-1)+1).toNat then oB (p.2.2[(((c.2.2.length:Int)-1)+1).toNat]?) fun O=>(some (n,((a.set d.toNat (l.1,l.2.1,(c.2.2++([(e,([]:List Int))]:Z4)))).modify d.toNat fun t=>(t.1,t.2.1,(p.2.2.set (((c.2.2.length:Int)-1)+1).toNat (O.1,(E.2++([i]:List Int))))))))else none else none else none else none)else none else none)else none)else none)else none else none else none)else if d.toNat=d.toNat then oB (c.2.2[((c.2.2.length:Int)-1).toNat]?) fun v=>(oB (a[d.toNat]?) fun ak=>if d.toNat=d.toNat then oB (a[d.toNat]?) fun R=>(if d.toNat=d.toNat then if 0<=((c.2.2.length:Int)-1)/\((c.2.2.length:Int)-1)<(c.2.2.length:Int)then oB (c.2.2[((c.2.2.length:Int)-1).toNat]?) fun ad=>(if((c.2.2.length:Int)-1).toNat=((c.2.2.length:Int)-1).toNat then if room v.2.length ([i]:List Int).length 8 then if 0<=((c.2.2.length:Int)-1)/\((c.2.2.length:Int)-1)<(c.2.2.length:Int)then if((c.2.2.length:Int)-1).toNat=((c.2.2.length:Int)-1).toNat then oB (c.2.2[((c.2.2.length:Int)-1).toNat]?) fun I=>(some (n,(a.modify d.toNat fun y=>(y.1,y.2.1,(c.2.2.set ((c.2.2.length:Int)-1).toNat (I.1,(v.2++([i]:List Int))))))))else none else none else none else none)else none else none)else none)else none)else none else none)else none)else none)
theorem jky :mK 122 ⟨⟨[.box 900000 0,pS,.agg [pS,pI],pI],[(900000,false,[.tre 850000 Y4 95,.tre 850001 Y6 167])]⟩,⟨[.tup []],[(900000,false,[.tre 850000 Y4 95,.tre 1 Y6 167])]⟩,c6A (i_Seg_put_m N)⟩:=
 mO (fC (jrl N) ja) func122 rfl N (.seq .no (.seq .no (.seq .no (.seq .no (.seq .no (.seq .no (.touch [.out 9 [(2,79,241,10),(1,88,3,0)]]))))))) _ (wr:=[33,34,70,71,91,92]) (rs:=[900000,850000,850001]) (dw:=[16,33,70])
noncomputable def jaS (N:Nat) (a:List Z2) (b:Unit):Option (List Z2):=jWO a
 
noncomputable def jjA (N:Nat):Model:=⟨⟨[.tre 800000 Y6 167,.clo 124 []],[]⟩,⟨[.tup [],.tre 800000 Y6 167],[]⟩,c2A (jaS N)⟩
theorem jtu :mK 123 (jjA N):=jW9
def jmK :Sh:=⟨.dead:: .dead:: .box 2 0:: .dead:: .box 4 0:: .box 5 0::dz 19 (.pv Y3::pI::pI::dz 32 []),[(2,false,[.pv (.sl .str),.pv Y14]),(4,false,[.nils,.nils]),(5,false,[.tre 700500 Y4 95,.tre 700501 Y6 167])]⟩
def jor :Sh:=⟨.dead:: .dead:: .box 2 0:: .dead:: .box 4 0:: .box 5 0:: .dead:: .box 7 0::dz 17 (.pv Y3::pI::pI::dz 4 (.pv Y17::pI::pI::dz 25 [])),[(2,false,[.pv (.sl .str),.pv Y14]),(4,false,[.nils,.nils]),(5,false,[.tre 700500 Y4 95,.tre 700501 Y6 167]),(7,false,[pI,.pv Y17,.pv Y13])]⟩
def jnj :Sh:=⟨.dead:: .dead:: .box 2 0:: .dead:: .box 4 0:: .box 5 0:: .dead:: .box 7 0:: .dead:: .box 9 0::dz 15 (.pv Y3::pI::pI::dz 4 (.pv Y17::pI::pI::dz 6 (.own 600041 Y15 162 true::pI::pI::dz 16 []))),[(2,false,[.pv (.sl .str),.pv Y14]),(4,false,[.nils,.nils]),(5,false,[.tre 700500 Y4 95,.tre 700501 Y6 167]),(7,false,[pI,.pv Y17,.pv Y13]),(9,false,[pS,pS])]⟩
noncomputable def jbT (c:List Z1) (c2:List Z5) (docs:List Z0):Option ((List Z0)×(List Z2)):=
 (oB (jaj N c c2) fun r=>bif !r then some (([]:List Z0),([]:List Z2))else oB (jbf N docs) fun r2=>bif !r2 then some (([]:List Z0),([]:List Z2))else oB (jbV N docs) fun r3=>iter (fun go (t25,t26,t27,c3,c4,s,s2)=>bif decide (t27<t26)then oB (idx t25 t27) fun e=>(iter (fun go2 (t252,t262,t272,t32,t33,t34,c5,c6,s3,s4,d,d2,d3)=>bif decide (t34<t33)then oB (idx t32 t34) fun e2=>(oB (jbw N c5 c6 e2.2) fun r4=>iter (fun go3 (t253,t263,t273,t322,t332,t342,t41,t42,t43,c7,c8,s5,s6,d4,d5,d6,f,f2)=>bif decide (t43<t42)then oB (idx t41 t43) fun e3=>(oB (i_Seg_put_m N f e3.1 e3.2 d4 s5 s6) fun r5=>if fits (t43+1)then go3 (t253,t263,t273,t322,t332,t342,t41,t42,(t43+1),c7,c8,r5.1,r5.2,d4,d5,d6,f,f2)else none)else if fits (t342+1)then go2 (t253,t263,t273,t322,t332,(t342+1),c7,c8,s5,s6,d4,d5,d6)else none) N (t252,t262,t272,t32,t33,t34,r4,(r4.length:Int),(0:Int),c5,c6,s3,s4,d,d2,d3,e2.1,e2.2))else if fits (t272+1)then go (t252,t262,(t272+1),c5,c6,s3,s4)else none) N (t25,t26,t27,e.2.1,(e.2.1.length:Int),(0:Int),c3,c4,s,s2,e.1,e.2.1,e.2.2))else oB (jaS N s2 ()) fun r6=>some (s,r6)) N (docs,(docs.length:Int),(0:Int),c,c2,r3,([]:List Z2)))
theorem jqC :mK 51 (bX [.agg [.pv (.sl .str),.pv Y14],.pv Y3] [.agg [.own 1 Y4 95 true,.own 2 Y6 167 true]] (c3A (jbT N))):=
 mO (fC (jdX N) (fC (jjU N) (fC (joC N) (fC (jgO N) (fC (jky N) (fC (jtu N) ja)))))) func51 rfl N (.seq .no (.seq .no (.seq .no (.seq (.seq .no (.block (.loop jmK (.seq .no (.seq .no (.seq (.block (.seq .no (.seq .no (.block (.loop jor (.seq .no (.seq .no (.seq (.block (.seq .no (.seq .no (.block (.loop jnj .no))))) .no)))))))) .no)))))) .no)))) _ (wr:=[23]) (dw:=[22,23])
def jtB :Sh:=⟨.pv Y19:: .pv Y19::dz 10 (pI::pI::dz 12 []),[]⟩
def jbX (b:List Int) (f:List Int):Z8:=
 (bif !decide ((b.length:Int)=(f.length:Int))then some false else iter (fun i (d,c,e,a)=>bif decide (a<e)then oB (idx d a) fun h=>(oB (idx c a) fun j=>bif !decide (h=j)then some false else if fits (a+1)then i (d,c,e,(a+1))else none)else some true) N (b,f,(b.length:Int),(0:Int)))
theorem jqi :mK 318 (bX [.pv Y19,.pv Y19] [pB] (c2A (jbX N))):=
 mO ja func318 rfl N (.seq .no (.seq .no (.seq (.seq .no (.block (.loop jtB .no))) .no))) _
def jcp (e:Int) (d:List Int) (a:Int) (c:List Int):Z8:=
 (bif decide (e=a)then oB (jbX N d c) fun b=>(some b)else some false)
theorem jth :mK 270 (bX [.agg [pI,.pv Y19],.agg [pI,.pv Y19]] [pB] (c4A (jcp N))):=
 mO (fC (jqi N) ja) func270 rfl N .no _
def jlX :Sh:=⟨.dead:: .pv Y11:: .clo 270 []::dz 12 (.pv Y11::pI::pI::dz 14 []),[]⟩
def jb6 (b:Z4) (d:Z4) (n:Unit):Z8:=
 (bif !decide ((b.length:Int)=(d.length:Int))then some false else iter (fun k (c,m,f,h,a)=>bif decide (a<h)then oB (idx f a) fun e=>(oB (idx c a) fun i=>oB (jcp N e.1 e.2 i.1 i.2) fun j=>bif !j then some false else if fits (a+1)then k (c,(),f,h,(a+1))else none)else some true) N (d,(),b,(b.length:Int),(0:Int)))
theorem jnG :mK 269 (bX [.pv Y11,.pv Y11,.clo 270 []] [pB] (c3A (jb6 N))):=
 mO (fC (jth N) ja) func269 rfl N (.seq .no (.seq .no (.seq (.seq .no (.block (.loop jlX .no))) .no))) _
def jcz (h:List UInt8) (f:List UInt8) (b:Z4) (a:List UInt8) (e:List UInt8) (d:Z4):Z8:=
 (bif decide (h=a)then bif decide (f=e)then oB (jb6 N b d ()) fun c=>(some c)else(some false)else some false)
theorem jp4 :mK 219 (bX [.agg [pS,pS,.pv Y11],.agg [pS,pS,.pv Y11]] [pB] (c6A (jcz N))):=
 mO (fC (jnG N) ja) func219 rfl N .no _
def jlD :Sh:=⟨.dead:: .pv Y5:: .clo 219 []::dz 12 (.pv Y5::pI::pI::dz 14 []),[]⟩
def jcn (b:List Z2) (f:List Z2) (n:Unit):Z8:=
 (bif !decide ((b.length:Int)=(f.length:Int))then some false else iter (fun k (e,m,h,i,a)=>bif decide (a<i)then oB (idx h a) fun c=>(oB (idx e a) fun d=>oB (jcz N c.1 c.2.1 c.2.2 d.1 d.2.1 d.2.2) fun j=>bif !j then some false else if fits (a+1)then k (e,(),h,i,(a+1))else none)else some true) N (f,(),b,(b.length:Int),(0:Int)))
theorem jsa :mK 218 (bX [.pv Y5,.pv Y5,.clo 219 []] [pB] (c3A (jcn N))):=
 mO (fC (jp4 N) ja) func218 rfl N (.seq .no (.seq .no (.seq (.seq .no (.block (.loop jlD .no))) .no))) _
noncomputable def jbN (c:List Z1) (a:List Z5) (b:List Z0) (i:List Z2):Z8:=
 (oB (jaj N c a) fun e=>bif !e then some false else oB (jbf N b) fun h=>bif !h then some false else oB (jbT N c a b) fun d=>oB (jcn N d.2 i ()) fun f=>some f)
theorem joa :mK 149 (bX [.agg [.pv (.sl .str),.pv Y14],.agg [.pv Y3,.pv Y5]] [pB] (c4A (jbN N))):=
 mO (fC (jdX N) (fC (jjU N) (fC (jqC N) (fC (jsa N) ja)))) func149 rfl N .no _
def jDT :Sh:=⟨.pv Y19::dz 4 (.pv Y19::pI::pI::dz 24 []),[]⟩
def jx1 (d:List Int):Z8:=
 (iter (fun h (b,e,c,a)=>bif decide (a<c)then oB (idx e a) fun f=>(oB (jm N f 0 999999999) fun i=>bif !i then some false else bif decide ((0:Int)<a)then if fits (a-1)then oB (idx b (a-1)) fun j=>(bif decide (f<=j)then some false else if fits (a+1)then h (b,e,c,(a+1))else none)else none else if fits (a+1)then h (b,e,c,(a+1))else none)else some (decide ((b.length:Int)<=60))) N (d,d,(d.length:Int),(0:Int)))
theorem jAN :mK 150 (bX [.pv Y19] [pB] (c1A (jx1 N))):=
 mO (fC (jY N) ja) func150 rfl N (.seq .no (.seq (.seq .no (.block (.loop jDT .no))) .no)) _
def jqv :Sh:=⟨.dead::pI:: .dead:: .dead:: .box 4 0::dz 6 (.pv Y3::pI::pI::dz 10 []),[(4,false,[pI,.nils,.nils])]⟩
def i_Seg_doc_m (c:(List Z0)×(List Z2)) (h:Int):Option (Int×Z11×Z7×Bool):=
 (iter (fun j (f,d,e,b,i)=>bif decide (b<e)then oB (idx d b) fun a=>(bif decide (a.1=f)then some (a.1,a.2.1,a.2.2,true)else if fits (b+1)then j (f,d,e,(b+1),i)else none)else some (0,([]:Z6),([]:Z3),false)) N (h,c.1,(c.1.length:Int),(0:Int),(0:Int)))
theorem jlU :mK 151 (bX [.ptr Y2,pI] [.tup [.agg [pI,.pv Y17,.pv Y13],pB]] (c2A (i_Seg_doc_m N))):=
 mO ja func151 rfl N (.seq .no (.seq (.seq .no (.block (.loop jqv .no))) .no)) _
def jIP :Sh:=⟨.pv Y19::pI::dz 5 (pI::pI::dz 10 []),[]⟩
def k_slices_Index_484_m (d:List Int) (f:Int):Z13:=
 (iter (fun i (c,e,b,a)=>bif decide (a<b)then oB (idx c a) fun h=>(bif decide (e=h)then some a else if fits (a+1)then i (c,e,b,(a+1))else none)else some (-1)) N (d,f,(d.length:Int),(0:Int)))
theorem jJu :mK 271 (bX [.pv Y19,pI] [pI] (c2A (k_slices_Index_484_m N))):=
 mO ja func271 rfl N (.seq .no (.seq (.seq .no (.block (.loop jIP .no))) .no)) _
def k_slices_Contains_735_m (c:List Int) (a:Int):Z8:=
 (oB (k_slices_Index_484_m N c a) fun b=>some (decide ((0:Int)<=b)))
theorem jIT :mK 220 (bX [.pv Y19,pI] [pB] (c2A (k_slices_Contains_735_m N))):=
 mO (fC (jJu N) ja) func220 rfl N .no _
def jIi :Sh:=⟨.dead:: .box 1 0:: .dead:: .own 600003 Y4 95 false::dz 5 (.pv Y3::pI::pI::dz 15 []),[(1,false,[.pv Y3,.pv Y5,.pv Y19])]⟩
def i_Live_alive_m (c:List Z0) (o:List Z2) (l:List Int):Z14:=
 (iter (fun k (b,f,d,a,i,j,h)=>bif decide (a<d)then oB (idx f a) fun e=>(oB (k_slices_Contains_735_m N h e.1) fun m=>bif !m then if room b.length ([e]:List Z0).length 56 then if fits (a+1)then k ((b++([e]:List Z0)),f,d,(a+1),i,j,h)else none else none else if fits (a+1)then k (b,f,d,(a+1),i,j,h)else none)else some b) N (([]:List Z0),c,(c.length:Int),(0:Int),c,o,l))
theorem jH4 :mK 152 (bX [.agg [.pv Y3,.pv Y5,.pv Y19]] [.own 1 Y4 95 false] (c3A (i_Live_alive_m N))):=
 mO (fC (jIT N) ja) func152 rfl N (.seq .no (.seq .no (.seq (.seq .no (.block (.loop jIi .no))) .no))) _
def jIO :Sh:=⟨dz 3 (.box 3 0::dz 17 (.pv Y19::pI::pI::dz 16 [])),[(3,true,[.pv Y3,.pv Y5,.pv Y19])]⟩
noncomputable def i_liveOk_m (m:List Z1) (n:List Z5) (i:List Z0) (f:List Z2) (b:List Int):Z8:=
 (oB (jbN N m n i f) fun p=>bif !p then some false else oB (jx1 N b) fun r=>bif !r then some false else iter (fun t (h,e,a,c,d,j)=>bif decide (a<e)then oB (idx h a) fun l=>(oB (i_Seg_doc_m N (c,d) l) fun k=>bif !k.2.2.2 then some false else if fits (a+1)then t (h,e,(a+1),c,d,j)else none)else oB (i_Live_alive_m N c d j) fun q=>some (decide ((0:Int)<q.length))) N (b,(b.length:Int),(0:Int),i,f,b))
theorem jJD :mK 72 (bX [.agg [.pv (.sl .str),.pv Y14],.agg [.pv Y3,.pv Y5,.pv Y19]] [pB] (c5A (i_liveOk_m N))):=
 mO (fC (joa N) (fC (jAN N) (fC (jlU N) (fC (jH4 N) ja)))) func72 rfl N (.seq .no (.seq .no (.seq (.seq .no (.block (.loop jIO .no))) .no))) _
def jl0 :Sh:=⟨.pv (.int .u64):: .dead::pI::dz 22 [],[]⟩
def k_math_bits_Len64_m (N:Nat) (c:Int):Z13:=
 (meet (fun(a:Int×Int)=>match a with|(b,d)=>meet (fun(a:Int×Int)=>match a with|(e,f)=>meet (fun(a:Int×Int)=>match a with|(m,h)=>oB (idx ([0,1,2,2,3,3,3,3,4,4,4,4,4,4,4,4,5,5,5,5,5,5,5,5,5,5,5,5,5,5,5,5,6,6,6,6,6,6,6,6,6,6,6,6,6,6,6,6,6,6,6,6,6,6,6,6,6,6,6,6,6,6,6,6,7,7,7,7,7,7,7,7,7,7,7,7,7,7,7,7,7,7,7,7,7,7,7,7,7,7,7,7,7,7,7,7,7,7,7,7,7,7,7,7,7,7,7,7,7,7,7,7,7,7,7,7,7,7,7,7,7,7,7,7,7,7,7,7,8,8,8,8,8,8,8,8,8,8,8,8,8,8,8,8,8,8,8,8,8,8,8,8,8,8,8,8,8,8,8,8,8,8,8,8,8,8,8,8,8,8,8,8,8,8,8,8,8,8,8,8,8,8,8,8,8,8,8,8,8,8,8,8,8,8,8,8,8,8,8,8,8,8,8,8,8,8,8,8,8,8,8,8,8,8,8,8,8,8,8,8,8,8,8,8,8,8,8,8,8,8,8,8,8,8,8,8,8,8,8,8,8,8,8,8,8,8,8,8,8,8,8,8,8,8,8,8]:List UInt8) (IntKind.u8.wrap m)) fun i=>if fits (h+(IntKind.i64.wrap (i.toNat:Int)))then some (h+(IntKind.i64.wrap (i.toNat:Int)))else none) fun j=>bif decide ((256:Int)<=e)then if 0<=(8:Int)then if fits (f+8)then j ((e.fdiv (2^(min (8:Int).toNat (IntKind.bits .u64)))),(f+8))else none else none else j (e,f)) fun k=>bif decide ((65536:Int)<=b)then if 0<=(16:Int)then if fits (d+16)then k ((b.fdiv (2^(min (16:Int).toNat (IntKind.bits .u64)))),(d+16))else none else none else k (b,d)) fun l=>bif decide ((4294967296:Int)<=c)then if 0<=(32:Int)then l ((c.fdiv (2^(min (32:Int).toNat (IntKind.bits .u64)))),32)else none else l (c,0))
theorem jrK :mK 256 (bX [.pv (.int .u64)] [pI] (c1A (k_math_bits_Len64_m N))):=
 mO ja func256 rfl N (.seq .no (.meet jl0 .no (.meet jl0 .no (.meet jl0 .no .no)))) _
def k_math_bits_Len_m (b:Int):Z13:=
 (oB (k_math_bits_Len64_m N b) fun a=>some a)
theorem jda :mK 203 (bX [.pv (.int .u64)] [pI] (c1A (k_math_bits_Len_m N))):=
 mO (fC (jrK N) ja) func203 rfl N .no _
def k_cmp_isNaN_538_m (N:Nat) (a:Int):Z8:=
 (some (!decide (a=a)))
theorem joK :mK 222 (bX [pI] [pB] (c1A (k_cmp_isNaN_538_m N))):=
 mO ja func222 rfl N .no _
def k_cmp_Compare_992_m (a:Int) (b:Int):Z13:=
 (oB (k_cmp_isNaN_538_m N a) fun d=>oB (k_cmp_isNaN_538_m N b) fun c=>bif d then bif c then some 0 else(some (-1))else bif c then some 1 else bif decide (a<b)then some (-1)else bif decide (b<a)then some 1 else some 0)
theorem jpP :mK 156 (bX [pI,pI] [pI] (c2A (k_cmp_Compare_992_m N))):=
 mO (fC (joK N) ja) func156 rfl N .no _
def i_allAlive_1_m (c:Int) (h:Z6) (d:Z3) (a:Int) (f:Z6) (e:Z3):Z13:=
 (oB (k_cmp_Compare_992_m N c a) fun b=>some b)
theorem jHC :mK 155 (bX [.agg [pI,.pv Y17,.pv Y13],.agg [pI,.pv Y17,.pv Y13]] [pI] (c6A (i_allAlive_1_m N))):=
 mO (fC (jpP N) ja) func155 rfl N .no _
def k_slices_nextPowerOfTwo_m (b:Int):Z13:=
 (oB (k_math_bits_Len_m N (IntKind.u64.wrap b)) fun a=>if 0<=a then some (IntKind.u64.wrap ((1:Int)*2^(min a.toNat (IntKind.bits .u64))))else none)
theorem jhv :mK 308 (bX [pI] [.pv (.int .u64)] (c1A (k_slices_nextPowerOfTwo_m N))):=
 mO (fC (jda N) ja) func308 rfl N .no _
def k__slices_xorshift_Next_m (N:Nat) (a:Int):Option (Int×Int):=
 (if 0<=(13:Int)then if 0<=(7:Int)then if 0<=(17:Int)then some ((bitsI .xor .u64 (bitsI .xor .u64 (bitsI .xor .u64 a (IntKind.u64.wrap (a*2^(min (13:Int).toNat (IntKind.bits .u64))))) ((bitsI .xor .u64 a (IntKind.u64.wrap (a*2^(min (13:Int).toNat (IntKind.bits .u64))))).fdiv (2^(min (7:Int).toNat (IntKind.bits .u64))))) (IntKind.u64.wrap ((bitsI .xor .u64 (bitsI .xor .u64 a (IntKind.u64.wrap (a*2^(min (13:Int).toNat (IntKind.bits .u64))))) ((bitsI .xor .u64 a (IntKind.u64.wrap (a*2^(min (13:Int).toNat (IntKind.bits .u64))))).fdiv (2^(min (7:Int).toNat (IntKind.bits .u64)))))*2^(min (17:Int).toNat (IntKind.bits .u64))))),(bitsI .xor .u64 (bitsI .xor .u64 (bitsI .xor .u64 a (IntKind.u64.wrap (a*2^(min (13:Int).toNat (IntKind.bits .u64))))) ((bitsI .xor .u64 a (IntKind.u64.wrap (a*2^(min (13:Int).toNat (IntKind.bits .u64))))).fdiv (2^(min (7:Int).toNat (IntKind.bits .u64))))) (IntKind.u64.wrap ((bitsI .xor .u64 (bitsI .xor .u64 a (IntKind.u64.wrap (a*2^(min (13:Int).toNat (IntKind.bits .u64))))) ((bitsI .xor .u64 a (IntKind.u64.wrap (a*2^(min (13:Int).toNat (IntKind.bits .u64))))).fdiv (2^(min (7:Int).toNat (IntKind.bits .u64)))))*2^(min (17:Int).toNat (IntKind.bits .u64))))))else none else none else none)
theorem jet :mK 309 ⟨⟨[.box 900000 0],[(900000,false,[.pv (.int .u64)])]⟩,⟨[.pv (.int .u64)],[(900000,false,[.pv (.int .u64)])]⟩,c1A (k__slices_xorshift_Next_m N)⟩:=
 mO ja func309 rfl N .no _ (rs:=[900000])
section
variable {α γ ρ : Type} (c : γ -> α -> α -> Option Int)
def swpG (d:List α) (i j:Int) (k:List α->Option ρ):Option ρ:=
 if 0<=j/\j<(d.length:Int)then oB (d[j.toNat]?) fun e=>if 0<=i/\i<(d.length:Int)then oB (d[i.toNat]?) fun e2=>
  if 0<=i/\i<(d.length:Int)then oB (d[i.toNat]?) fun e3=>if 0<=j/\j<((d.set i.toNat e).length:Int)then oB ((d.set i.toNat e)[j.toNat]?) fun e4=>k ((d.set i.toNat e).set j.toNat e2)
  else none else none else none else none
def cmpG (ks:γ) (d:List α) (i j:Int) (k:Int->Option ρ):Option ρ:=
 if 0<=i/\i<(d.length:Int)then oB (d[i.toNat]?) fun e=>if 0<=j/\j<(d.length:Int)then oB (d[j.toNat]?) fun e2=>oB (c ks e e2) k else none else none
def cmpP (ks:γ) (d:List α) (j:Int) (k:Int->Option ρ):Option ρ:=
 if 0<=j/\j<(d.length:Int)then oB (d[j.toNat]?) fun e=>if fits (j-1)then if 0<=(j-1)/\(j-1)<(d.length:Int)then oB (d[(j-1).toNat]?) fun e2=>oB (c ks e e2) k else none else none else none
def swpP (d:List α) (j:Int) (k:List α->Option ρ):Option ρ:=if fits (j-1)then if fits (j-1)then swpG d j (j-1) k else none else none
def insG (N:Nat) (d:List α) (a b:Int) (ks:γ):Option (List α):=
 if fits (a+1)then iter (fun go (g:List α×Int×Int×γ×Int)=>
  match g with
  |(d2,a2,b2,ks2,i)=>
  bif decide (i<b2)then
   iter (fun go2 (g:List α×Int×Int×γ×Int×Int)=>
    match g with
    |(d3,a3,b3,ks3,i2,j)=>
    bif decide (a3<j)then cmpP c ks3 d3 j fun r=>bif decide (r<0)then swpP d3 j fun d=>if fits (j-1)then go2 (d,a3,b3,ks3,i2,j-1)else none
     else if fits (i2+1)then go (d3,a3,b3,ks3,i2+1)else none
    else if fits (i2+1)then go (d3,a3,b3,ks3,i2+1)else none) N (d2,a2,b2,ks2,i,i)
  else some d2) N (d,a,b,ks,a+1)else none
def siftG (N:Nat) (data:List α) (lo:Int) (hi:Int) (first:Int) (cmp:γ):Option ((List α)):=
 (iter (fun go (g:(List α)×Int×Int×γ×Int)=>
   match g with
   |(data2,hi2,first2,cmp2,root)=>
   (if fits (2*root)then(if fits ((2*root)+1)then(bif(decide (hi2<=((2*root)+1)))then
      (some data2)
      else
      (meet (fun(g:(List α)×Int×Int×γ×Int×Int)=>
        match g with
        |(data3,hi3,first3,cmp3,root2,child)=>
        (if fits (first3+root2)then(if 0<=(first3+root2)/\(first3+root2)<(data3.length:Int)then
          (oB (data3[(first3+root2).toNat]?) fun e3=>
           (if fits (first3+child)then(if 0<=(first3+child)/\(first3+child)<(data3.length:Int)then
             (oB (data3[(first3+child).toNat]?) fun e4=>
              (oB (c cmp3 e3 e4) fun r2=>
               (bif(!(decide (r2<0)))then
                (some data3)
                else
                (if fits (first3+root2)then(if fits (first3+child)then(if fits (first3+child)then(if 0<=(first3+child)/\(first3+child)<(data3.length:Int)then
                    (oB (data3[(first3+child).toNat]?) fun e5=>
                     (if fits (first3+root2)then(if 0<=(first3+root2)/\(first3+root2)<(data3.length:Int)then
                       (oB (data3[(first3+root2).toNat]?) fun e6=>
                        (if 0<=(first3+root2)/\(first3+root2)<(data3.length:Int)then
                         (oB (data3[(first3+root2).toNat]?) fun e7=>
                          (if 0<=(first3+child)/\(first3+child)<((data3.set (first3+root2).toNat e5).length:Int)then
                           (oB ((data3.set (first3+root2).toNat e5)[(first3+child).toNat]?) fun e8=>
                            (go (((data3.set (first3+root2).toNat e5).set (first3+child).toNat e6),hi3,first3,cmp3,child)))
                           else none))
                         else none))
                       else none)else none))
                    else none)else none)else none)else none))))
             else none)else none))
          else none)else none)) fun J=>
       (if fits (((2*root)+1)+1)then(bif(decide ((((2*root)+1)+1)<hi2))then
         (if fits (first2+((2*root)+1))then(if 0<=(first2+((2*root)+1))/\(first2+((2*root)+1))<(data2.length:Int)then
           (oB (data2[(first2+((2*root)+1)).toNat]?) fun e=>
            (if fits (first2+((2*root)+1))then(if fits ((first2+((2*root)+1))+1)then(if 0<=((first2+((2*root)+1))+1)/\((first2+((2*root)+1))+1)<(data2.length:Int)then
               (oB (data2[((first2+((2*root)+1))+1).toNat]?) fun e2=>
                (oB (c cmp2 e e2) fun r=>
                 (bif(decide (r<0))then
                  (if fits (((2*root)+1)+1)then(J (data2,hi2,first2,cmp2,root,(((2*root)+1)+1)))else none)
                  else
                  (J (data2,hi2,first2,cmp2,root,((2*root)+1))))))
               else none)else none)else none))
           else none)else none)
         else
         (J (data2,hi2,first2,cmp2,root,((2*root)+1))))else none)))else none)else none)) N (data,hi,first,cmp,lo))
def heapG (N:Nat) (data:List α) (a:Int) (b:Int) (cmp:γ):Option ((List α)):=
 (if fits (b-a)then(if fits ((b-a)-1)then(if 2≠0 then
    (if fits (((b-a)-1).tdiv 2)then(iter (fun go (g:(List α)×γ×Int×Int×Int×Int)=>
       match g with
       |(data2,cmp2,first,lo,hi,i)=>
       (bif(decide ((0:Int)<=i))then
        (oB (siftG c N data2 i hi first cmp2) fun r=>
         (if fits (i-1)then(go (r,cmp2,first,lo,hi,(i-1)))else none))
        else
        (if fits (hi-1)then(iter (fun go2 (g:(List α)×γ×Int×Int×Int)=>
           match g with
           |(data3,cmp3,first2,lo2,i2)=>
           (bif(decide ((0:Int)<=i2))then
            (if fits (first2+i2)then(if fits (first2+i2)then swpG data3 first2 (first2+i2) fun d=>(oB (siftG c N d lo2 i2 first2 cmp3) fun r2=>
                       (if fits (i2-1)then(go2 (r2,cmp3,first2,lo2,(i2-1)))else none))else none)else none)
            else
            (some data3))) N (data2,cmp2,first,lo,(hi-1)))else none))) N (data,cmp,a,0,(b-a),(((b-a)-1).tdiv 2)))else none)
    else none)else none)else none)
def breakG (N:Nat) (data:List α) (a:Int) (b:Int) (cmp:γ):Option (List α):=
 (if fits (b-a)then(bif(decide ((8:Int)<=(b-a)))then
   (oB (k_slices_nextPowerOfTwo_m N (b-a)) fun r=>
    (if 4≠0 then
     (if fits ((b-a).tdiv 4)then(if fits (((b-a).tdiv 4)*2)then(if fits (a+(((b-a).tdiv 4)*2))then(if fits ((a+(((b-a).tdiv 4)*2))-1)then(iter (fun go (g:(List α)×Int×Int×Int×Int×Int)=>
           match g with
           |(data2,a2,length,modulus,idx0,random)=>
           (if 4≠0 then
            (if fits (length.tdiv 4)then(if fits ((length.tdiv 4)*2)then(if fits (a2+((length.tdiv 4)*2))then(if fits ((a2+((length.tdiv 4)*2))+1)then(bif(decide (idx0<=((a2+((length.tdiv 4)*2))+1)))then
                 (oB (k__slices_xorshift_Next_m N random) fun r2=>
                  (meet (fun(g:(List α)×Int×Int×Int×Int×Int×Int)=>
                    match g with
                    |(data3,a3,length2,modulus2,idx02,other,random2)=>
                    (if fits (a3+other)then(if fits (a3+other)then swpG data3 idx02 (a3+other) fun d=>(if fits (idx02+1)then(go (d,a3,length2,modulus2,(idx02+1),random2))else none)else none)else none)) fun J=>
                   (bif(decide (length<=(IntKind.i64.wrap (bitsI .and .u64 r2.1 (IntKind.u64.wrap (modulus-1))))))then
                    (if fits ((IntKind.i64.wrap (bitsI .and .u64 r2.1 (IntKind.u64.wrap (modulus-1))))-length)then(J (data2,a2,length,modulus,idx0,((IntKind.i64.wrap (bitsI .and .u64 r2.1 (IntKind.u64.wrap (modulus-1))))-length),r2.2))else none)
                    else
                    (J (data2,a2,length,modulus,idx0,(IntKind.i64.wrap (bitsI .and .u64 r2.1 (IntKind.u64.wrap (modulus-1)))),r2.2)))))
                 else
                 (some data2))else none)else none)else none)else none)
            else none)) N (data,a,(b-a),r,((a+(((b-a).tdiv 4)*2))-1),(IntKind.u64.wrap (b-a))))else none)else none)else none)else none)
     else none))
   else
   (some data))else none)
def order2G (N:Nat) (data:List α) (a:Int) (b:Int) (cmp:γ) (b2:Int):Option (Int×Int×(List α)×Int):=
 cmpG c cmp data b a fun r=>(bif(decide (r<0))then(if fits (b2+1)then(some (b,a,data,(b2+1)))else none)else(some (a,b,data,b2)))
def medianG (N:Nat) (data:List α) (a:Int) (b:Int) (c0:Int) (cmp:γ) (b2:Int):Option (Int×(List α)×Int):=
 (oB (order2G c N data a b cmp b2) fun r=>
  (oB (order2G c N r.2.2.1 r.2.1 c0 cmp r.2.2.2) fun r2=>
   (oB (order2G c N r2.2.2.1 r.1 r2.1 cmp r2.2.2.2) fun r3=>
    (some (r3.2.1,r3.2.2.1,r3.2.2.2)))))
def medianAdjacentG (N:Nat) (data:List α) (a:Int) (cmp:γ) (b:Int):Option (Int×(List α)×Int):=
 (if fits (a-1)then(if fits (a+1)then(oB (medianG c N data (a-1) a (a+1) cmp b) fun r=>
    (some (r.1,r.2.1,r.2.2)))else none)else none)
def choosePivotG (N:Nat) (data:List α) (a:Int) (b:Int) (cmp:γ):Option (Int×Int×(List α)):=
 (if fits (b-a)then(if 4≠0 then
   (if fits ((b-a).tdiv 4)then(if fits (((b-a).tdiv 4)*1)then(if fits (a+(((b-a).tdiv 4)*1))then(if 4≠0 then
       (if fits ((b-a).tdiv 4)then(if fits (((b-a).tdiv 4)*2)then(if fits (a+(((b-a).tdiv 4)*2))then(if 4≠0 then
           (if fits ((b-a).tdiv 4)then(if fits (((b-a).tdiv 4)*3)then(if fits (a+(((b-a).tdiv 4)*3))then(meet (fun(g:(List α)×Int×Int)=>
                match g with
                |(data3,j2,swaps2)=>
                (bif(decide (swaps2=0))then
                 (some (j2,1,data3))
                 else
                 (bif(decide (swaps2=12))then
                  (some (j2,2,data3))
                  else
                  (some (j2,0,data3))))) fun J=>
               (bif(decide ((8:Int)<=(b-a)))then
                (meet (fun(g:(List α)×γ×Int×Int×Int×Int)=>
                  match g with
                  |(data2,cmp2,i,j,k,swaps)=>
                  (oB (medianG c N data2 i j k cmp2 swaps) fun r4=>
                   (J (r4.2.1,r4.1,r4.2.2)))) fun J2=>
                 (bif(decide ((50:Int)<=(b-a)))then
                  (oB (medianAdjacentG c N data (a+(((b-a).tdiv 4)*1)) cmp 0) fun r=>
                   (oB (medianAdjacentG c N r.2.1 (a+(((b-a).tdiv 4)*2)) cmp r.2.2) fun r2=>
                    (oB (medianAdjacentG c N r2.2.1 (a+(((b-a).tdiv 4)*3)) cmp r2.2.2) fun r3=>
                     (J2 (r3.2.1,cmp,r.1,r2.1,r3.1,r3.2.2)))))
                  else
                  (J2 (data,cmp,(a+(((b-a).tdiv 4)*1)),(a+(((b-a).tdiv 4)*2)),(a+(((b-a).tdiv 4)*3)),0))))
                else
                (J (data,(a+(((b-a).tdiv 4)*2)),0))))else none)else none)else none)
           else none)else none)else none)else none)
       else none)else none)else none)else none)
   else none)else none)
def reverseRangeG (N:Nat) (data:List α) (a:Int) (b:Int) (cmp:γ):Option ((List α)):=
 (if fits (b-1)then(iter (fun go (g:(List α)×Int×Int)=>
    match g with
    |(data2,i,j)=>
    (bif(decide (i<j))then swpG data2 i j fun d=>(if fits (i+1)then(if fits (j-1)then(go (d,(i+1),(j-1)))else none)else none)
     else
     (some data2))) N (data,a,(b-1)))else none)
def shDown (k:(List α×Int×Int×γ×Int×Int)->Option ρ) (N:Nat) (g:List α×Int×Int×γ×Int×Int×Int):Option ρ:=
 iter (fun go3 (g:(List α)×Int×Int×γ×Int×Int×Int)=>
  match g with
  |(d,a,b,ks,i,j,j4)=>
  bif decide ((1:Int)<=j4)then cmpP c ks d j4 fun r=>bif !decide (r<0)then k (d,a,b,ks,i,j)else swpP d j4 fun d'=>if fits (j4-1)then go3 (d',a,b,ks,i,j,j4-1)else none
  else k (d,a,b,ks,i,j)) N g
def shUp (k:(List α×Int×Int×γ×Int×Int)->Option ρ) (N:Nat) (g:List α×Int×Int×γ×Int×Int×Int):Option ρ:=
 iter (fun go4 (g:(List α)×Int×Int×γ×Int×Int×Int)=>
  match g with
  |(d,a,b,ks,i,j,j4)=>
  bif decide (j4<b)then cmpP c ks d j4 fun r=>bif !decide (r<0)then(if fits (j+1)then k (d,a,b,ks,i,j+1)else none)else swpP d j4 fun d'=>if fits (j4+1)then go4 (d',a,b,ks,i,j,j4+1)else none
  else if fits (j+1)then k (d,a,b,ks,i,j+1)else none) N g
def pisX (N:Nat) (go:(List α×Int×Int×γ×Int×Int)->Option (Bool×List α)) (d:List α) (a b:Int) (ks:γ) (i j:Int):Option (Bool×List α):=
 bif decide (i=b)then some (true,d)else if fits (b-a)then bif decide ((b-a)<50)then some (false,d)else
  swpP d i fun d'=>meet (fun(g:List α×Int×Int×γ×Int×Int)=>
   match g with
   |(d5,a5,b5,ks5,i4,j5)=>
   if fits (b5-i4)then bif decide ((2:Int)<=(b5-i4))then if fits (i4+1)then shUp c go N (d5,a5,b5,ks5,i4,j5,i4+1)else none
    else(if fits (j5+1)then go (d5,a5,b5,ks5,i4,j5+1)else none)else none) fun J=>
   if fits (i-a)then bif decide ((2:Int)<=(i-a))then if fits (i-1)then shDown c J N (d',a,b,ks,i,j,i-1)else none else J (d',a,b,ks,i,j)else none
 else none
def pisG (N:Nat) (d:List α) (a b:Int) (ks:γ):Option (Bool×List α):=
 if fits (a+1)then iter (fun go (g:List α×Int×Int×γ×Int×Int)=>
  match g with
  |(d2,a2,b2,ks2,i,j)=>
  bif decide (j<5)then
   iter (fun go2 (g:List α×Int×Int×γ×Int×Int)=>
    match g with
    |(d3,a3,b3,ks3,i2,j2)=>
    bif decide (i2<b3)then cmpP c ks3 d3 i2 fun r=>bif !decide (r<0)then(if fits (i2+1)then go2 (d3,a3,b3,ks3,i2+1,j2)else none)else pisX c N go d3 a3 b3 ks3 i2 j2
    else pisX c N go d3 a3 b3 ks3 i2 j2) N (d2,a2,b2,ks2,i,j)
  else some (false,d2)) N (d,a,b,ks,a+1,0)else none
def partE (go3:(List α×Int×γ×Int×Int)->Option (Int×Bool×List α)) (fl:Bool) (g:List α×Int×γ×Int×Int):Option (Int×Bool×List α):=
 match g with
 |(d,a,ks,i,j)=>
 bif decide (j<i)then swpG d j a fun d'=>some (j,fl,d')else swpG d i j fun d'=>if fits (i+1)then if fits (j-1)then go3 (d',a,ks,i+1,j-1)else none else none
def partD (k:(List α×Int×γ×Int×Int)->Option ρ) (N:Nat) (g:List α×Int×γ×Int×Int):Option ρ:=
 iter (fun go (g:List α×Int×γ×Int×Int)=>
  match g with
  |(d,a,ks,i,j)=>
  bif decide (i<=j)then cmpG c ks d j a fun r=>bif !decide (r<0)then(if fits (j-1)then go (d,a,ks,i,j-1)else none)else k (d,a,ks,i,j)
  else k (d,a,ks,i,j)) N g
def partU (k:(List α×Int×γ×Int×Int)->Option ρ) (N:Nat) (g:List α×Int×γ×Int×Int):Option ρ:=
 iter (fun go (g:List α×Int×γ×Int×Int)=>
  match g with
  |(d,a,ks,i,j)=>
  bif decide (i<=j)then cmpG c ks d i a fun r=>bif decide (r<0)then(if fits (i+1)then go (d,a,ks,i+1,j)else none)else k (d,a,ks,i,j)
  else k (d,a,ks,i,j)) N g
def partG (N:Nat) (d:List α) (a b p:Int) (ks:γ):Option (Int×Bool×List α):=
 swpG d a p fun d=>if fits (a+1)then if fits (b-1)then
  partU c (fun g=>partD c (partE (fun g=>iter (fun go3 g=>partU c (fun g=>partD c (partE go3 false) N g) N g) N g) true) N g) N (d,a,ks,a+1,b-1)
 else none else none
def peqE (go:(List α×Int×γ×Int×Int)->Option (Int×List α)) (g:List α×Int×γ×Int×Int):Option (Int×List α):=
 match g with
 |(d,a,ks,i,j)=>
 bif decide (j<i)then some (i,d)else swpG d i j fun d'=>if fits (i+1)then if fits (j-1)then go (d',a,ks,i+1,j-1)else none else none
def peqD (k:(List α×Int×γ×Int×Int)->Option ρ) (N:Nat) (g:List α×Int×γ×Int×Int):Option ρ:=
 iter (fun go (g:List α×Int×γ×Int×Int)=>
  match g with
  |(d,a,ks,i,j)=>
  bif decide (i<=j)then cmpG c ks d a j fun r=>bif decide (r<0)then(if fits (j-1)then go (d,a,ks,i,j-1)else none)else k (d,a,ks,i,j)
  else k (d,a,ks,i,j)) N g
def peqU (k:(List α×Int×γ×Int×Int)->Option ρ) (N:Nat) (g:List α×Int×γ×Int×Int):Option ρ:=
 iter (fun go (g:List α×Int×γ×Int×Int)=>
  match g with
  |(d,a,ks,i,j)=>
  bif decide (i<=j)then cmpG c ks d a i fun r=>bif !decide (r<0)then(if fits (i+1)then go (d,a,ks,i+1,j)else none)else k (d,a,ks,i,j)
  else k (d,a,ks,i,j)) N g
def peqG (N:Nat) (d:List α) (a b p:Int) (ks:γ):Option (Int×List α):=
 swpG d a p fun d=>if fits (a+1)then if fits (b-1)then iter (fun go g=>peqU c (fun g=>peqD c (peqE go) N g) N g) N (d,a,ks,a+1,b-1)else none else none
def pdqG (hs:List α->Int->Int->γ->Option (List α)) (pe:List α->Int->Int->Int->γ->Option (Int×List α)) (N:Nat):(D:Nat)->(List α)->Int->Int->Int->γ->Option ((List α))
 |0,_,_,_,_,_=>none
 |D+1,data,a,b,limit,cmp=>
 (iter (fun go (g:(List α)×Int×Int×Int×γ×Bool×Bool)=>
   match g with
   |(data2,a2,b2,limit2,cmp2,wasBalanced,wasPartitioned)=>
   (if fits (b2-a2)then(bif(decide ((b2-a2)<=12))then
     (oB (insG c N data2 a2 b2 cmp2) fun r=>
      (some r))
     else
     (bif(decide (limit2=0))then
      (oB (hs data2 a2 b2 cmp2) fun r2=>
       (some r2))
      else
      (meet (fun(g:(List α)×Int×Int×Int×γ×Bool×Bool×Int)=>
        match g with
        |(data3,a3,b3,limit3,cmp3,wasBalanced2,wasPartitioned2,length)=>
        (oB (choosePivotG c N data3 a3 b3 cmp3) fun r4=>
         (meet (fun(g:(List α)×Int×Int×Int×γ×Bool×Bool×Int×Int×Int)=>
           match g with
           |(data4,a4,b4,limit4,cmp4,wasBalanced3,wasPartitioned3,length2,pivot,hint)=>
           (meet (fun(g:(List α)×Int×Int×Int×γ×Bool×Bool×Int×Int)=>
             match g with
             |(data5,a5,b5,limit5,cmp5,wasBalanced4,wasPartitioned4,length3,pivot2)=>
             (bif(decide ((0:Int)<a5))then
              (if fits (a5-1)then(if 0<=(a5-1)/\(a5-1)<(data5.length:Int)then
                (oB (data5[(a5-1).toNat]?) fun e=>
                 (if 0<=pivot2/\pivot2<(data5.length:Int)then
                  (oB (data5[pivot2.toNat]?) fun e2=>
                   (oB (c cmp5 e e2) fun r7=>
                    (bif(!(decide (r7<0)))then
                     (oB (pe data5 a5 b5 pivot2 cmp5) fun r8=>
                      (go (r8.2,r8.1,b5,limit5,cmp5,wasBalanced4,wasPartitioned4)))
                     else
                     (oB (partG c N data5 a5 b5 pivot2 cmp5) fun r9=>
                      (if fits (r9.1-a5)then(if fits (b5-r9.1)then(if 8≠0 then
                         (if fits (length3.tdiv 8)then(bif(decide ((r9.1-a5)<(b5-r9.1)))then
                           (oB (pdqG hs pe N D r9.2.2 a5 r9.1 limit5 cmp5) fun r10=>
                            (if fits (r9.1+1)then(go (r10,(r9.1+1),b5,limit5,cmp5,(decide ((length3.tdiv 8)<=(r9.1-a5))),r9.2.1))else none))
                           else
                           (if fits (r9.1+1)then(oB (pdqG hs pe N D r9.2.2 (r9.1+1) b5 limit5 cmp5) fun r11=>
                             (go (r11,a5,r9.1,limit5,cmp5,(decide ((length3.tdiv 8)<=(b5-r9.1))),r9.2.1)))else none))else none)
                         else none)else none)else none)))))
                  else none))
                else none)else none)
              else
              (oB (partG c N data5 a5 b5 pivot2 cmp5) fun r12=>
               (if fits (r12.1-a5)then(if fits (b5-r12.1)then(if 8≠0 then
                  (if fits (length3.tdiv 8)then(bif(decide ((r12.1-a5)<(b5-r12.1)))then
                    (oB (pdqG hs pe N D r12.2.2 a5 r12.1 limit5 cmp5) fun r13=>
                     (if fits (r12.1+1)then(go (r13,(r12.1+1),b5,limit5,cmp5,(decide ((length3.tdiv 8)<=(r12.1-a5))),r12.2.1))else none))
                    else
                    (if fits (r12.1+1)then(oB (pdqG hs pe N D r12.2.2 (r12.1+1) b5 limit5 cmp5) fun r14=>
                      (go (r14,a5,r12.1,limit5,cmp5,(decide ((length3.tdiv 8)<=(b5-r12.1))),r12.2.1)))else none))else none)
                  else none)else none)else none)))) fun J3=>
            (bif wasBalanced3 then
             (bif wasPartitioned3 then
              (bif(decide (hint=1))then
               (oB (pisG c N data4 a4 b4 cmp4) fun r6=>
                (bif r6.1 then
                 (some r6.2)
                 else
                 (J3 (r6.2,a4,b4,limit4,cmp4,wasBalanced3,wasPartitioned3,length2,pivot))))
               else
               (J3 (data4,a4,b4,limit4,cmp4,wasBalanced3,wasPartitioned3,length2,pivot)))
              else
              (J3 (data4,a4,b4,limit4,cmp4,wasBalanced3,wasPartitioned3,length2,pivot)))
             else
             (J3 (data4,a4,b4,limit4,cmp4,wasBalanced3,wasPartitioned3,length2,pivot))))) fun J2=>
          (bif(decide (r4.2.1=2))then
           (oB (reverseRangeG N r4.2.2 a3 b3 cmp3) fun r5=>
            (if fits (b3-1)then(if fits (r4.1-a3)then(if fits ((b3-1)-(r4.1-a3))then(J2 (r5,a3,b3,limit3,cmp3,wasBalanced2,wasPartitioned2,length,((b3-1)-(r4.1-a3)),1))else none)else none)else none))
           else
           (J2 (r4.2.2,a3,b3,limit3,cmp3,wasBalanced2,wasPartitioned2,length,r4.1,r4.2.1)))))) fun J=>
       (bif(!wasBalanced)then
        (oB (breakG N data2 a2 b2 cmp2) fun r3=>
         (if fits (limit2-1)then(J (r3,a2,b2,(limit2-1),cmp2,wasBalanced,wasPartitioned,(b2-a2)))else none))
        else
        (J (data2,a2,b2,limit2,cmp2,wasBalanced,wasPartitioned,(b2-a2)))))))else none)) N (data,a,b,limit,cmp,true,true))
end
def cmp669 (N:Nat):(Unit)->Z0->Z0->Option Int:=(fun(cmp:Unit) (e e2:Int×Z11×Z7)=>i_allAlive_1_m N e.1 e.2.1 e.2.2 e2.1 e2.2.1 e2.2.2)
def jIw :Sh:=⟨.mtk 800000 Y4 95 false::pI::pI:: .clo 155 []::dz 4 (pI::dz 44 []),[]⟩
def jJn :Sh:=⟨.mtk 800000 Y4 95 false::pI::pI:: .clo 155 []::dz 4 (pI::pI::dz 43 []),[]⟩
def jJk (c:List Z0) (d:Int) (b:Int) (a:Unit):Z14:=insG (cmp669 N) N c d b a
 
theorem jIC :mK 272 (bX [.mtk 800000 Y4 95 false,pI,pI,.clo 155 []] [.tup [],.mtk 800000 Y4 95 false] (c4A (jJk N))):=
 mO (fC (jHC N) ja) func272 rfl N (.seq .no (.block (.loop jIw (.seq .no (.seq (.block (.seq .no (.block (.loop jJn .no)))) .no))))) _ (rs:=[800000])
def jI7 :Sh:=⟨.mtk 800000 Y4 95 false:: .dead::pI::pI:: .clo 155 []::dz 5 (pI::dz 71 []),[]⟩
def jJE :Sh:=⟨.mtk 800000 Y4 95 false:: .dead::pI::pI:: .clo 155 []::dz 5 (pI::pI::dz 70 []),[]⟩
def jJr (e:List Z0) (d:Int) (c:Int) (b:Int) (a:Unit):Z14:=siftG (cmp669 N) N e d c b a
 
theorem jIA :mK 319 (bX [.mtk 800000 Y4 95 false,pI,pI,pI,.clo 155 []] [.tup [],.mtk 800000 Y4 95 false] (c5A (jJr N))):=
 mO (fC (jHC N) ja) func319 rfl N (.seq .no (.block (.loop jI7 (.block (.seq .no (.seq .no (.meet jJE .no .no))))))) _ (rs:=[800000])
def jH9 :Sh:=⟨.mtk 800000 Y4 95 false:: .dead:: .dead:: .clo 155 []::dz 4 (pI::pI::pI::pI::dz 48 []),[]⟩
def jIK :Sh:=⟨.mtk 800000 Y4 95 false:: .dead:: .dead:: .clo 155 []::dz 4 (pI::pI:: .dead:: .dead::pI::dz 47 []),[]⟩
def jIj (c:List Z0) (d:Int) (b:Int) (a:Unit):Z14:=heapG (cmp669 N) N c d b a
 
theorem jJa :mK 273 (bX [.mtk 800000 Y4 95 false,pI,pI,.clo 155 []] [.tup [],.mtk 800000 Y4 95 false] (c4A (jIj N))):=
 mO (fC (jIA N) ja) func273 rfl N (.seq .no (.seq .no (.seq .no (.seq (.seq .no (.block (.loop jH9 .no))) (.seq .no (.block (.loop jIK .no))))))) _ (rs:=[800000])
def jH6 :Sh:=⟨.mtk 800000 Y4 95 false::pI::dz 6 (pI:: .box 9 0:: .pv (.int .u64)::pI::dz 55 []),[(9,false,[.pv (.int .u64)])]⟩
def jJm :Sh:=⟨.mtk 800000 Y4 95 false::pI::dz 6 (pI:: .box 9 0:: .pv (.int .u64)::pI::pI::dz 54 []),[(9,false,[.pv (.int .u64)])]⟩
def jI4 (c:List Z0) (d:Int) (b:Int) (a:Unit):Z14:=breakG N c d b a
 
theorem jIs :mK 274 (bX [.mtk 800000 Y4 95 false,pI,pI,.clo 155 []] [.tup [],.mtk 800000 Y4 95 false] (c4A (jI4 N))):=
 mO (fC (jhv N) (fC (jet N) ja)) func274 rfl N (.seq .no (.seq .no (.cond (.seq .no (.seq .no (.seq .no (.block (.loop jH6 (.seq .no (.seq (.block (.seq .no (.meet jJm .no .no))) .no))))))) .no))) _ (rs:=[800000])
def jJC (d:List Z0) (e:Int) (c:Int) (a:Unit) (b:Int):Option (Int×Int×(List Z0)×Int):=order2G (cmp669 N) N d e c a b
 
theorem jIo :mK 340 ⟨⟨[.mtk 800000 Y4 95 false,pI,pI,.box 900003 0,.clo 155 []],[(900003,false,[pI])]⟩,⟨[.tup [pI,pI],.mtk 800000 Y4 95 false],[(900003,false,[pI])]⟩,c5A (jJC N)⟩:=
 mO (fC (jHC N) ja) func340 rfl N .no _ (rs:=[900003,800000])
def jII (e:List Z0) (f:Int) (c:Int) (d:Int) (a:Unit) (b:Int):Option (Int×(List Z0)×Int):=medianG (cmp669 N) N e f c d a b
 
theorem jHQ :mK 321 ⟨⟨[.mtk 800000 Y4 95 false,pI,pI,pI,.box 900004 0,.clo 155 []],[(900004,false,[pI])]⟩,⟨[pI,.mtk 800000 Y4 95 false],[(900004,false,[pI])]⟩,c6A (jII N)⟩:=
 mO (fC (jIo N) ja) func321 rfl N .no _ (rs:=[900004,800000])
def jIn (c:List Z0) (d:Int) (a:Unit) (b:Int):Option (Int×(List Z0)×Int):=medianAdjacentG (cmp669 N) N c d a b
 
theorem jI9 :mK 320 ⟨⟨[.mtk 800000 Y4 95 false,pI,.box 900002 0,.clo 155 []],[(900002,false,[pI])]⟩,⟨[pI,.mtk 800000 Y4 95 false],[(900002,false,[pI])]⟩,c4A (jIn N)⟩:=
 mO (fC (jHQ N) ja) func320 rfl N .no _ (rs:=[900002,800000])
def jJw :Sh:=⟨.mtk 800000 Y4 95 false:: .dead:: .dead:: .clo 155 []::dz 7 (.box 11 0::pI::pI::pI::dz 48 []),[(11,false,[pI])]⟩
def jI6 :Sh:=⟨.mtk 800000 Y4 95 false::dz 10 (.box 11 0:: .dead::pI::dz 49 []),[(11,false,[pI])]⟩
def jIq (c:List Z0) (d:Int) (b:Int) (a:Unit):Option (Int×Int×(List Z0)):=choosePivotG (cmp669 N) N c d b a
 
theorem jJz :mK 275 (bX [.mtk 800000 Y4 95 false,pI,pI,.clo 155 []] [.tup [pI,pI],.mtk 800000 Y4 95 false] (c4A (jIq N))):=
 mO (fC (jI9 N) (fC (jHQ N) ja)) func275 rfl N (.seq .no (.seq .no (.seq .no (.seq .no (.seq .no (.seq .no (.meet jI6 (.seq .no (.cond (.meet jJw .no .no) .no)) .no))))))) _ (rs:=[800000])
def jJB :Sh:=⟨.mtk 800000 Y4 95 false::dz 7 (pI::pI::dz 24 []),[]⟩
def jJs (c:List Z0) (d:Int) (b:Int) (a:Unit):Z14:=reverseRangeG N c d b a
 
theorem jIk :mK 276 (bX [.mtk 800000 Y4 95 false,pI,pI,.clo 155 []] [.tup [],.mtk 800000 Y4 95 false] (c4A (jJs N))):=
 mO ja func276 rfl N (.seq .no (.seq .no (.block (.loop jJB .no)))) _ (rs:=[800000])
def jHL :Sh:=⟨.mtk 800000 Y4 95 false::pI::pI:: .clo 155 []::dz 5 (pI::pI::dz 130 []),[]⟩
def jJh :Sh:=⟨.mtk 800000 Y4 95 false::pI::pI:: .clo 155 []::dz 5 (pI::pI::pI::dz 129 []),[]⟩
def jIF :Sh:=⟨.mtk 800000 Y4 95 false::pI::pI:: .clo 155 []::dz 5 (pI::pI:: .dead::pI::dz 128 []),[]⟩
def jIx (c:List Z0) (d:Int) (b:Int) (a:Unit):Option (Bool×(List Z0)):=pisG (cmp669 N) N c d b a
 
theorem jI1 :mK 277 (bX [.mtk 800000 Y4 95 false,pI,pI,.clo 155 []] [pB,.mtk 800000 Y4 95 false] (c4A (jIx N))):=
 mO (fC (jHC N) ja) func277 rfl N (.seq .no (.seq .no (.seq (.seq .no (.block (.loop jHL (.seq .no (.seq (.block (.seq (.block (.loop jHL .no)) (.seq .no (.seq .no (.seq .no (.meet jHL (.seq .no (.cond (.seq .no (.block (.loop jJh .no))) .no)) (.seq .no (.cond (.seq .no (.block (.loop jIF .no))) .no)))))))) .no))))) .no))) _ (rs:=[800000])
def jHK :Sh:=⟨.mtk 800000 Y4 95 false::pI:: .dead:: .dead:: .clo 155 []::dz 6 (pI::pI::dz 77 []),[]⟩
def jIh (c:List Z0) (e:Int) (b:Int) (d:Int) (a:Unit):Option (Int×(List Z0)):=peqG (cmp669 N) N c e b d a
 
theorem jH7 :mK 278 (bX [.mtk 800000 Y4 95 false,pI,pI,pI,.clo 155 []] [pI,.mtk 800000 Y4 95 false] (c5A (jIh N))):=
 mO (fC (jHC N) ja) func278 rfl N (.seq .no (.seq .no (.seq .no (.seq (.block (.loop jHK (.block (.seq (.block (.loop jHK .no)) (.seq (.block (.loop jHK .no)) .no))))) .no)))) _ (rs:=[800000])
def jHD :Sh:=⟨.mtk 800000 Y4 95 false::pI:: .dead:: .dead:: .clo 155 []::dz 7 (pI::pI::dz 164 []),[]⟩
def jIZ (c:List Z0) (e:Int) (b:Int) (d:Int) (a:Unit):Option (Int×Bool×(List Z0)):=partG (cmp669 N) N c e b d a
 
theorem jJc :mK 279 (bX [.mtk 800000 Y4 95 false,pI,pI,pI,.clo 155 []] [.tup [pI,pB],.mtk 800000 Y4 95 false] (c5A (jIZ N))):=
 mO (fC (jHC N) ja) func279 rfl N (.seq .no (.seq .no (.seq .no (.seq (.block (.loop jHD .no)) (.seq (.block (.loop jHD .no)) (.seq .no (.seq .no (.seq .no (.seq .no (.seq (.block (.loop jHD (.block (.seq (.block (.loop jHD .no)) (.seq (.block (.loop jHD .no)) .no))))) .no)))))))))) _ (rs:=[800000])
def jIv :Sh:=⟨.mtk 800000 Y4 95 false::pI::pI::pI:: .clo 155 []::dz 5 (pB::pB::dz 136 []),[]⟩
def jIt :Sh:=⟨.mtk 800000 Y4 95 false::pI::pI::pI:: .clo 155 []::dz 5 (pB::pB::pI::pI::dz 134 []),[]⟩
def jIU :Sh:=⟨.mtk 800000 Y4 95 false::pI::pI::pI:: .clo 155 []::dz 5 (pB::pB::pI::pI::pI::dz 133 []),[]⟩
def jID :Sh:=⟨.mtk 800000 Y4 95 false::pI::pI::pI:: .clo 155 []::dz 5 (pB::pB::pI::dz 135 []),[]⟩
def jHN (N D:Nat) (h:List Z0) (b a limit:Int) (e:Unit):Z14:=pdqG (cmp669 N) (fun d b a c=>heapG (cmp669 N) N d b a c) (fun d b a f c=>peqG (cmp669 N) N d b a f c) N D h b a limit e
 
def jHF (N D:Nat):Model:=⟨⟨[.mtk 800000 Y4 95 false,pI,pI,pI,.clo 155 []],[]⟩,⟨[.tup [],.mtk 800000 Y4 95 false],[]⟩,c5A (jHN N D)⟩
theorem jJo (N D:Nat) (ih:mK 221 (jHF N D)):mK 221 (jHF N (D+1)):=
 mO (fC ih (fC (jIC N) (fC (jJa N) (fC (jIs N) (fC (jJz N) (fC (jIk N) (fC (jI1 N) (fC (jHC N) (fC (jH7 N) (fC (jJc N) ja)))))))))) func221 rfl N (.seq .no (.seq .no (.block (.loop jIv (.block (.seq .no (.seq .no (.seq .no (.meet jID .no (.seq .no (.meet jIU .no (.meet jIt .no .no)))))))))))) (jHF N (D+1)) (rs:=[800000])
theorem jHV (N:Nat):∀D,mK 221 (jHF N D)
 |0=>modelOk_none ⟨_,func221,by decide,by kernel_rfl⟩ _ (fun a=>rfl)
 |D+1=>jJo N D (jHV N D)
def k_slices_SortFunc_669_m (a:List Z0) (d:Unit):Z14:=
 (oB (k_math_bits_Len_m N (IntKind.u64.wrap (a.length:Int))) fun c=>oB (jHN N N a 0 (a.length:Int) c ()) fun b=>some b)
theorem jIu :mK 154 (bX [.mtk 800000 Y4 95 false,.clo 155 []] [.tup [],.mtk 800000 Y4 95 false] (c2A (k_slices_SortFunc_669_m N))):=
 mO (fC (jda N) (fC (jHV N N) ja)) func154 rfl N .no _ (rs:=[800000])
def jH5 :Sh:=⟨dz 3 (.mtk 600003 Y4 95 false::dz 3 (.pv Y0::pI::pI::dz 11 [])),[]⟩
def i_allAlive_m (e:List Z9):Z14:=
 (iter (fun j (c,d,f,a)=>bif decide (a<f)then oB (idx d a) fun b=>(oB (i_Live_alive_m N b.1.1 b.1.2 b.2) fun h=>if room c.length h.length 56 then if fits (a+1)then j ((c++h),d,f,(a+1))else none else none)else oB (k_slices_SortFunc_669_m N c ()) fun i=>some i) N (([]:List Z0),e,(e.length:Int),(0:Int)))
theorem jHR :mK 74 (bX [.pv Y0] [.own 1 Y4 95 false] (c1A (i_allAlive_m N))):=
 mO (fC (jH4 N) (fC (jIu N) ja)) func74 rfl N (.seq .no (.seq .no (.seq (.seq .no (.block (.loop jH5 .no))) .no))) _ (wr:=[6,16])
def jIf :Sh:=⟨.dead:: .box 1 0::dz 14 (.pv Y0::pI::pI::dz 13 []),[(1,false,[.pv (.sl .str),.pv Y14,.pv Y0])]⟩
noncomputable def i_IndexOk_m (e:List Z1) (d:List Z5) (b:List Z9):Z8:=
 (oB (jaj N e d) fun m=>bif !m then some false else bif decide ((5:Int)<b.length)then some false else iter (fun p (h,j,a,k,i,f)=>bif decide (a<j)then oB (idx h a) fun c=>(oB (i_liveOk_m N k i c.1.1 c.1.2 c.2) fun o=>bif !o then some false else if fits (a+1)then p (h,j,(a+1),k,i,f)else none)else oB (i_allAlive_m N f) fun l=>oB (jbf N l) fun n=>some n) N (b,(b.length:Int),(0:Int),e,d,b))
theorem jIr :mK 24 (bX [.agg [.pv (.sl .str),.pv Y14,.pv Y0]] [pB] (c3A (i_IndexOk_m N))):=
 mO (fC (jdX N) (fC (jJD N) (fC (jHR N) (fC (jjU N) ja)))) func24 rfl N (.seq .no (.seq .no (.seq (.seq .no (.block (.loop jIf .no))) .no))) _
def k_strconv_Itoa_m (N:Nat) (a:Int):Option (Z1):=itoaM a
 
def jOU (N:Nat):Model:=⟨⟨[pI],[]⟩,⟨[pS],[]⟩,c1A (k_strconv_Itoa_m N)⟩
theorem jO0 :mK 86 (jOU N):=jPp
def jXY :Sh:=⟨.dead:: .box 1 0:: .dead::pS::dz 13 (.pv Y17::pI::pI::dz 34 []),[(1,false,[pI,.pv Y17,.pv Y13])]⟩
def jX3 :Sh:=⟨dz 3 (pS::dz 31 (.pv Y13::pI::pI::dz 16 [])),[]⟩
def i_DocPut_m (i:Int) (f:Z6) (o:Z3):Option (Z1):=
 (oB (i_DocOk_m N i f o) fun u=>bif !u then some ([]:List UInt8)else oB (k_strconv_Itoa_m N i) fun h=>if([100,111,99,32]:List UInt8).length+h.length<=9223372036854775807 then if(([100,111,99,32]:List UInt8)++h).length+([10]:List UInt8).length<=9223372036854775807 then iter (fun x (j,q,r,e,v,w,l)=>bif decide (e<r)then oB (idx q e) fun a=>(if([102,105,101,108,100,32]:List UInt8).length+a.1.length<=9223372036854775807 then if(([102,105,101,108,100,32]:List UInt8)++a.1).length+([32]:List UInt8).length<=9223372036854775807 then if((([102,105,101,108,100,32]:List UInt8)++a.1)++([32]:List UInt8)).length+a.2.length<=9223372036854775807 then if(((([102,105,101,108,100,32]:List UInt8)++a.1)++([32]:List UInt8))++a.2).length+([10]:List UInt8).length<=9223372036854775807 then if j.length+((((([102,105,101,108,100,32]:List UInt8)++a.1)++([32]:List UInt8))++a.2)++([10]:List UInt8)).length<=9223372036854775807 then if fits (e+1)then x ((j++((((([102,105,101,108,100,32]:List UInt8)++a.1)++([32]:List UInt8))++a.2)++([10]:List UInt8))),q,r,(e+1),v,w,l)else none else none else none else none else none else none)else iter (fun t (k,n,p,c)=>bif decide (c<p)then oB (idx n c) fun b=>(if([110,117,109,32]:List UInt8).length+b.1.length<=9223372036854775807 then if(([110,117,109,32]:List UInt8)++b.1).length+([32]:List UInt8).length<=9223372036854775807 then oB (k_strconv_Itoa_m N b.2) fun d=>(if((([110,117,109,32]:List UInt8)++b.1)++([32]:List UInt8)).length+d.length<=9223372036854775807 then if(((([110,117,109,32]:List UInt8)++b.1)++([32]:List UInt8))++d).length+([10]:List UInt8).length<=9223372036854775807 then if k.length+((((([110,117,109,32]:List UInt8)++b.1)++([32]:List UInt8))++d)++([10]:List UInt8)).length<=9223372036854775807 then if fits (c+1)then t ((k++((((([110,117,109,32]:List UInt8)++b.1)++([32]:List UInt8))++d)++([10]:List UInt8))),n,p,(c+1))else none else none else none else none)else none else none)else some k) N (j,l,(l.length:Int),(0:Int))) N (((([100,111,99,32]:List UInt8)++h)++([10]:List UInt8)),f,(f.length:Int),(0:Int),i,f,o)else none else none)
theorem jYs :mK 127 (bX [.agg [pI,.pv Y17,.pv Y13]] [pS] (c3A (i_DocPut_m N))):=
 mO (fC (jh0 N) (fC (jO0 N) ja)) func127 rfl N (.seq .no (.seq .no (.seq .no (.seq (.seq .no (.block (.loop jXY .no))) (.seq (.seq .no (.block (.loop jX3 .no))) .no))))) _
def jYE :Sh:=⟨dz 3 (.box 3 0:: .dead::pS::dz 12 (.pv Y3::pI::pI::dz 23 [])),[(3,false,[.pv Y3,.pv Y5,.pv Y19])]⟩
def jX8 :Sh:=⟨dz 5 (pS::dz 24 (.pv Y19::pI::pI::dz 11 [])),[]⟩
noncomputable def i_LivePut_m (r:List Z1) (u:List Z5) (c:List Z0) (o:List Z2) (p:List Int):Option (Z1):=
 (oB (i_IndexOk_m N r u ([((c,o),p)]:List Z9)) fun w=>bif !w then some ([]:List UInt8)else iter (fun x (f,n,k,b,t,z,j)=>bif decide (b<k)then oB (idx n b) fun e=>(oB (i_DocPut_m N e.1 e.2.1 e.2.2) fun q=>if f.length+q.length<=9223372036854775807 then if fits (b+1)then x ((f++q),n,k,(b+1),t,z,j)else none else none)else iter (fun v (h,l,m,d)=>bif decide (d<m)then oB (idx l d) fun y=>(oB (k_strconv_Itoa_m N y) fun a=>if([100,101,97,100,32]:List UInt8).length+a.length<=9223372036854775807 then if(([100,101,97,100,32]:List UInt8)++a).length+([10]:List UInt8).length<=9223372036854775807 then if h.length+((([100,101,97,100,32]:List UInt8)++a)++([10]:List UInt8)).length<=9223372036854775807 then if fits (d+1)then v ((h++((([100,101,97,100,32]:List UInt8)++a)++([10]:List UInt8))),l,m,(d+1))else none else none else none else none)else some h) N (f,j,(j.length:Int),(0:Int))) N (([]:List UInt8),c,(c.length:Int),(0:Int),c,o,p))
theorem jXI :mK 52 (bX [.agg [.pv (.sl .str),.pv Y14],.agg [.pv Y3,.pv Y5,.pv Y19]] [pS] (c5A (i_LivePut_m N))):=
 mO (fC (jIr N) (fC (jYs N) (fC (jO0 N) ja))) func52 rfl N (.seq .no (.seq .no (.seq .no (.seq (.seq .no (.block (.loop jYE .no))) (.seq (.seq .no (.block (.loop jX8 .no))) .no))))) _
def jX4 :Sh:=⟨.dead::pS:: .box 2 0:: .dead:: .box 4 0:: .dead:: .own 600006 Y4 95 true:: .own 600007 tI 3 true:: .pv (.sl .str)::pI::dz 92 [],[(2,false,[.pv (.sl .str),.pv Y14]),(4,false,[.nils,.nils,.nils])]⟩
def jYB :Sh:=⟨.dead::pS:: .box 2 0:: .dead:: .box 4 0:: .dead:: .own 600006 Y4 95 true:: .own 600007 tI 3 true:: .pv (.sl .str)::pI::dz 4 (pI::dz 87 []),[(2,false,[.pv (.sl .str),.pv Y14]),(4,false,[.nils,.nils,.nils])]⟩
noncomputable def jY4 (w:List Z1) (x:List Z5) (v:List UInt8):Option ((List Z0)×(List Z2)×(List Int)×Bool):=
 (oB (jaj N w x) fun Q=>bif !Q then some (([]:List Z0),([]:List Z2),([]:List Int),false)else oB (jXx N v ([10]:List UInt8)) fun S=>iter (fun e (n,r,l,o,i,m,q)=>bif decide (i<(o.length:Int))then oB (idx o i) fun C=>(oB (k_strings_CutPrefix_m N C ([100,101,97,100,32]:List UInt8)) fun u=>bif u.2 then oB (jXn N u.1) fun A=>(if room l.length ([A]:List Int).length 8 then if fits (i+1)then e (n,r,(l++([A]:List Int)),o,(i+1),m,q)else none else none)else if fits (i+1)then iter (fun H (j,c,d,a,h,b,f,k)=>bif decide (b<(a.length:Int))then oB (idx a b) fun T=>(oB (k_strings_HasPrefix_m N T ([100,111,99,32]:List UInt8)) fun O=>bif !O then oB (idx a b) fun D=>(oB (k_strings_HasPrefix_m N D ([100,101,97,100,32]:List UInt8)) fun I=>bif !I then if fits (b+1)then H (j,c,d,a,h,(b+1),f,k)else none else oB (idx a h) fun U=>bif !decide (U=([]:List UInt8))then oB (cut a h b) fun K=>(oB (jXo N K) fun z=>if room c.length ([z]:List Z0).length 56 then e (j,(c++([z]:List Z0)),d,a,b,f,k)else none)else e (j,c,d,a,b,f,k))else oB (idx a h) fun G=>bif !decide (G=([]:List UInt8))then oB (cut a h b) fun R=>(oB (jXo N R) fun B=>if room c.length ([B]:List Z0).length 56 then e (j,(c++([B]:List Z0)),d,a,b,f,k)else none)else e (j,c,d,a,b,f,k))else oB (idx a h) fun L=>bif !decide (L=([]:List UInt8))then oB (cut a h b) fun P=>(oB (jXo N P) fun y=>if room c.length ([y]:List Z0).length 56 then e (j,(c++([y]:List Z0)),d,a,b,f,k)else none)else e (j,c,d,a,b,f,k)) N (n,r,l,o,i,(i+1),m,q)else none)else oB (jbT N m q r) fun p=>bif decide (n=([]:List UInt8))then some (([]:List Z0),([]:List Z2),([]:List Int),false)else oB (i_LivePut_m N m q p.1 p.2 l) fun E=>bif !decide (E=n)then some (([]:List Z0),([]:List Z2),([]:List Int),false)else some (p.1,p.2,l,true)) N (v,([]:List Z0),([]:List Int),S,(0:Int),w,x))
theorem jYm :mK 12 (bX [.agg [.pv (.sl .str),.pv Y14],pS] [.tup [.agg [.own 1 Y4 95 true,.own 2 Y6 167 true,.own 3 tI 3 true],pB]] (c3A (jY4 N))):=
 mO (fC (jdX N) (fC (jYi N) (fC (jYg N) (fC (jXC N) (fC (jXS N) (fC (jYG N) (fC (jqC N) (fC (jXI N) ja)))))))) func12 rfl N (.seq .no (.seq .no (.seq .no (.seq .no (.seq .no (.seq (.seq .no (.block (.loop jX4 (.seq .no (.block (.seq .no (.seq .no (.seq (.block (.loop jYB .no)) .no)))))))) .no)))))) _
def jbd (N:Nat) (d:List UInt8) (c:List UInt8) (a:List UInt8) (b:List UInt8):Z8:=
 (bif !decide (d=a)then some false else bif !decide (c=b)then some false else some true)
theorem jmy :mK 312 (bX [.agg [pS,pS],.agg [pS,pS]] [pB] (c4A (jbd N))):=
 mO ja func312 rfl N .no _
def jqq :Sh:=⟨.pv Y17:: .pv Y17::dz 3 (pI::dz 21 []),[]⟩
def jdj (h:Z6) (c:Z6):Z8:=
 (bif !decide ((h.length:Int)=(c.length:Int))then some false else iter (fun k (b,f,a)=>bif decide (a<(b.length:Int))then oB (idx b a) fun d=>(oB (idx f a) fun e=>oB (jbd N d.1 d.2 e.1 e.2) fun j=>bif !j then some false else if fits (a+1)then k (b,f,(a+1))else none)else some true) N (h,c,(0:Int)))
theorem jmD :mK 257 (bX [.pv Y17,.pv Y17] [pB] (c2A (jdj N))):=
 mO (fC (jmy N) ja) func257 rfl N (.seq .no (.seq .no (.seq (.seq .no (.block (.loop jqq .no))) .no))) _
def jbo (N:Nat) (d:List UInt8) (c:Int) (a:List UInt8) (b:Int):Z8:=
 (bif !decide (d=a)then some false else bif !decide (c=b)then some false else some true)
theorem jtn :mK 313 (bX [.agg [pS,pI],.agg [pS,pI]] [pB] (c4A (jbo N))):=
 mO ja func313 rfl N .no _
def jtU :Sh:=⟨.pv Y13:: .pv Y13::dz 3 (pI::dz 21 []),[]⟩
def jdN (h:Z3) (c:Z3):Z8:=
 (bif !decide ((h.length:Int)=(c.length:Int))then some false else iter (fun k (b,f,a)=>bif decide (a<(b.length:Int))then oB (idx b a) fun d=>(oB (idx f a) fun e=>oB (jbo N d.1 d.2 e.1 e.2) fun j=>bif !j then some false else if fits (a+1)then k (b,f,(a+1))else none)else some true) N (h,c,(0:Int)))
theorem jkL :mK 258 (bX [.pv Y13,.pv Y13] [pB] (c2A (jdN N))):=
 mO (fC (jtn N) ja) func258 rfl N (.seq .no (.seq .no (.seq (.seq .no (.block (.loop jtU .no))) .no))) _
def jbi (i:Int) (h:Z6) (b:Z3) (a:Int) (f:Z6) (c:Z3):Z8:=
 (bif !decide (i=a)then some false else oB (jdj N h f) fun d=>bif !d then some false else oB (jdN N b c) fun e=>bif !e then some false else some true)
theorem jta :mK 205 (bX [.agg [pI,.pv Y17,.pv Y13],.agg [pI,.pv Y17,.pv Y13]] [pB] (c6A (jbi N))):=
 mO (fC (jmD N) (fC (jkL N) ja)) func205 rfl N .no _
def jqZ :Sh:=⟨.pv Y3:: .pv Y3::dz 3 (pI::dz 21 []),[]⟩
def jdZ (h:List Z0) (e:List Z0):Z8:=
 (bif !decide ((h.length:Int)=(e.length:Int))then some false else iter (fun k (d,f,a)=>bif decide (a<(d.length:Int))then oB (idx d a) fun b=>(oB (idx f a) fun c=>oB (jbi N b.1 b.2.1 b.2.2 c.1 c.2.1 c.2.2) fun j=>bif !j then some false else if fits (a+1)then k (d,f,(a+1))else none)else some true) N (h,e,(0:Int)))
theorem jmb :mK 128 (bX [.pv Y3,.pv Y3] [pB] (c2A (jdZ N))):=
 mO (fC (jta N) ja) func128 rfl N (.seq .no (.seq .no (.seq (.seq .no (.block (.loop jqZ .no))) .no))) _
def jea (e:List Int) (c:List Int):Z8:=
 (bif !decide ((e.length:Int)=(c.length:Int))then some false else iter (fun j (b,d,a)=>bif decide (a<(b.length:Int))then oB (idx b a) fun h=>(oB (idx d a) fun i=>bif !decide (h=i)then some false else if fits (a+1)then j (b,d,(a+1))else none)else some true) N (e,c,(0:Int)))
theorem jmk :mK 54 (bX [.pv Y19,.pv Y19] [pB] (c2A (jea N))):=
 mO ja func54 rfl N (.seq .no (.seq .no (.seq (.seq .no (.block (.loop jnI .no))) .no))) _
def jbl (e:Int) (d:List Int) (a:Int) (c:List Int):Z8:=
 (bif !decide (e=a)then some false else oB (jea N d c) fun b=>bif !b then some false else some true)
theorem jrv :mK 314 (bX [.agg [pI,.pv Y19],.agg [pI,.pv Y19]] [pB] (c4A (jbl N))):=
 mO (fC (jmk N) ja) func314 rfl N .no _
def jna :Sh:=⟨.pv Y11:: .pv Y11::dz 3 (pI::dz 21 []),[]⟩
def jdt (h:Z4) (c:Z4):Z8:=
 (bif !decide ((h.length:Int)=(c.length:Int))then some false else iter (fun k (b,f,a)=>bif decide (a<(b.length:Int))then oB (idx b a) fun d=>(oB (idx f a) fun e=>oB (jbl N d.1 d.2 e.1 e.2) fun j=>bif !j then some false else if fits (a+1)then k (b,f,(a+1))else none)else some true) N (h,c,(0:Int)))
theorem jrb :mK 259 (bX [.pv Y11,.pv Y11] [pB] (c2A (jdt N))):=
 mO (fC (jrv N) ja) func259 rfl N (.seq .no (.seq .no (.seq (.seq .no (.block (.loop jna .no))) .no))) _
def jaU (h:List UInt8) (f:List UInt8) (b:Z4) (a:List UInt8) (e:List UInt8) (d:Z4):Z8:=
 (bif !decide (h=a)then some false else bif !decide (f=e)then some false else oB (jdt N b d) fun c=>bif !c then some false else some true)
theorem jmZ :mK 206 (bX [.agg [pS,pS,.pv Y11],.agg [pS,pS,.pv Y11]] [pB] (c6A (jaU N))):=
 mO (fC (jrb N) ja) func206 rfl N .no _
def jkD :Sh:=⟨.pv Y5:: .pv Y5::dz 3 (pI::dz 21 []),[]⟩
def jdU (h:List Z2) (e:List Z2):Z8:=
 (bif !decide ((h.length:Int)=(e.length:Int))then some false else iter (fun k (d,f,a)=>bif decide (a<(d.length:Int))then oB (idx d a) fun b=>(oB (idx f a) fun c=>oB (jaU N b.1 b.2.1 b.2.2 c.1 c.2.1 c.2.2) fun j=>bif !j then some false else if fits (a+1)then k (d,f,(a+1))else none)else some true) N (h,e,(0:Int)))
theorem jkg :mK 129 (bX [.pv Y5,.pv Y5] [pB] (c2A (jdU N))):=
 mO (fC (jmZ N) ja) func129 rfl N (.seq .no (.seq .no (.seq (.seq .no (.block (.loop jkD .no))) .no))) _
def jbJ (f:List Z0) (e:List Z2) (a:List Z0) (d:List Z2):Z8:=
 (oB (jdZ N f a) fun c=>bif !c then some false else oB (jdU N e d) fun b=>bif !b then some false else some true)
theorem jnM :mK 53 (bX [.agg [.pv Y3,.pv Y5],.agg [.pv Y3,.pv Y5]] [pB] (c4A (jbJ N))):=
 mO (fC (jmb N) (fC (jkg N) ja)) func53 rfl N .no _
def l_eqLive_m (i:List Z0) (h:List Z2) (b:List Int) (a:List Z0) (f:List Z2) (c:List Int):Z8:=
 (oB (jbJ N i h a f) fun d=>bif !d then some false else oB (jea N b c) fun e=>bif !e then some false else some true)
theorem jI3 :mK 13 (bX [.agg [.pv Y3,.pv Y5,.pv Y19],.agg [.pv Y3,.pv Y5,.pv Y19]] [pB] (c6A (l_eqLive_m N))):=
 mO (fC (jnM N) (fC (jmk N) ja)) func13 rfl N .no _
def jo5 :Sh:=⟨.pv (.sl .str):: .pv (.sl .str)::dz 3 (pI::dz 20 []),[]⟩
def j0 (e:List Z1) (c:List Z1):Z8:=
 (bif !decide ((e.length:Int)=(c.length:Int))then some false else iter (fun j (b,d,a)=>bif decide (a<(b.length:Int))then oB (idx b a) fun h=>(oB (idx d a) fun i=>bif !decide (h=i)then some false else if fits (a+1)then j (b,d,(a+1))else none)else some true) N (e,c,(0:Int)))
theorem jd6 :mK 55 (bX [.pv (.sl .str),.pv (.sl .str)] [pB] (c2A (j0 N))):=
 mO ja func55 rfl N (.seq .no (.seq .no (.seq (.seq .no (.block (.loop jo5 .no))) .no))) _
def jaR (e:List Z1) (d:List UInt8) (a:List Z1) (c:List UInt8):Z8:=
 (oB (j0 N e a) fun b=>bif !b then some false else bif !decide (d=c)then some false else some true)
theorem jqb :mK 130 (bX [.agg [.pv (.sl .str),pS],.agg [.pv (.sl .str),pS]] [pB] (c4A (jaR N))):=
 mO (fC (jd6 N) ja) func130 rfl N .no _
def jp9 :Sh:=⟨.pv Y14:: .pv Y14::dz 3 (pI::dz 21 []),[]⟩
def jdJ (h:List Z5) (c:List Z5):Z8:=
 (bif !decide ((h.length:Int)=(c.length:Int))then some false else iter (fun k (b,f,a)=>bif decide (a<(b.length:Int))then oB (idx b a) fun d=>(oB (idx f a) fun e=>oB (jaR N d.1 d.2 e.1 e.2) fun j=>bif !j then some false else if fits (a+1)then k (b,f,(a+1))else none)else some true) N (h,c,(0:Int)))
theorem jkU :mK 56 (bX [.pv Y14,.pv Y14] [pB] (c2A (jdJ N))):=
 mO (fC (jqb N) ja) func56 rfl N (.seq .no (.seq .no (.seq (.seq .no (.block (.loop jp9 .no))) .no))) _
def jcO (f:List Z1) (e:List Z5) (a:List Z1) (d:List Z5):Z8:=
 (oB (j0 N f a) fun c=>bif !c then some false else oB (jdJ N e d) fun b=>bif !b then some false else some true)
theorem jr8 :mK 14 (bX [.agg [.pv (.sl .str),.pv Y14],.agg [.pv (.sl .str),.pv Y14]] [pB] (c4A (jcO N))):=
 mO (fC (jd6 N) (fC (jkU N) ja)) func14 rfl N .no _
def jnU :Sh:=⟨pI:: .dead:: .dead::pS::dz 16 [],[]⟩
def l_markText_m (c:Int):Option (Z1):=
 (bif decide (c<=0)then some ([109,48]:List UInt8)else iter (fun d (a,b)=>bif decide ((0:Int)<a)then if 10≠0 then if fits (48+(a.tmod 10))then if(bytesOf ([(IntKind.u8.wrap (48+(a.tmod 10)))]:List Int)).length+b.length<=9223372036854775807 then if 10≠0 then if fits (a.tdiv 10)then d ((a.tdiv 10),((bytesOf ([(IntKind.u8.wrap (48+(a.tmod 10)))]:List Int))++b))else none else none else none else none else none else if([109]:List UInt8).length+b.length<=9223372036854775807 then some (([109]:List UInt8)++b)else none) N (c,([]:List UInt8)))
theorem jaz :mK 131 (bX [pI] [pS] (c1A (l_markText_m N))):=
 mO ja func131 rfl N (.seq .no (.seq .no (.seq .no (.seq (.block (.loop jnU .no)) .no)))) _
def jol :Sh:=⟨.mtk 800000 .str 9 true::pI::dz 3 (pI::dz 14 []),[]⟩
def l_markStringS_m (i:List Z1) (f:Int):Option (Int×(List Z1)):=
 (iter (fun h (b,c,a)=>bif decide (a<(b.length:Int))then oB (l_markText_m N c) fun e=>(if 0<=a/\a<(b.length:Int)then oB (b[a.toNat]?) fun j=>(if fits (c+1)then if fits (a+1)then h ((b.set a.toNat e),(c+1),(a+1))else none else none)else none)else some (c,b)) N (i,f,(0:Int)))
theorem jdf :mK 57 (bX [.mtk 800000 .str 9 true,pI] [pI,.mtk 800000 .str 9 true] (c2A (l_markStringS_m N))):=
 mO (fC (jaz N) ja) func57 rfl N (.seq .no (.seq (.seq .no (.block (.loop jol .no))) .no)) _ (rs:=[800000])
def jq1 :Sh:=⟨.tre 800000 Y16 142::pI::dz 3 (pI::dz 22 []),[]⟩
def l_markSynS_m (m:List Z5) (i:Int):Option (Int×(List Z5)):=
 (iter (fun k (b,d,a)=>bif decide (a<(b.length:Int))then if 0<=a/\a<(b.length:Int)then oB (b[a.toNat]?) fun f=>(oB (l_markStringS_m N f.1 d) fun c=>oB (l_markText_m N c.1) fun j=>if 0<=a/\a<(b.length:Int)then oB (b[a.toNat]?) fun l=>(if fits (c.1+1)then if fits (a+1)then k (((b.set a.toNat (l.1,j)).modify a.toNat fun h=>(c.2,h.2)),(c.1+1),(a+1))else none else none)else none)else none else some (d,b)) N (m,i,(0:Int)))
theorem jqK :mK 58 (bX [.tre 800000 Y16 142,pI] [pI,.tre 800000 Y16 142] (c2A (l_markSynS_m N))):=
 mO (fC (jdf N) (fC (jaz N) ja)) func58 rfl N (.seq .no (.seq (.seq .no (.block (.loop jq1 .no))) .no)) _ (rs:=[800000])
def l_markConf_m (e:List Z1) (d:List Z5) (c:Int):Option (Int×(List Z1)×(List Z5)):=
 (oB (l_markStringS_m N e c) fun b=>oB (l_markSynS_m N d b.1) fun a=>some (a.1,b.2,a.2))
theorem jrd :mK 15 (bX [.agg [.mtk 800000 .str 9 true,.tre 800001 Y16 142],pI] [pI,.mtk 800000 .str 9 true,.tre 800001 Y16 142] (c3A (l_markConf_m N))):=
 mO (fC (jdf N) (fC (jqK N) ja)) func15 rfl N .no _ (rs:=[800000,800001])
def jrq :Sh:=⟨.mtk 800000 Y18 155 true::pI::dz 3 (pI::dz 23 []),[]⟩
def l_markFieldS_m (l:Z6) (h:Int):Option (Int×Z11):=
 (iter (fun j (b,c,a)=>bif decide (a<(b.length:Int))then oB (l_markText_m N c) fun e=>(if 0<=a/\a<(b.length:Int)then oB (b[a.toNat]?) fun d=>(if fits (c+1)then oB (l_markText_m N (c+1)) fun i=>(if 0<=a/\a<((b.set a.toNat (e,d.2)).length:Int)then oB ((b.set a.toNat (e,d.2))[a.toNat]?) fun k=>(if fits ((c+1)+1)then if fits (a+1)then j (((b.set a.toNat (e,d.2)).set a.toNat (k.1,i)),((c+1)+1),(a+1))else none else none)else none)else none)else none)else some (c,b)) N (l,h,(0:Int)))
theorem jo0 :mK 207 (bX [.mtk 800000 Y18 155 true,pI] [pI,.mtk 800000 Y18 155 true] (c2A (l_markFieldS_m N))):=
 mO (fC (jaz N) ja) func207 rfl N (.seq .no (.seq (.seq .no (.block (.loop jrq .no))) .no)) _ (rs:=[800000])
def js9 :Sh:=⟨.mtk 800000 Y15 157 true::pI::dz 3 (pI::dz 22 []),[]⟩
def l_markAttrS_m (k:Z3) (h:Int):Option (Int×Z7):=
 (iter (fun j (b,c,a)=>bif decide (a<(b.length:Int))then oB (l_markText_m N c) fun e=>(if 0<=a/\a<(b.length:Int)then oB (b[a.toNat]?) fun d=>(if fits (c+1)then if 0<=a/\a<((b.set a.toNat (e,d.2)).length:Int)then oB ((b.set a.toNat (e,d.2))[a.toNat]?) fun i=>(if fits ((c+1)+1)then if fits (a+1)then j (((b.set a.toNat (e,d.2)).set a.toNat (i.1,(c+1))),((c+1)+1),(a+1))else none else none)else none else none)else none)else some (c,b)) N (k,h,(0:Int)))
theorem js2 :mK 208 (bX [.mtk 800000 Y15 157 true,pI] [pI,.mtk 800000 Y15 157 true] (c2A (l_markAttrS_m N))):=
 mO (fC (jaz N) ja) func208 rfl N (.seq .no (.seq (.seq .no (.block (.loop js9 .no))) .no)) _ (rs:=[800000])
def jml :Sh:=⟨.tre 800000 Y4 95::pI::dz 3 (pI::dz 28 []),[]⟩
def l_markDocS_m (o:List Z0) (k:Int):Option (Int×(List Z0)):=
 (iter (fun m (b,c,a)=>bif decide (a<(b.length:Int))then if 0<=a/\a<(b.length:Int)then oB (b[a.toNat]?) fun d=>(if fits (c+1)then if 0<=a/\a<((b.set a.toNat (c,d.2)).length:Int)then oB ((b.set a.toNat (c,d.2))[a.toNat]?) fun l=>(oB (l_markFieldS_m N l.2.1 (c+1)) fun i=>if 0<=a/\a<((b.set a.toNat (c,d.2)).length:Int)then oB ((b.set a.toNat (c,d.2))[a.toNat]?) fun n=>(oB (l_markAttrS_m N n.2.2 i.1) fun e=>if fits (a+1)then m ((((b.set a.toNat (c,d.2)).modify a.toNat fun h=>(h.1,h.2.1,e.2)).modify a.toNat fun f=>(f.1,i.2,f.2.2)),e.1,(a+1))else none)else none)else none else none)else none else some (c,b)) N (o,k,(0:Int)))
theorem jnb :mK 132 (bX [.tre 800000 Y4 95,pI] [pI,.tre 800000 Y4 95] (c2A (l_markDocS_m N))):=
 mO (fC (jo0 N) (fC (js2 N) ja)) func132 rfl N (.seq .no (.seq (.seq .no (.block (.loop jml .no))) .no)) _ (rs:=[800000])
def jl9 :Sh:=⟨.mtk 800000 tI 3 true::pI::dz 3 (pI::dz 13 []),[]⟩
def l_markIntS_m (h:List Int) (f:Int):Option (Int×(List Int)):=
 (iter (fun e (b,c,a)=>bif decide (a<(b.length:Int))then if 0<=a/\a<(b.length:Int)then oB (b[a.toNat]?) fun i=>(if fits (c+1)then if fits (a+1)then e ((b.set a.toNat c),(c+1),(a+1))else none else none)else none else some (c,b)) N (h,f,(0:Int)))
theorem jr1 :mK 60 (bX [.mtk 800000 tI 3 true,pI] [pI,.mtk 800000 tI 3 true] (c2A (l_markIntS_m N))):=
 mO ja func60 rfl N (.seq .no (.seq (.seq .no (.block (.loop jl9 .no))) .no)) _ (rs:=[800000])
def jnn :Sh:=⟨.tre 800000 Y12 241::pI::dz 3 (pI::dz 21 []),[]⟩
def l_markPostS_m (l:Z4) (i:Int):Option (Int×Z12):=
 (iter (fun k (b,c,a)=>bif decide (a<(b.length:Int))then if 0<=a/\a<(b.length:Int)then oB (b[a.toNat]?) fun d=>(if fits (c+1)then if 0<=a/\a<((b.set a.toNat (c,d.2)).length:Int)then oB ((b.set a.toNat (c,d.2))[a.toNat]?) fun j=>(oB (l_markIntS_m N j.2 (c+1)) fun e=>if fits (a+1)then k (((b.set a.toNat (c,d.2)).modify a.toNat fun h=>(h.1,e.2)),e.1,(a+1))else none)else none else none)else none else some (c,b)) N (l,i,(0:Int)))
theorem jrg :mK 209 (bX [.tre 800000 Y12 241,pI] [pI,.tre 800000 Y12 241] (c2A (l_markPostS_m N))):=
 mO (fC (jr1 N) ja) func209 rfl N (.seq .no (.seq (.seq .no (.block (.loop jnn .no))) .no)) _ (rs:=[800000])
def jkI :Sh:=⟨.tre 800000 Y6 167::pI::dz 3 (pI::dz 30 []),[]⟩
def l_markEntryS_m (o:List Z2) (l:Int):Option (Int×(List Z2)):=
 (iter (fun m (b,c,a)=>bif decide (a<(b.length:Int))then oB (l_markText_m N c) fun f=>(if 0<=a/\a<(b.length:Int)then oB (b[a.toNat]?) fun e=>(if fits (c+1)then oB (l_markText_m N (c+1)) fun h=>(if 0<=a/\a<((b.set a.toNat (f,e.2)).length:Int)then oB ((b.set a.toNat (f,e.2))[a.toNat]?) fun d=>(if fits ((c+1)+1)then if 0<=a/\a<(((b.set a.toNat (f,e.2)).set a.toNat (d.1,h,d.2.2)).length:Int)then oB (((b.set a.toNat (f,e.2)).set a.toNat (d.1,h,d.2.2))[a.toNat]?) fun n=>(oB (l_markPostS_m N n.2.2 ((c+1)+1)) fun i=>if fits (a+1)then m ((((b.set a.toNat (f,e.2)).set a.toNat (d.1,h,d.2.2)).modify a.toNat fun j=>(j.1,j.2.1,i.2)),i.1,(a+1))else none)else none else none)else none)else none)else none)else some (c,b)) N (o,l,(0:Int)))
theorem jlr :mK 133 (bX [.tre 800000 Y6 167,pI] [pI,.tre 800000 Y6 167] (c2A (l_markEntryS_m N))):=
 mO (fC (jaz N) (fC (jrg N) ja)) func133 rfl N (.seq .no (.seq (.seq .no (.block (.loop jkI .no))) .no)) _ (rs:=[800000])
def l_markSeg_m (e:List Z0) (d:List Z2) (c:Int):Option (Int×(List Z0)×(List Z2)):=
 (oB (l_markDocS_m N e c) fun b=>oB (l_markEntryS_m N d b.1) fun a=>some (a.1,b.2,a.2))
theorem jnS :mK 59 (bX [.agg [.tre 800000 Y4 95,.tre 800001 Y6 167],pI] [pI,.tre 800000 Y4 95,.tre 800001 Y6 167] (c3A (l_markSeg_m N))):=
 mO (fC (jnb N) (fC (jlr N) ja)) func59 rfl N .no _ (rs:=[800000,800001])
def l_markLive_m (f:List Z0) (e:List Z2) (c:List Int) (d:Int):Option (Int×(List Z0)×(List Z2)×(List Int)):=
 (oB (l_markSeg_m N f e d) fun a=>oB (l_markIntS_m N c a.1) fun b=>some (b.1,a.2.1,a.2.2,b.2))
theorem jZm :mK 16 (bX [.agg [.tre 800000 Y4 95,.tre 800001 Y6 167,.mtk 800002 tI 3 true],pI] [pI,.tre 800000 Y4 95,.tre 800001 Y6 167,.mtk 800002 tI 3 true] (c4A (l_markLive_m N))):=
 mO (fC (jnS N) (fC (jr1 N) ja)) func16 rfl N .no _ (rs:=[800000,800001,800002])
def jK5 :Sh:=⟨.pv Y17::pI::dz 3 (pI::dz 27 []),[]⟩
def l_heldFieldS_m (l:Z6) (h:Int):Z13:=
 (iter (fun j (c,a,b)=>bif decide (b<(c.length:Int))then oB (idx c b) fun e=>(oB (l_markText_m N a) fun f=>bif !decide (e.1=f)then some (-1)else if fits (a+1)then oB (idx c b) fun k=>(oB (l_markText_m N (a+1)) fun i=>bif !decide (k.2=i)then some (-1)else if fits ((a+1)+1)then if fits (b+1)then j (c,((a+1)+1),(b+1))else none else none)else none)else some a) N (l,h,(0:Int)))
theorem jLR :mK 210 (bX [.pv Y17,pI] [pI] (c2A (l_heldFieldS_m N))):=
 mO (fC (jaz N) ja) func210 rfl N (.seq .no (.seq (.seq .no (.block (.loop jK5 .no))) .no)) _
def jNb :Sh:=⟨.pv Y13::pI::dz 3 (pI::dz 26 []),[]⟩
def l_heldAttrS_m (k:Z3) (h:Int):Z13:=
 (iter (fun j (c,a,b)=>bif decide (b<(c.length:Int))then oB (idx c b) fun e=>(oB (l_markText_m N a) fun f=>bif !decide (e.1=f)then some (-1)else if fits (a+1)then oB (idx c b) fun i=>(bif !decide (i.2=(a+1))then some (-1)else if fits ((a+1)+1)then if fits (b+1)then j (c,((a+1)+1),(b+1))else none else none)else none)else some a) N (k,h,(0:Int)))
theorem jMG :mK 211 (bX [.pv Y13,pI] [pI] (c2A (l_heldAttrS_m N))):=
 mO (fC (jaz N) ja) func211 rfl N (.seq .no (.seq (.seq .no (.block (.loop jNb .no))) .no)) _
def jMl :Sh:=⟨.pv Y3::pI::dz 3 (pI::dz 34 []),[]⟩
def l_heldDocS_m (m:List Z0) (i:Int):Z13:=
 (iter (fun j (b,c,a)=>bif decide (a<(b.length:Int))then oB (idx b a) fun h=>(bif !decide (h.1=c)then some (-1)else if fits (c+1)then oB (idx b a) fun k=>(oB (l_heldFieldS_m N k.2.1 (c+1)) fun d=>bif decide (d<0)then some (-1)else oB (idx b a) fun l=>oB (l_heldAttrS_m N l.2.2 d) fun e=>bif decide (e<0)then some (-1)else if fits (a+1)then j (b,e,(a+1))else none)else none)else some c) N (m,i,(0:Int)))
theorem jKZ :mK 134 (bX [.pv Y3,pI] [pI] (c2A (l_heldDocS_m N))):=
 mO (fC (jLR N) (fC (jMG N) ja)) func134 rfl N (.seq .no (.seq (.seq .no (.block (.loop jMl .no))) .no)) _
def jEr :Sh:=⟨.pv Y19::pI::dz 3 (pI::dz 15 []),[]⟩
def l_heldIntS_m (i:List Int) (h:Int):Z13:=
 (iter (fun f (c,b,a)=>bif decide (a<(c.length:Int))then oB (idx c a) fun e=>(bif !decide (e=b)then some (-1)else if fits (b+1)then if fits (a+1)then f (c,(b+1),(a+1))else none else none)else some b) N (i,h,(0:Int)))
theorem jEn :mK 62 (bX [.pv Y19,pI] [pI] (c2A (l_heldIntS_m N))):=
 mO ja func62 rfl N (.seq .no (.seq (.seq .no (.block (.loop jEr .no))) .no)) _
def jMS :Sh:=⟨.pv Y11::pI::dz 3 (pI::dz 25 []),[]⟩
def l_heldPostS_m (k:Z4) (h:Int):Z13:=
 (iter (fun j (c,b,a)=>bif decide (a<(c.length:Int))then oB (idx c a) fun f=>(bif !decide (f.1=b)then some (-1)else if fits (b+1)then oB (idx c a) fun i=>(oB (l_heldIntS_m N i.2 (b+1)) fun d=>bif decide (d<0)then some (-1)else if fits (a+1)then j (c,d,(a+1))else none)else none)else some b) N (k,h,(0:Int)))
theorem jMN :mK 212 (bX [.pv Y11,pI] [pI] (c2A (l_heldPostS_m N))):=
 mO (fC (jEn N) ja) func212 rfl N (.seq .no (.seq (.seq .no (.block (.loop jMS .no))) .no)) _
def jK2 :Sh:=⟨.pv Y5::pI::dz 3 (pI::dz 36 []),[]⟩
def l_heldEntryS_m (n:List Z2) (i:Int):Z13:=
 (iter (fun k (c,a,b)=>bif decide (b<(c.length:Int))then oB (idx c b) fun f=>(oB (l_markText_m N a) fun h=>bif !decide (f.1=h)then some (-1)else if fits (a+1)then oB (idx c b) fun l=>(oB (l_markText_m N (a+1)) fun j=>bif !decide (l.2.1=j)then some (-1)else if fits ((a+1)+1)then oB (idx c b) fun m=>(oB (l_heldPostS_m N m.2.2 ((a+1)+1)) fun d=>bif decide (d<0)then some (-1)else if fits (b+1)then k (c,d,(b+1))else none)else none)else none)else some a) N (n,i,(0:Int)))
theorem jLJ :mK 135 (bX [.pv Y5,pI] [pI] (c2A (l_heldEntryS_m N))):=
 mO (fC (jaz N) (fC (jMN N) ja)) func135 rfl N (.seq .no (.seq (.seq .no (.block (.loop jK2 .no))) .no)) _
def l_heldSeg_m (e:List Z0) (d:List Z2) (c:Int):Z13:=
 (oB (l_heldDocS_m N e c) fun b=>bif decide (b<0)then some (-1)else oB (l_heldEntryS_m N d b) fun a=>bif decide (a<0)then some (-1)else some a)
theorem jZh :mK 61 (bX [.agg [.pv Y3,.pv Y5],pI] [pI] (c3A (l_heldSeg_m N))):=
 mO (fC (jKZ N) (fC (jLJ N) ja)) func61 rfl N .no _
def l_heldLive_m (f:List Z0) (e:List Z2) (c:List Int) (d:Int):Z13:=
 (oB (l_heldSeg_m N f e d) fun b=>bif decide (b<0)then some (-1)else oB (l_heldIntS_m N c b) fun a=>bif decide (a<0)then some (-1)else some a)
theorem jZn :mK 17 (bX [.agg [.pv Y3,.pv Y5,.pv Y19],pI] [pI] (c4A (l_heldLive_m N))):=
 mO (fC (jZh N) (fC (jEn N) ja)) func17 rfl N .no _
noncomputable def l_FnExactLiveGet_m (f:List Z1) (e:List Z5) (i:List UInt8):Z8:=
 (bif decide ((1048576:Int)<i.length)then some true else oB (jbD N f e 1048576) fun q=>bif decide (q<0)then some true else oB (jad N f e) fun n=>oB (s_LiveGet_m N n.1 n.2 i) fun a=>oB (jad N f e) fun d=>oB (jY4 N d.1 d.2 i) fun b=>oB (l_eqLive_m N b.1 b.2.1 b.2.2.1 a.1 a.2.1 a.2.2.1) fun r=>bif !r then some false else bif !(b.2.2.2==a.2.2.2)then some false else oB (jad N f e) fun m=>oB (jcO N d.1 d.2 m.1 m.2) fun u=>bif !u then some false else oB (l_markConf_m N d.1 d.2 1) fun p=>bif decide (p.1<0)then some false else oB (l_eqLive_m N b.1 b.2.1 b.2.2.1 a.1 a.2.1 a.2.2.1) fun t=>bif !t then some false else bif !(b.2.2.2==a.2.2.2)then some false else oB (l_markLive_m N b.1 b.2.1 b.2.2.1 1) fun c=>oB (l_heldLive_m N c.2.1 c.2.2.1 c.2.2.2 1) fun j=>bif decide (j<0)then some false else bif !decide (j=c.1)then some false else oB (jad N f e) fun k=>oB (jY4 N k.1 k.2 i) fun h=>oB (l_eqLive_m N h.1 h.2.1 h.2.2.1 a.1 a.2.1 a.2.2.1) fun o=>bif !o then some false else bif !(h.2.2.2==a.2.2.2)then some false else oB (l_heldLive_m N c.2.1 c.2.2.1 c.2.2.2 1) fun l=>bif decide (l<0)then some false else bif !decide (l=c.1)then some false else some true)
noncomputable def jY9 (N:Nat):Model:=⟨⟨[.agg [.pv (.sl .str),.pv Y14],pS],[]⟩,⟨[pB],[]⟩,c3A (l_FnExactLiveGet_m N)⟩
theorem jZq :mK 3 (jY9 N):=
 mO (fC (jm8 N) (fC (jtJ N) (fC (jYT N) (fC (jYm N) (fC (jI3 N) (fC (jr8 N) (fC (jrd N) (fC (jZm N) (fC (jZn N) ja))))))))) func3 rfl N .no (jY9 N) (dw:=[26,32,36,41,50,51,61,74,82,84,89,98])
end Go.Proofs.YtcinmmojlcchfaaGreatDoor
