import Derived.Test.YtcdcmcgdgnibmaaGreatDoorG1A
set_option linter.unusedVariables false
set_option linter.unusedSimpArgs false
namespace Go.Proofs.YtcdcmcgdgnibmaaGreatDoor
open Go.RowKit Go.Proofs.Tryz
variable (N : Nat)
open Option renaming bind -> oB
def i_Seg_put_m (f:List UInt8) (h:List UInt8) (i:Int) (e:Int) (o:List Z0) (a:List Z1):Option ((List Z0)×(List Z1)):=
 (oB (k_slices_IndexFunc_146_m N a (f,h,i)) fun d=>bif decide (d<0)then if room a.length ([(f,h,([]:Z5))]:List Z1).length 56 then if 0<=(a.length:Int)/\(a.length:Int)<((a++([(f,h,([]:Z5))]:List Z1)).length:Int)then oB ((a++([(f,h,([]:Z5))]:List Z1))[(a.length:Int).toNat]?) fun c=>(if fits ((c.2.2.length:Int)-1)then bif decide (((c.2.2.length:Int)-1)<0)then oB ((a++([(f,h,([]:Z5))]:List Z1))[(a.length:Int).toNat]?) fun ad=>(if(a.length:Int).toNat=(a.length:Int).toNat then if room c.2.2.length ([(e,([]:List Int))]:Z5).length 32 then if(a.length:Int).toNat=(a.length:Int).toNat then oB ((a++([(f,h,([]:Z5))]:List Z1))[(a.length:Int).toNat]?) fun m=>(if fits (((c.2.2.length:Int)-1)+1)then oB (((a++([(f,h,([]:Z5))]:List Z1)).set (a.length:Int).toNat (m.1,m.2.1,(c.2.2++([(e,([]:List Int))]:Z5))))[(a.length:Int).toNat]?) fun n=>(oB (n.2.2[(((c.2.2.length:Int)-1)+1).toNat]?) fun C=>oB (((a++([(f,h,([]:Z5))]:List Z1)).set (a.length:Int).toNat (m.1,m.2.1,(c.2.2++([(e,([]:List Int))]:Z5))))[(a.length:Int).toNat]?) fun ag=>if(a.length:Int).toNat=(a.length:Int).toNat then oB (((a++([(f,h,([]:Z5))]:List Z1)).set (a.length:Int).toNat (m.1,m.2.1,(c.2.2++([(e,([]:List Int))]:Z5))))[(a.length:Int).toNat]?) fun ae=>(if(a.length:Int).toNat=(a.length:Int).toNat then if 0<=(((c.2.2.length:Int)-1)+1)/\(((c.2.2.length:Int)-1)+1)<(n.2.2.length:Int)then oB (n.2.2[(((c.2.2.length:Int)-1)+1).toNat]?) fun af=>(if(((c.2.2.length:Int)-1)+1).toNat=(((c.2.2.length:Int)-1)+1).toNat then if room C.2.length ([i]:List Int).length 8 then if 0<=(((c.2.2.length:Int)-1)+1)/\(((c.2.2.length:Int)-1)+1)<(n.2.2.length:Int)then if(((c.2.2.length:Int)-1)+1).toNat=(((c.2.2.length:Int)-1)+1).toNat then oB (n.2.2[(((c.2.2.length:Int)-1)+1).toNat]?) fun L=>(some (o,(((a++([(f,h,([]:Z5))]:List Z1)).set (a.length:Int).toNat (m.1,m.2.1,(c.2.2++([(e,([]:List Int))]:Z5)))).modify ((a.length:Int).toNat) fun z=>(z.1,z.2.1,(n.2.2.set (((c.2.2.length:Int)-1)+1).toNat (L.1,(C.2++([i]:List Int))))))))else none else none else none else none)else none else none)else none)else none)else none else none else none)else(oB ((a++([(f,h,([]:Z5))]:List Z1))[(a.length:Int).toNat]?) fun W=>if(a.length:Int).toNat=(a.length:Int).toNat then if 0<=((c.2.2.length:Int)-1)/\((c.2.2.length:Int)-1)<(c.2.2.length:Int)then oB (c.2.2[((c.2.2.length:Int)-1).toNat]?) fun O=>(bif !decide (O.1=e)then oB ((a++([(f,h,([]:Z5))]:List Z1))[(a.length:Int).toNat]?) fun T=>(if(a.length:Int).toNat=(a.length:Int).toNat then if room c.2.2.length ([(e,([]:List Int))]:Z5).length 32 then if(a.length:Int).toNat=(a.length:Int).toNat then oB ((a++([(f,h,([]:Z5))]:List Z1))[(a.length:Int).toNat]?) fun l=>(if fits (((c.2.2.length:Int)-1)+1)then oB (((a++([(f,h,([]:Z5))]:List Z1)).set (a.length:Int).toNat (l.1,l.2.1,(c.2.2++([(e,([]:List Int))]:Z5))))[(a.length:Int).toNat]?) fun r=>(oB (r.2.2[(((c.2.2.length:Int)-1)+1).toNat]?) fun E=>oB (((a++([(f,h,([]:Z5))]:List Z1)).set (a.length:Int).toNat (l.1,l.2.1,(c.2.2++([(e,([]:List Int))]:Z5))))[(a.length:Int).toNat]?) fun ao=>if(a.length:Int).toNat=(a.length:Int).toNat then oB (((a++([(f,h,([]:Z5))]:List Z1)).set (a.length:Int).toNat (l.1,l.2.1,(c.2.2++([(e,([]:List Int))]:Z5))))[(a.length:Int).toNat]?) fun R=>(if(a.length:Int).toNat=(a.length:Int).toNat then if 0<=(((c.2.2.length:Int)-1)+1)/\(((c.2.2.length:Int)-1)+1)<(r.2.2.length:Int)then oB (r.2.2[(((c.2.2.length:Int)-1)+1).toNat]?) fun al=>(if(((c.2.2.length:Int)-1)+1).toNat=(((c.2.2.length:Int)-1)+1).toNat then if room E.2.length ([i]:List Int).length 8 then if 0<=(((c.2.2.length:Int)-1)+1)/\(((c.2.2.length:Int)-1)+1)<(r.2.2.length:Int)then if(((c.2.2.length:Int)-1)+1).toNat=(((c.2.2.length:Int)-1)+1).toNat then oB (r.2.2[(((c.2.2.length:Int)-1)+1).toNat]?) fun Q=>(some (o,(((a++([(f,h,([]:Z5))]:List Z1)).set (a.length:Int).toNat (l.1,l.2.1,(c.2.2++([(e,([]:List Int))]:Z5)))).modify ((a.length:Int).toNat) fun w=>(w.1,w.2.1,(r.2.2.set (((c.2.2.length:Int)-1)+1).toNat (Q.1,(E.2++([i]:List Int))))))))else none else none else none else none)else none else none)else none)else none)else none else none else none)else if(a.length:Int).toNat=(a.length:Int).toNat then oB (c.2.2[((c.2.2.length:Int)-1).toNat]?) fun A=>(oB ((a++([(f,h,([]:Z5))]:List Z1))[(a.length:Int).toNat]?) fun aa=>if(a.length:Int).toNat=(a.length:Int).toNat then oB ((a++([(f,h,([]:Z5))]:List Z1))[(a.length:Int).toNat]?) fun V=>(if(a.length:Int).toNat=(a.length:Int).toNat then if 0<=((c.2.2.length:Int)-1)/\((c.2.2.length:Int)-1)<(c.2.2.length:Int)then oB (c.2.2[((c.2.2.length:Int)-1).toNat]?) fun aq=>(if((c.2.2.length:Int)-1).toNat=((c.2.2.length:Int)-1).toNat then if room A.2.length ([i]:List Int).length 8 then if 0<=((c.2.2.length:Int)-1)/\((c.2.2.length:Int)-1)<(c.2.2.length:Int)then if((c.2.2.length:Int)-1).toNat=((c.2.2.length:Int)-1).toNat then oB (c.2.2[((c.2.2.length:Int)-1).toNat]?) fun P=>(some (o,((a++([(f,h,([]:Z5))]:List Z1)).modify ((a.length:Int).toNat) fun D=>(D.1,D.2.1,(c.2.2.set ((c.2.2.length:Int)-1).toNat (P.1,(A.2++([i]:List Int))))))))else none else none else none else none)else none else none)else none)else none)else none else none)else none)else none else none else if 0<=d/\d<(a.length:Int)then oB (a[d.toNat]?) fun b=>(if fits ((b.2.2.length:Int)-1)then bif decide (((b.2.2.length:Int)-1)<0)then oB (a[d.toNat]?) fun ac=>(if d.toNat=d.toNat then if room b.2.2.length ([(e,([]:List Int))]:Z5).length 32 then if d.toNat=d.toNat then oB (a[d.toNat]?) fun j=>(if fits (((b.2.2.length:Int)-1)+1)then oB ((a.set d.toNat (j.1,j.2.1,(b.2.2++([(e,([]:List Int))]:Z5))))[d.toNat]?) fun q=>(oB (q.2.2[(((b.2.2.length:Int)-1)+1).toNat]?) fun B=>oB ((a.set d.toNat (j.1,j.2.1,(b.2.2++([(e,([]:List Int))]:Z5))))[d.toNat]?) fun ai=>if d.toNat=d.toNat then oB ((a.set d.toNat (j.1,j.2.1,(b.2.2++([(e,([]:List Int))]:Z5))))[d.toNat]?) fun ak=>(if d.toNat=d.toNat then if 0<=(((b.2.2.length:Int)-1)+1)/\(((b.2.2.length:Int)-1)+1)<(q.2.2.length:Int)then oB (q.2.2[(((b.2.2.length:Int)-1)+1).toNat]?) fun ah=>(if(((b.2.2.length:Int)-1)+1).toNat=(((b.2.2.length:Int)-1)+1).toNat then if room B.2.length ([i]:List Int).length 8 then if 0<=(((b.2.2.length:Int)-1)+1)/\(((b.2.2.length:Int)-1)+1)<(q.2.2.length:Int)then if(((b.2.2.length:Int)-1)+1).toNat=(((b.2.2.length:Int)-1)+1).toNat then oB (q.2.2[(((b.2.2.length:Int)-1)+1).toNat]?) fun G=>(some (o,((a.set d.toNat (j.1,j.2.1,(b.2.2++([(e,([]:List Int))]:Z5)))).modify d.toNat fun x=>(x.1,x.2.1,(q.2.2.set (((b.2.2.length:Int)-1)+1).toNat (G.1,(B.2++([i]:List Int))))))))else none else none else none else none)else none else none)else none)else none)else none else none else none)else(oB (a[d.toNat]?) fun ab=>if d.toNat=d.toNat then if 0<=((b.2.2.length:Int)-1)/\((b.2.2.length:Int)-1)<(b.2.2.length:Int)then oB (b.2.2[((b.2.2.length:Int)-1).toNat]?) fun K=>(bif !decide (K.1=e)then oB (a[d.toNat]?) fun U=>(if d.toNat=d.toNat then if room b.2.2.length ([(e,([]:List Int))]:Z5).length 32 then if d.toNat=d.toNat then oB (a[d.toNat]?) fun k=>(if fits (((b.2.2.length:Int)-1)+1)then oB ((a.set d.toNat (k.1,k.2.1,(b.2.2++([(e,([]:List Int))]:Z5))))[d.toNat]?) fun p=>(oB (p.2.2[(((b.2.2.length:Int)-1)+1).toNat]?) fun y=>oB ((a.set d.toNat (k.1,k.2.1,(b.2.2++([(e,([]:List Int))]:Z5))))[d.toNat]?) fun X=>if d.toNat=d.toNat then oB ((a.set d.toNat (k.1,k.2.1,(b.2.2++([(e,([]:List Int))]:Z5))))[d.toNat]?) fun S=>(if d.toNat=d.toNat then if 0<=(((b.2.2.length:Int)-1)+1)/\(((b.2.2.length:Int)-1)+1)<(p.2.2.length:Int)then oB (p.2.2[(((b.2.2.length:Int)-1)+1).toNat]?) fun ap=>(if(((b.2.2.length:Int)-1)+1).toNat=(((b.2.2.length:Int)-1)+1).toNat then if room y.2.length ([i]:List Int).length 8 then if 0<=(((b.2.2.length:Int)-1)+1)/\(((b.2.2.length:Int)-1)+1)<(p.2.2.length:Int)then if(((b.2.2.length:Int)-1)+1).toNat=(((b.2.2.length:Int)-1)+1).toNat then oB (p.2.2[(((b.2.2.length:Int)-1)+1).toNat]?) fun H=>(some (o,((a.set d.toNat (k.1,k.2.1,(b.2.2++([(e,([]:List Int))]:Z5)))).modify d.toNat fun u=>(u.1,u.2.1,(p.2.2.set (((b.2.2.length:Int)-1)+1).toNat (H.1,(y.2++([i]:List Int))))))))else none else none else none else none)else none else none)else none)else none)else none else none else none)else if d.toNat=d.toNat then oB (b.2.2[((b.2.2.length:Int)-1).toNat]?) fun v=>(oB (a[d.toNat]?) fun am=>if d.toNat=d.toNat then oB (a[d.toNat]?) fun aj=>(if d.toNat=d.toNat then if 0<=((b.2.2.length:Int)-1)/\((b.2.2.length:Int)-1)<(b.2.2.length:Int)then oB (b.2.2[((b.2.2.length:Int)-1).toNat]?) fun an=>(if((b.2.2.length:Int)-1).toNat=((b.2.2.length:Int)-1).toNat then if room v.2.length ([i]:List Int).length 8 then if 0<=((b.2.2.length:Int)-1)/\((b.2.2.length:Int)-1)<(b.2.2.length:Int)then if((b.2.2.length:Int)-1).toNat=((b.2.2.length:Int)-1).toNat then oB (b.2.2[((b.2.2.length:Int)-1).toNat]?) fun I=>(some (o,(a.modify d.toNat fun t=>(t.1,t.2.1,(b.2.2.set ((b.2.2.length:Int)-1).toNat (I.1,(v.2++([i]:List Int))))))))else none else none else none else none)else none else none)else none)else none)else none else none)else none)else none)
theorem jky :mK 112 ⟨⟨[.box 900000 0,pS,.agg [pS,pI],pI],[(900000,false,[.tre 850000 Y4 81,.tre 850001 Y6 132])]⟩,⟨[.tup []],[(900000,false,[.tre 850000 Y4 81,.tre 1 Y6 132])]⟩,c6A (i_Seg_put_m N)⟩:=
 mO (fC (jrl N) ja) func112 rfl N (.seq .no (.seq .no (.seq .no (.seq .no (.seq .no (.seq .no (.touch [.out 9 [(2,79,217,10),(1,88,3,0)]]))))))) _ (wr:=[33,34,70,71,91,92]) (rs:=[900000,850000,850001]) (dw:=[16,33,70])
noncomputable def jaS (N:Nat) (a:List Z1) (b:Unit):Option (List Z1):=jWO a
 
noncomputable def jjA (N:Nat):Model:=⟨⟨[.tre 800000 Y6 132,.clo 114 []],[]⟩,⟨[.tup [],.tre 800000 Y6 132],[]⟩,c2A (jaS N)⟩
theorem jtu :mK 113 (jjA N):=jW9
def jmK :Sh:=⟨.dead:: .dead:: .box 2 0:: .dead:: .box 4 0:: .box 5 0::dz 19 (.pv Y3::pI::pI::dz 32 []),[(2,false,[.pv (.sl .str),.pv Y14]),(4,false,[.nils,.nils]),(5,false,[.tre 700500 Y4 81,.tre 700501 Y6 132])]⟩
def jor :Sh:=⟨.dead:: .dead:: .box 2 0:: .dead:: .box 4 0:: .box 5 0:: .dead:: .box 7 0::dz 17 (.pv Y3::pI::pI::dz 4 (.pv Y17::pI::pI::dz 25 [])),[(2,false,[.pv (.sl .str),.pv Y14]),(4,false,[.nils,.nils]),(5,false,[.tre 700500 Y4 81,.tre 700501 Y6 132]),(7,false,[pI,.pv Y17,.pv Y13])]⟩
def jnj :Sh:=⟨.dead:: .dead:: .box 2 0:: .dead:: .box 4 0:: .box 5 0:: .dead:: .box 7 0:: .dead:: .box 9 0::dz 15 (.pv Y3::pI::pI::dz 4 (.pv Y17::pI::pI::dz 6 (.own 600041 Y15 155 true::pI::pI::dz 16 []))),[(2,false,[.pv (.sl .str),.pv Y14]),(4,false,[.nils,.nils]),(5,false,[.tre 700500 Y4 81,.tre 700501 Y6 132]),(7,false,[pI,.pv Y17,.pv Y13]),(9,false,[pS,pS])]⟩
noncomputable def jbT (c:List Z2) (c2:List Z4) (docs:List Z0):Option ((List Z0)×(List Z1)):=
 (oB (jaj N c c2) fun r=>bif !r then some (([]:List Z0),([]:List Z1))else oB (jbf N docs) fun r2=>bif !r2 then some (([]:List Z0),([]:List Z1))else oB (jbV N docs) fun r3=>iter (fun go (t25,t26,t27,c3,c4,s,s2)=>bif decide (t27<t26)then oB (idx t25 t27) fun e=>(iter (fun go2 (t252,t262,t272,t32,t33,t34,c5,c6,s3,s4,d,d2,d3)=>bif decide (t34<t33)then oB (idx t32 t34) fun e2=>(oB (jbw N c5 c6 e2.2) fun r4=>iter (fun go3 (t253,t263,t273,t322,t332,t342,t41,t42,t43,c7,c8,s5,s6,d4,d5,d6,f,f2)=>bif decide (t43<t42)then oB (idx t41 t43) fun e3=>(oB (i_Seg_put_m N f e3.1 e3.2 d4 s5 s6) fun r5=>if fits (t43+1)then go3 (t253,t263,t273,t322,t332,t342,t41,t42,(t43+1),c7,c8,r5.1,r5.2,d4,d5,d6,f,f2)else none)else if fits (t342+1)then go2 (t253,t263,t273,t322,t332,(t342+1),c7,c8,s5,s6,d4,d5,d6)else none) N (t252,t262,t272,t32,t33,t34,r4,(r4.length:Int),(0:Int),c5,c6,s3,s4,d,d2,d3,e2.1,e2.2))else if fits (t272+1)then go (t252,t262,(t272+1),c5,c6,s3,s4)else none) N (t25,t26,t27,e.2.1,(e.2.1.length:Int),(0:Int),c3,c4,s,s2,e.1,e.2.1,e.2.2))else oB (jaS N s2 ()) fun r6=>some (s,r6)) N (docs,(docs.length:Int),(0:Int),c,c2,r3,([]:List Z1)))
theorem jqC :mK 49 (bX [.agg [.pv (.sl .str),.pv Y14],.pv Y3] [.agg [.own 1 Y4 81 true,.own 2 Y6 132 true]] (c3A (jbT N))):=
 mO (fC (jdX N) (fC (jjU N) (fC (joC N) (fC (jgO N) (fC (jky N) (fC (jtu N) ja)))))) func49 rfl N (.seq .no (.seq .no (.seq .no (.seq (.seq .no (.block (.loop jmK (.seq .no (.seq .no (.seq (.block (.seq .no (.seq .no (.block (.loop jor (.seq .no (.seq .no (.seq (.block (.seq .no (.seq .no (.block (.loop jnj .no))))) .no)))))))) .no)))))) .no)))) _ (wr:=[23]) (dw:=[22,23])
def jtB :Sh:=⟨.pv Y19:: .pv Y19::dz 10 (pI::pI::dz 12 []),[]⟩
def jbX (b:List Int) (e:List Int):Z9:=
 (bif !decide ((b.length:Int)=(e.length:Int))then some false else iter (fun h (f,c,d,a)=>bif decide (a<d)then oB (idx f a) fun i=>(oB (idx c a) fun k=>bif !decide (i=k)then some false else if fits (a+1)then h (f,c,d,(a+1))else none)else some true) N (b,e,(b.length:Int),(0:Int)))
theorem jqi :mK 292 (bX [.pv Y19,.pv Y19] [pB] (c2A (jbX N))):=
 mO ja func292 rfl N (.seq .no (.seq .no (.seq (.seq .no (.block (.loop jtB .no))) .no))) _
def jcp (e:Int) (c:List Int) (a:Int) (d:List Int):Z9:=
 (bif decide (e=a)then oB (jbX N c d) fun b=>(some b)else some false)
theorem jth :mK 260 (bX [.agg [pI,.pv Y19],.agg [pI,.pv Y19]] [pB] (c4A (jcp N))):=
 mO (fC (jqi N) ja) func260 rfl N .no _
def jlX :Sh:=⟨.dead:: .pv Y11:: .clo 260 []::dz 12 (.pv Y11::pI::pI::dz 14 []),[]⟩
def jb6 (b:Z5) (f:Z5) (m:Unit):Z9:=
 (bif !decide ((b.length:Int)=(f.length:Int))then some false else iter (fun j (c,n,h,i,a)=>bif decide (a<i)then oB (idx h a) fun d=>(oB (idx c a) fun e=>oB (jcp N d.1 d.2 e.1 e.2) fun l=>bif !l then some false else if fits (a+1)then j (c,(),h,i,(a+1))else none)else some true) N (f,(),b,(b.length:Int),(0:Int)))
theorem jnG :mK 259 (bX [.pv Y11,.pv Y11,.clo 260 []] [pB] (c3A (jb6 N))):=
 mO (fC (jth N) ja) func259 rfl N (.seq .no (.seq .no (.seq (.seq .no (.block (.loop jlX .no))) .no))) _
def jcz (h:List UInt8) (c:List UInt8) (b:Z5) (a:List UInt8) (d:List UInt8) (f:Z5):Z9:=
 (bif decide (h=a)then bif decide (c=d)then oB (jb6 N b f ()) fun e=>(some e)else(some false)else some false)
theorem jp4 :mK 214 (bX [.agg [pS,pS,.pv Y11],.agg [pS,pS,.pv Y11]] [pB] (c6A (jcz N))):=
 mO (fC (jnG N) ja) func214 rfl N .no _
def jlD :Sh:=⟨.dead:: .pv Y5:: .clo 214 []::dz 12 (.pv Y5::pI::pI::dz 14 []),[]⟩
def jcn (b:List Z1) (f:List Z1) (m:Unit):Z9:=
 (bif !decide ((b.length:Int)=(f.length:Int))then some false else iter (fun j (e,n,h,i,a)=>bif decide (a<i)then oB (idx h a) fun c=>(oB (idx e a) fun d=>oB (jcz N c.1 c.2.1 c.2.2 d.1 d.2.1 d.2.2) fun l=>bif !l then some false else if fits (a+1)then j (e,(),h,i,(a+1))else none)else some true) N (f,(),b,(b.length:Int),(0:Int)))
theorem jsa :mK 213 (bX [.pv Y5,.pv Y5,.clo 214 []] [pB] (c3A (jcn N))):=
 mO (fC (jp4 N) ja) func213 rfl N (.seq .no (.seq .no (.seq (.seq .no (.block (.loop jlD .no))) .no))) _
noncomputable def jbN (a:List Z2) (c:List Z4) (b:List Z0) (f:List Z1):Z9:=
 (oB (jaj N a c) fun e=>bif !e then some false else oB (jbf N b) fun h=>bif !h then some false else oB (jbT N a c b) fun d=>oB (jcn N d.2 f ()) fun i=>some i)
theorem joa :mK 152 (bX [.agg [.pv (.sl .str),.pv Y14],.agg [.pv Y3,.pv Y5]] [pB] (c4A (jbN N))):=
 mO (fC (jdX N) (fC (jjU N) (fC (jqC N) (fC (jsa N) ja)))) func152 rfl N .no _
def jDT :Sh:=⟨.pv Y19::dz 4 (.pv Y19::pI::pI::dz 24 []),[]⟩
def jx1 (d:List Int):Z9:=
 (iter (fun f (b,c,e,a)=>bif decide (a<e)then oB (idx c a) fun h=>(oB (jm N h 0 999999999) fun k=>bif !k then some false else bif decide ((0:Int)<a)then if fits (a-1)then oB (idx b (a-1)) fun j=>(bif decide (h<=j)then some false else if fits (a+1)then f (b,c,e,(a+1))else none)else none else if fits (a+1)then f (b,c,e,(a+1))else none)else some (decide ((b.length:Int)<=60))) N (d,d,(d.length:Int),(0:Int)))
theorem jAN :mK 153 (bX [.pv Y19] [pB] (c1A (jx1 N))):=
 mO (fC (jY N) ja) func153 rfl N (.seq .no (.seq (.seq .no (.block (.loop jDT .no))) .no)) _
def jqv :Sh:=⟨.dead::pI:: .dead:: .dead:: .box 4 0::dz 6 (.pv Y3::pI::pI::dz 10 []),[(4,false,[pI,.nils,.nils])]⟩
def i_Seg_doc_m (d:(List Z0)×(List Z1)) (k:Int):Option (Int×Z10×Z7×Bool):=
 (iter (fun i (f,c,e,a,h)=>bif decide (a<e)then oB (idx c a) fun b=>(bif decide (b.1=f)then some (b.1,b.2.1,b.2.2,true)else if fits (a+1)then i (f,c,e,(a+1),h)else none)else some (0,([]:Z11),([]:Z6),false)) N (k,d.1,(d.1.length:Int),(0:Int),(0:Int)))
theorem jlU :mK 154 (bX [.ptr Y2,pI] [.tup [.agg [pI,.pv Y17,.pv Y13],pB]] (c2A (i_Seg_doc_m N))):=
 mO ja func154 rfl N (.seq .no (.seq (.seq .no (.block (.loop jqv .no))) .no)) _
def jIP :Sh:=⟨.pv Y19::pI::dz 5 (pI::pI::dz 10 []),[]⟩
def k_slices_Index_484_m (b:List Int) (f:Int):Option (Int):=
 (iter (fun h (d,e,c,a)=>bif decide (a<c)then oB (idx d a) fun i=>(bif decide (e=i)then some a else if fits (a+1)then h (d,e,c,(a+1))else none)else some (-1)) N (b,f,(b.length:Int),(0:Int)))
theorem jJu :mK 261 (bX [.pv Y19,pI] [pI] (c2A (k_slices_Index_484_m N))):=
 mO ja func261 rfl N (.seq .no (.seq (.seq .no (.block (.loop jIP .no))) .no)) _
def k_slices_Contains_735_m (c:List Int) (a:Int):Z9:=
 (oB (k_slices_Index_484_m N c a) fun b=>some (decide ((0:Int)<=b)))
theorem jIT :mK 215 (bX [.pv Y19,pI] [pB] (c2A (k_slices_Contains_735_m N))):=
 mO (fC (jJu N) ja) func215 rfl N .no _
def jIi :Sh:=⟨.dead:: .box 1 0:: .dead:: .own 600003 Y4 81 false::dz 5 (.pv Y3::pI::pI::dz 15 []),[(1,false,[.pv Y3,.pv Y5,.pv Y19])]⟩
def i_Live_alive_m (c:List Z0) (l:List Z1) (m:List Int):Z13:=
 (iter (fun j (b,e,d,a,i,k,h)=>bif decide (a<d)then oB (idx e a) fun f=>(oB (k_slices_Contains_735_m N h f.1) fun n=>bif !n then if room b.length ([f]:List Z0).length 56 then if fits (a+1)then j ((b++([f]:List Z0)),e,d,(a+1),i,k,h)else none else none else if fits (a+1)then j (b,e,d,(a+1),i,k,h)else none)else some b) N (([]:List Z0),c,(c.length:Int),(0:Int),c,l,m))
theorem jH4 :mK 155 (bX [.agg [.pv Y3,.pv Y5,.pv Y19]] [.own 1 Y4 81 false] (c3A (i_Live_alive_m N))):=
 mO (fC (jIT N) ja) func155 rfl N (.seq .no (.seq .no (.seq (.seq .no (.block (.loop jIi .no))) .no))) _
def jIO :Sh:=⟨dz 3 (.box 3 0::dz 17 (.pv Y19::pI::pI::dz 16 [])),[(3,true,[.pv Y3,.pv Y5,.pv Y19])]⟩
noncomputable def i_liveOk_m (k:List Z2) (t:List Z4) (i:List Z0) (e:List Z1) (b:List Int):Z9:=
 (oB (jbN N k t i e) fun p=>bif !p then some false else oB (jx1 N b) fun q=>bif !q then some false else iter (fun n (j,h,a,c,d,f)=>bif decide (a<h)then oB (idx j a) fun l=>(oB (i_Seg_doc_m N (c,d) l) fun o=>bif !o.2.2.2 then some false else if fits (a+1)then n (j,h,(a+1),c,d,f)else none)else oB (i_Live_alive_m N c d f) fun r=>some (decide ((0:Int)<r.length))) N (b,(b.length:Int),(0:Int),i,e,b))
theorem jJD :mK 78 (bX [.agg [.pv (.sl .str),.pv Y14],.agg [.pv Y3,.pv Y5,.pv Y19]] [pB] (c5A (i_liveOk_m N))):=
 mO (fC (joa N) (fC (jAN N) (fC (jlU N) (fC (jH4 N) ja)))) func78 rfl N (.seq .no (.seq .no (.seq (.seq .no (.block (.loop jIO .no))) .no))) _
def jl0 :Sh:=⟨.pv (.int .u64):: .dead::pI::dz 22 [],[]⟩
def k_math_bits_Len64_m (N:Nat) (e:Int):Option (Int):=
 (meet (fun(a:Int×Int)=>match a with|(b,f)=>meet (fun(a:Int×Int)=>match a with|(d,c)=>meet (fun(a:Int×Int)=>match a with|(m,i)=>oB (idx ([0,1,2,2,3,3,3,3,4,4,4,4,4,4,4,4,5,5,5,5,5,5,5,5,5,5,5,5,5,5,5,5,6,6,6,6,6,6,6,6,6,6,6,6,6,6,6,6,6,6,6,6,6,6,6,6,6,6,6,6,6,6,6,6,7,7,7,7,7,7,7,7,7,7,7,7,7,7,7,7,7,7,7,7,7,7,7,7,7,7,7,7,7,7,7,7,7,7,7,7,7,7,7,7,7,7,7,7,7,7,7,7,7,7,7,7,7,7,7,7,7,7,7,7,7,7,7,7,8,8,8,8,8,8,8,8,8,8,8,8,8,8,8,8,8,8,8,8,8,8,8,8,8,8,8,8,8,8,8,8,8,8,8,8,8,8,8,8,8,8,8,8,8,8,8,8,8,8,8,8,8,8,8,8,8,8,8,8,8,8,8,8,8,8,8,8,8,8,8,8,8,8,8,8,8,8,8,8,8,8,8,8,8,8,8,8,8,8,8,8,8,8,8,8,8,8,8,8,8,8,8,8,8,8,8,8,8,8,8,8,8,8,8,8,8,8,8,8,8,8,8,8,8,8,8,8]:List UInt8) (IntKind.u8.wrap m)) fun h=>if fits (i+(IntKind.i64.wrap (h.toNat:Int)))then some (i+(IntKind.i64.wrap (h.toNat:Int)))else none) fun l=>bif decide ((256:Int)<=d)then if 0<=(8:Int)then if fits (c+8)then l ((d.fdiv (2^(min (8:Int).toNat (IntKind.bits .u64)))),(c+8))else none else none else l (d,c)) fun k=>bif decide ((65536:Int)<=b)then if 0<=(16:Int)then if fits (f+16)then k ((b.fdiv (2^(min (16:Int).toNat (IntKind.bits .u64)))),(f+16))else none else none else k (b,f)) fun j=>bif decide ((4294967296:Int)<=e)then if 0<=(32:Int)then j ((e.fdiv (2^(min (32:Int).toNat (IntKind.bits .u64)))),32)else none else j (e,0))
theorem jrK :mK 244 (bX [.pv (.int .u64)] [pI] (c1A (k_math_bits_Len64_m N))):=
 mO ja func244 rfl N (.seq .no (.meet jl0 .no (.meet jl0 .no (.meet jl0 .no .no)))) _
def k_math_bits_Len_m (b:Int):Option (Int):=
 (oB (k_math_bits_Len64_m N b) fun a=>some a)
theorem jda :mK 188 (bX [.pv (.int .u64)] [pI] (c1A (k_math_bits_Len_m N))):=
 mO (fC (jrK N) ja) func188 rfl N .no _
def k_cmp_isNaN_538_m (N:Nat) (a:Int):Z9:=
 (some (!decide (a=a)))
theorem joK :mK 217 (bX [pI] [pB] (c1A (k_cmp_isNaN_538_m N))):=
 mO ja func217 rfl N .no _
def k_cmp_Compare_992_m (b:Int) (a:Int):Option (Int):=
 (oB (k_cmp_isNaN_538_m N b) fun d=>oB (k_cmp_isNaN_538_m N a) fun c=>bif d then bif c then some 0 else(some (-1))else bif c then some 1 else bif decide (b<a)then some (-1)else bif decide (a<b)then some 1 else some 0)
theorem jpP :mK 158 (bX [pI,pI] [pI] (c2A (k_cmp_Compare_992_m N))):=
 mO (fC (joK N) ja) func158 rfl N .no _
def i_allAlive_1_m (c:Int) (e:Z11) (d:Z6) (a:Int) (f:Z11) (h:Z6):Option (Int):=
 (oB (k_cmp_Compare_992_m N c a) fun b=>some b)
theorem jHC :mK 157 (bX [.agg [pI,.pv Y17,.pv Y13],.agg [pI,.pv Y17,.pv Y13]] [pI] (c6A (i_allAlive_1_m N))):=
 mO (fC (jpP N) ja) func157 rfl N .no _
def k_slices_nextPowerOfTwo_m (b:Int):Option (Int):=
 (oB (k_math_bits_Len_m N (IntKind.u64.wrap b)) fun a=>if 0<=a then some (IntKind.u64.wrap ((1:Int)*2^(min a.toNat (IntKind.bits .u64))))else none)
theorem jhv :mK 282 (bX [pI] [.pv (.int .u64)] (c1A (k_slices_nextPowerOfTwo_m N))):=
 mO (fC (jda N) ja) func282 rfl N .no _
def k__slices_xorshift_Next_m (N:Nat) (a:Int):Option (Int×Int):=
 (if 0<=(13:Int)then if 0<=(7:Int)then if 0<=(17:Int)then some ((bitsI .xor .u64 (bitsI .xor .u64 (bitsI .xor .u64 a (IntKind.u64.wrap (a*2^(min (13:Int).toNat (IntKind.bits .u64))))) ((bitsI .xor .u64 a (IntKind.u64.wrap (a*2^(min (13:Int).toNat (IntKind.bits .u64))))).fdiv (2^(min (7:Int).toNat (IntKind.bits .u64))))) (IntKind.u64.wrap ((bitsI .xor .u64 (bitsI .xor .u64 a (IntKind.u64.wrap (a*2^(min (13:Int).toNat (IntKind.bits .u64))))) ((bitsI .xor .u64 a (IntKind.u64.wrap (a*2^(min (13:Int).toNat (IntKind.bits .u64))))).fdiv (2^(min (7:Int).toNat (IntKind.bits .u64)))))*2^(min (17:Int).toNat (IntKind.bits .u64))))),(bitsI .xor .u64 (bitsI .xor .u64 (bitsI .xor .u64 a (IntKind.u64.wrap (a*2^(min (13:Int).toNat (IntKind.bits .u64))))) ((bitsI .xor .u64 a (IntKind.u64.wrap (a*2^(min (13:Int).toNat (IntKind.bits .u64))))).fdiv (2^(min (7:Int).toNat (IntKind.bits .u64))))) (IntKind.u64.wrap ((bitsI .xor .u64 (bitsI .xor .u64 a (IntKind.u64.wrap (a*2^(min (13:Int).toNat (IntKind.bits .u64))))) ((bitsI .xor .u64 a (IntKind.u64.wrap (a*2^(min (13:Int).toNat (IntKind.bits .u64))))).fdiv (2^(min (7:Int).toNat (IntKind.bits .u64)))))*2^(min (17:Int).toNat (IntKind.bits .u64))))))else none else none else none)
theorem jet :mK 283 ⟨⟨[.box 900000 0],[(900000,false,[.pv (.int .u64)])]⟩,⟨[.pv (.int .u64)],[(900000,false,[.pv (.int .u64)])]⟩,c1A (k__slices_xorshift_Next_m N)⟩:=
 mO ja func283 rfl N .no _ (rs:=[900000])
section
variable {α γ ρ : Type} (c : γ -> α -> α -> Option Int)
def swpG (d:List α) (i j:Int) (k:List α->Option ρ):Option ρ:=
 if 0<=j/\j<(d.length:Int)then oB (d[j.toNat]?) fun e=>if 0<=i/\i<(d.length:Int)then oB (d[i.toNat]?) fun e2=>
  if 0<=i/\i<(d.length:Int)then oB (d[i.toNat]?) fun e3=>if 0<=j/\j<((d.set i.toNat e).length:Int)then oB ((d.set i.toNat e)[j.toNat]?) fun e4=>k ((d.set i.toNat e).set j.toNat e2)
  else none else none else none else none
def cmpG (ks:γ) (d:List α) (i j:Int) (k:Int->Option ρ):Option ρ:=
 if 0<=i/\i<(d.length:Int)then oB (d[i.toNat]?) fun e=>if 0<=j/\j<(d.length:Int)then oB (d[j.toNat]?) fun e2=>oB (c ks e e2) k else none else none
def cmpP (ks:γ) (d:List α) (j:Int) (k:Int->Option ρ):Option ρ:=
 if 0<=j/\j<(d.length:Int)then oB (d[j.toNat]?) fun e=>if fits (j-1)then if 0<=(j-1)/\(j-1)<(d.length:Int)then oB (d[(j-1).toNat]?) fun e2=>oB (c ks e e2) k else none else none else none
def swpP (d:List α) (j:Int) (k:List α->Option ρ):Option ρ:=if fits (j-1)then if fits (j-1)then swpG d j (j-1) k else none else none
def insG (N:Nat) (d:List α) (a b:Int) (ks:γ):Option (List α):=
 if fits (a+1)then iter (fun go (g:List α×Int×Int×γ×Int)=>
  match g with
  |(d2,a2,b2,ks2,i)=>
  bif decide (i<b2)then
   iter (fun go2 (g:List α×Int×Int×γ×Int×Int)=>
    match g with
    |(d3,a3,b3,ks3,i2,j)=>
    bif decide (a3<j)then cmpP c ks3 d3 j fun r=>bif decide (r<0)then swpP d3 j fun d=>if fits (j-1)then go2 (d,a3,b3,ks3,i2,j-1)else none
     else if fits (i2+1)then go (d3,a3,b3,ks3,i2+1)else none
    else if fits (i2+1)then go (d3,a3,b3,ks3,i2+1)else none) N (d2,a2,b2,ks2,i,i)
  else some d2) N (d,a,b,ks,a+1)else none
def siftG (N:Nat) (data:List α) (lo:Int) (hi:Int) (first:Int) (cmp:γ):Option ((List α)):=
 (iter (fun go (g:(List α)×Int×Int×γ×Int)=>
   match g with
   |(data2,hi2,first2,cmp2,root)=>
   (if fits (2*root)then(if fits ((2*root)+1)then(bif(decide (hi2<=((2*root)+1)))then
      (some data2)
      else
      (meet (fun(g:(List α)×Int×Int×γ×Int×Int)=>
        match g with
        |(data3,hi3,first3,cmp3,root2,child)=>
        (if fits (first3+root2)then(if 0<=(first3+root2)/\(first3+root2)<(data3.length:Int)then
          (oB (data3[(first3+root2).toNat]?) fun e3=>
           (if fits (first3+child)then(if 0<=(first3+child)/\(first3+child)<(data3.length:Int)then
             (oB (data3[(first3+child).toNat]?) fun e4=>
              (oB (c cmp3 e3 e4) fun r2=>
               (bif(!(decide (r2<0)))then
                (some data3)
                else
                (if fits (first3+root2)then(if fits (first3+child)then(if fits (first3+child)then(if 0<=(first3+child)/\(first3+child)<(data3.length:Int)then
                    (oB (data3[(first3+child).toNat]?) fun e5=>
                     (if fits (first3+root2)then(if 0<=(first3+root2)/\(first3+root2)<(data3.length:Int)then
                       (oB (data3[(first3+root2).toNat]?) fun e6=>
                        (if 0<=(first3+root2)/\(first3+root2)<(data3.length:Int)then
                         (oB (data3[(first3+root2).toNat]?) fun e7=>
                          (if 0<=(first3+child)/\(first3+child)<((data3.set (first3+root2).toNat e5).length:Int)then
                           (oB ((data3.set (first3+root2).toNat e5)[(first3+child).toNat]?) fun e8=>
                            (go (((data3.set (first3+root2).toNat e5).set (first3+child).toNat e6),hi3,first3,cmp3,child)))
                           else none))
                         else none))
                       else none)else none))
                    else none)else none)else none)else none))))
             else none)else none))
          else none)else none)) fun J=>
       (if fits (((2*root)+1)+1)then(bif(decide ((((2*root)+1)+1)<hi2))then
         (if fits (first2+((2*root)+1))then(if 0<=(first2+((2*root)+1))/\(first2+((2*root)+1))<(data2.length:Int)then
           (oB (data2[(first2+((2*root)+1)).toNat]?) fun e=>
            (if fits (first2+((2*root)+1))then(if fits ((first2+((2*root)+1))+1)then(if 0<=((first2+((2*root)+1))+1)/\((first2+((2*root)+1))+1)<(data2.length:Int)then
               (oB (data2[((first2+((2*root)+1))+1).toNat]?) fun e2=>
                (oB (c cmp2 e e2) fun r=>
                 (bif(decide (r<0))then
                  (if fits (((2*root)+1)+1)then(J (data2,hi2,first2,cmp2,root,(((2*root)+1)+1)))else none)
                  else
                  (J (data2,hi2,first2,cmp2,root,((2*root)+1))))))
               else none)else none)else none))
           else none)else none)
         else
         (J (data2,hi2,first2,cmp2,root,((2*root)+1))))else none)))else none)else none)) N (data,hi,first,cmp,lo))
def heapG (N:Nat) (data:List α) (a:Int) (b:Int) (cmp:γ):Option ((List α)):=
 (if fits (b-a)then(if fits ((b-a)-1)then(if 2≠0 then
    (if fits (((b-a)-1).tdiv 2)then(iter (fun go (g:(List α)×γ×Int×Int×Int×Int)=>
       match g with
       |(data2,cmp2,first,lo,hi,i)=>
       (bif(decide ((0:Int)<=i))then
        (oB (siftG c N data2 i hi first cmp2) fun r=>
         (if fits (i-1)then(go (r,cmp2,first,lo,hi,(i-1)))else none))
        else
        (if fits (hi-1)then(iter (fun go2 (g:(List α)×γ×Int×Int×Int)=>
           match g with
           |(data3,cmp3,first2,lo2,i2)=>
           (bif(decide ((0:Int)<=i2))then
            (if fits (first2+i2)then(if fits (first2+i2)then swpG data3 first2 (first2+i2) fun d=>(oB (siftG c N d lo2 i2 first2 cmp3) fun r2=>
                       (if fits (i2-1)then(go2 (r2,cmp3,first2,lo2,(i2-1)))else none))else none)else none)
            else
            (some data3))) N (data2,cmp2,first,lo,(hi-1)))else none))) N (data,cmp,a,0,(b-a),(((b-a)-1).tdiv 2)))else none)
    else none)else none)else none)
def breakG (N:Nat) (data:List α) (a:Int) (b:Int) (cmp:γ):Option (List α):=
 (if fits (b-a)then(bif(decide ((8:Int)<=(b-a)))then
   (oB (k_slices_nextPowerOfTwo_m N (b-a)) fun r=>
    (if 4≠0 then
     (if fits ((b-a).tdiv 4)then(if fits (((b-a).tdiv 4)*2)then(if fits (a+(((b-a).tdiv 4)*2))then(if fits ((a+(((b-a).tdiv 4)*2))-1)then(iter (fun go (g:(List α)×Int×Int×Int×Int×Int)=>
           match g with
           |(data2,a2,length,modulus,idx0,random)=>
           (if 4≠0 then
            (if fits (length.tdiv 4)then(if fits ((length.tdiv 4)*2)then(if fits (a2+((length.tdiv 4)*2))then(if fits ((a2+((length.tdiv 4)*2))+1)then(bif(decide (idx0<=((a2+((length.tdiv 4)*2))+1)))then
                 (oB (k__slices_xorshift_Next_m N random) fun r2=>
                  (meet (fun(g:(List α)×Int×Int×Int×Int×Int×Int)=>
                    match g with
                    |(data3,a3,length2,modulus2,idx02,other,random2)=>
                    (if fits (a3+other)then(if fits (a3+other)then swpG data3 idx02 (a3+other) fun d=>(if fits (idx02+1)then(go (d,a3,length2,modulus2,(idx02+1),random2))else none)else none)else none)) fun J=>
                   (bif(decide (length<=(IntKind.i64.wrap (bitsI .and .u64 r2.1 (IntKind.u64.wrap (modulus-1))))))then
                    (if fits ((IntKind.i64.wrap (bitsI .and .u64 r2.1 (IntKind.u64.wrap (modulus-1))))-length)then(J (data2,a2,length,modulus,idx0,((IntKind.i64.wrap (bitsI .and .u64 r2.1 (IntKind.u64.wrap (modulus-1))))-length),r2.2))else none)
                    else
                    (J (data2,a2,length,modulus,idx0,(IntKind.i64.wrap (bitsI .and .u64 r2.1 (IntKind.u64.wrap (modulus-1)))),r2.2)))))
                 else
                 (some data2))else none)else none)else none)else none)
            else none)) N (data,a,(b-a),r,((a+(((b-a).tdiv 4)*2))-1),(IntKind.u64.wrap (b-a))))else none)else none)else none)else none)
     else none))
   else
   (some data))else none)
def order2G (N:Nat) (data:List α) (a:Int) (b:Int) (cmp:γ) (b2:Int):Option (Int×Int×(List α)×Int):=
 cmpG c cmp data b a fun r=>(bif(decide (r<0))then(if fits (b2+1)then(some (b,a,data,(b2+1)))else none)else(some (a,b,data,b2)))
def medianG (N:Nat) (data:List α) (a:Int) (b:Int) (c0:Int) (cmp:γ) (b2:Int):Option (Int×(List α)×Int):=
 (oB (order2G c N data a b cmp b2) fun r=>
  (oB (order2G c N r.2.2.1 r.2.1 c0 cmp r.2.2.2) fun r2=>
   (oB (order2G c N r2.2.2.1 r.1 r2.1 cmp r2.2.2.2) fun r3=>
    (some (r3.2.1,r3.2.2.1,r3.2.2.2)))))
def medianAdjacentG (N:Nat) (data:List α) (a:Int) (cmp:γ) (b:Int):Option (Int×(List α)×Int):=
 (if fits (a-1)then(if fits (a+1)then(oB (medianG c N data (a-1) a (a+1) cmp b) fun r=>
    (some (r.1,r.2.1,r.2.2)))else none)else none)
def choosePivotG (N:Nat) (data:List α) (a:Int) (b:Int) (cmp:γ):Option (Int×Int×(List α)):=
 (if fits (b-a)then(if 4≠0 then
   (if fits ((b-a).tdiv 4)then(if fits (((b-a).tdiv 4)*1)then(if fits (a+(((b-a).tdiv 4)*1))then(if 4≠0 then
       (if fits ((b-a).tdiv 4)then(if fits (((b-a).tdiv 4)*2)then(if fits (a+(((b-a).tdiv 4)*2))then(if 4≠0 then
           (if fits ((b-a).tdiv 4)then(if fits (((b-a).tdiv 4)*3)then(if fits (a+(((b-a).tdiv 4)*3))then(meet (fun(g:(List α)×Int×Int)=>
                match g with
                |(data3,j2,swaps2)=>
                (bif(decide (swaps2=0))then
                 (some (j2,1,data3))
                 else
                 (bif(decide (swaps2=12))then
                  (some (j2,2,data3))
                  else
                  (some (j2,0,data3))))) fun J=>
               (bif(decide ((8:Int)<=(b-a)))then
                (meet (fun(g:(List α)×γ×Int×Int×Int×Int)=>
                  match g with
                  |(data2,cmp2,i,j,k,swaps)=>
                  (oB (medianG c N data2 i j k cmp2 swaps) fun r4=>
                   (J (r4.2.1,r4.1,r4.2.2)))) fun J2=>
                 (bif(decide ((50:Int)<=(b-a)))then
                  (oB (medianAdjacentG c N data (a+(((b-a).tdiv 4)*1)) cmp 0) fun r=>
                   (oB (medianAdjacentG c N r.2.1 (a+(((b-a).tdiv 4)*2)) cmp r.2.2) fun r2=>
                    (oB (medianAdjacentG c N r2.2.1 (a+(((b-a).tdiv 4)*3)) cmp r2.2.2) fun r3=>
                     (J2 (r3.2.1,cmp,r.1,r2.1,r3.1,r3.2.2)))))
                  else
                  (J2 (data,cmp,(a+(((b-a).tdiv 4)*1)),(a+(((b-a).tdiv 4)*2)),(a+(((b-a).tdiv 4)*3)),0))))
                else
                (J (data,(a+(((b-a).tdiv 4)*2)),0))))else none)else none)else none)
           else none)else none)else none)else none)
       else none)else none)else none)else none)
   else none)else none)
def reverseRangeG (N:Nat) (data:List α) (a:Int) (b:Int) (cmp:γ):Option ((List α)):=
 (if fits (b-1)then(iter (fun go (g:(List α)×Int×Int)=>
    match g with
    |(data2,i,j)=>
    (bif(decide (i<j))then swpG data2 i j fun d=>(if fits (i+1)then(if fits (j-1)then(go (d,(i+1),(j-1)))else none)else none)
     else
     (some data2))) N (data,a,(b-1)))else none)
def shDown (k:(List α×Int×Int×γ×Int×Int)->Option ρ) (N:Nat) (g:List α×Int×Int×γ×Int×Int×Int):Option ρ:=
 iter (fun go3 (g:(List α)×Int×Int×γ×Int×Int×Int)=>
  match g with
  |(d,a,b,ks,i,j,j4)=>
  bif decide ((1:Int)<=j4)then cmpP c ks d j4 fun r=>bif !decide (r<0)then k (d,a,b,ks,i,j)else swpP d j4 fun d'=>if fits (j4-1)then go3 (d',a,b,ks,i,j,j4-1)else none
  else k (d,a,b,ks,i,j)) N g
def shUp (k:(List α×Int×Int×γ×Int×Int)->Option ρ) (N:Nat) (g:List α×Int×Int×γ×Int×Int×Int):Option ρ:=
 iter (fun go4 (g:(List α)×Int×Int×γ×Int×Int×Int)=>
  match g with
  |(d,a,b,ks,i,j,j4)=>
  bif decide (j4<b)then cmpP c ks d j4 fun r=>bif !decide (r<0)then(if fits (j+1)then k (d,a,b,ks,i,j+1)else none)else swpP d j4 fun d'=>if fits (j4+1)then go4 (d',a,b,ks,i,j,j4+1)else none
  else if fits (j+1)then k (d,a,b,ks,i,j+1)else none) N g
def pisX (N:Nat) (go:(List α×Int×Int×γ×Int×Int)->Option (Bool×List α)) (d:List α) (a b:Int) (ks:γ) (i j:Int):Option (Bool×List α):=
 bif decide (i=b)then some (true,d)else if fits (b-a)then bif decide ((b-a)<50)then some (false,d)else
  swpP d i fun d'=>meet (fun(g:List α×Int×Int×γ×Int×Int)=>
   match g with
   |(d5,a5,b5,ks5,i4,j5)=>
   if fits (b5-i4)then bif decide ((2:Int)<=(b5-i4))then if fits (i4+1)then shUp c go N (d5,a5,b5,ks5,i4,j5,i4+1)else none
    else(if fits (j5+1)then go (d5,a5,b5,ks5,i4,j5+1)else none)else none) fun J=>
   if fits (i-a)then bif decide ((2:Int)<=(i-a))then if fits (i-1)then shDown c J N (d',a,b,ks,i,j,i-1)else none else J (d',a,b,ks,i,j)else none
 else none
def pisG (N:Nat) (d:List α) (a b:Int) (ks:γ):Option (Bool×List α):=
 if fits (a+1)then iter (fun go (g:List α×Int×Int×γ×Int×Int)=>
  match g with
  |(d2,a2,b2,ks2,i,j)=>
  bif decide (j<5)then
   iter (fun go2 (g:List α×Int×Int×γ×Int×Int)=>
    match g with
    |(d3,a3,b3,ks3,i2,j2)=>
    bif decide (i2<b3)then cmpP c ks3 d3 i2 fun r=>bif !decide (r<0)then(if fits (i2+1)then go2 (d3,a3,b3,ks3,i2+1,j2)else none)else pisX c N go d3 a3 b3 ks3 i2 j2
    else pisX c N go d3 a3 b3 ks3 i2 j2) N (d2,a2,b2,ks2,i,j)
  else some (false,d2)) N (d,a,b,ks,a+1,0)else none
def partE (go3:(List α×Int×γ×Int×Int)->Option (Int×Bool×List α)) (fl:Bool) (g:List α×Int×γ×Int×Int):Option (Int×Bool×List α):=
 match g with
 |(d,a,ks,i,j)=>
 bif decide (j<i)then swpG d j a fun d'=>some (j,fl,d')else swpG d i j fun d'=>if fits (i+1)then if fits (j-1)then go3 (d',a,ks,i+1,j-1)else none else none
def partD (k:(List α×Int×γ×Int×Int)->Option ρ) (N:Nat) (g:List α×Int×γ×Int×Int):Option ρ:=
 iter (fun go (g:List α×Int×γ×Int×Int)=>
  match g with
  |(d,a,ks,i,j)=>
  bif decide (i<=j)then cmpG c ks d j a fun r=>bif !decide (r<0)then(if fits (j-1)then go (d,a,ks,i,j-1)else none)else k (d,a,ks,i,j)
  else k (d,a,ks,i,j)) N g
def partU (k:(List α×Int×γ×Int×Int)->Option ρ) (N:Nat) (g:List α×Int×γ×Int×Int):Option ρ:=
 iter (fun go (g:List α×Int×γ×Int×Int)=>
  match g with
  |(d,a,ks,i,j)=>
  bif decide (i<=j)then cmpG c ks d i a fun r=>bif decide (r<0)then(if fits (i+1)then go (d,a,ks,i+1,j)else none)else k (d,a,ks,i,j)
  else k (d,a,ks,i,j)) N g
def partG (N:Nat) (d:List α) (a b p:Int) (ks:γ):Option (Int×Bool×List α):=
 swpG d a p fun d=>if fits (a+1)then if fits (b-1)then
  partU c (fun g=>partD c (partE (fun g=>iter (fun go3 g=>partU c (fun g=>partD c (partE go3 false) N g) N g) N g) true) N g) N (d,a,ks,a+1,b-1)
 else none else none
def peqE (go:(List α×Int×γ×Int×Int)->Option (Int×List α)) (g:List α×Int×γ×Int×Int):Option (Int×List α):=
 match g with
 |(d,a,ks,i,j)=>
 bif decide (j<i)then some (i,d)else swpG d i j fun d'=>if fits (i+1)then if fits (j-1)then go (d',a,ks,i+1,j-1)else none else none
def peqD (k:(List α×Int×γ×Int×Int)->Option ρ) (N:Nat) (g:List α×Int×γ×Int×Int):Option ρ:=
 iter (fun go (g:List α×Int×γ×Int×Int)=>
  match g with
  |(d,a,ks,i,j)=>
  bif decide (i<=j)then cmpG c ks d a j fun r=>bif decide (r<0)then(if fits (j-1)then go (d,a,ks,i,j-1)else none)else k (d,a,ks,i,j)
  else k (d,a,ks,i,j)) N g
def peqU (k:(List α×Int×γ×Int×Int)->Option ρ) (N:Nat) (g:List α×Int×γ×Int×Int):Option ρ:=
 iter (fun go (g:List α×Int×γ×Int×Int)=>
  match g with
  |(d,a,ks,i,j)=>
  bif decide (i<=j)then cmpG c ks d a i fun r=>bif !decide (r<0)then(if fits (i+1)then go (d,a,ks,i+1,j)else none)else k (d,a,ks,i,j)
  else k (d,a,ks,i,j)) N g
def peqG (N:Nat) (d:List α) (a b p:Int) (ks:γ):Option (Int×List α):=
 swpG d a p fun d=>if fits (a+1)then if fits (b-1)then iter (fun go g=>peqU c (fun g=>peqD c (peqE go) N g) N g) N (d,a,ks,a+1,b-1)else none else none
def pdqG (hs:List α->Int->Int->γ->Option (List α)) (pe:List α->Int->Int->Int->γ->Option (Int×List α)) (N:Nat):(D:Nat)->(List α)->Int->Int->Int->γ->Option ((List α))
 |0,_,_,_,_,_=>none
 |D+1,data,a,b,limit,cmp=>
 (iter (fun go (g:(List α)×Int×Int×Int×γ×Bool×Bool)=>
   match g with
   |(data2,a2,b2,limit2,cmp2,wasBalanced,wasPartitioned)=>
   (if fits (b2-a2)then(bif(decide ((b2-a2)<=12))then
     (oB (insG c N data2 a2 b2 cmp2) fun r=>
      (some r))
     else
     (bif(decide (limit2=0))then
      (oB (hs data2 a2 b2 cmp2) fun r2=>
       (some r2))
      else
      (meet (fun(g:(List α)×Int×Int×Int×γ×Bool×Bool×Int)=>
        match g with
        |(data3,a3,b3,limit3,cmp3,wasBalanced2,wasPartitioned2,length)=>
        (oB (choosePivotG c N data3 a3 b3 cmp3) fun r4=>
         (meet (fun(g:(List α)×Int×Int×Int×γ×Bool×Bool×Int×Int×Int)=>
           match g with
           |(data4,a4,b4,limit4,cmp4,wasBalanced3,wasPartitioned3,length2,pivot,hint)=>
           (meet (fun(g:(List α)×Int×Int×Int×γ×Bool×Bool×Int×Int)=>
             match g with
             |(data5,a5,b5,limit5,cmp5,wasBalanced4,wasPartitioned4,length3,pivot2)=>
             (bif(decide ((0:Int)<a5))then
              (if fits (a5-1)then(if 0<=(a5-1)/\(a5-1)<(data5.length:Int)then
                (oB (data5[(a5-1).toNat]?) fun e=>
                 (if 0<=pivot2/\pivot2<(data5.length:Int)then
                  (oB (data5[pivot2.toNat]?) fun e2=>
                   (oB (c cmp5 e e2) fun r7=>
                    (bif(!(decide (r7<0)))then
                     (oB (pe data5 a5 b5 pivot2 cmp5) fun r8=>
                      (go (r8.2,r8.1,b5,limit5,cmp5,wasBalanced4,wasPartitioned4)))
                     else
                     (oB (partG c N data5 a5 b5 pivot2 cmp5) fun r9=>
                      (if fits (r9.1-a5)then(if fits (b5-r9.1)then(if 8≠0 then
                         (if fits (length3.tdiv 8)then(bif(decide ((r9.1-a5)<(b5-r9.1)))then
                           (oB (pdqG hs pe N D r9.2.2 a5 r9.1 limit5 cmp5) fun r10=>
                            (if fits (r9.1+1)then(go (r10,(r9.1+1),b5,limit5,cmp5,(decide ((length3.tdiv 8)<=(r9.1-a5))),r9.2.1))else none))
                           else
                           (if fits (r9.1+1)then(oB (pdqG hs pe N D r9.2.2 (r9.1+1) b5 limit5 cmp5) fun r11=>
                             (go (r11,a5,r9.1,limit5,cmp5,(decide ((length3.tdiv 8)<=(b5-r9.1))),r9.2.1)))else none))else none)
                         else none)else none)else none)))))
                  else none))
                else none)else none)
              else
              (oB (partG c N data5 a5 b5 pivot2 cmp5) fun r12=>
               (if fits (r12.1-a5)then(if fits (b5-r12.1)then(if 8≠0 then
                  (if fits (length3.tdiv 8)then(bif(decide ((r12.1-a5)<(b5-r12.1)))then
                    (oB (pdqG hs pe N D r12.2.2 a5 r12.1 limit5 cmp5) fun r13=>
                     (if fits (r12.1+1)then(go (r13,(r12.1+1),b5,limit5,cmp5,(decide ((length3.tdiv 8)<=(r12.1-a5))),r12.2.1))else none))
                    else
                    (if fits (r12.1+1)then(oB (pdqG hs pe N D r12.2.2 (r12.1+1) b5 limit5 cmp5) fun r14=>
                      (go (r14,a5,r12.1,limit5,cmp5,(decide ((length3.tdiv 8)<=(b5-r12.1))),r12.2.1)))else none))else none)
                  else none)else none)else none)))) fun J3=>
            (bif wasBalanced3 then
             (bif wasPartitioned3 then
              (bif(decide (hint=1))then
               (oB (pisG c N data4 a4 b4 cmp4) fun r6=>
                (bif r6.1 then
                 (some r6.2)
                 else
                 (J3 (r6.2,a4,b4,limit4,cmp4,wasBalanced3,wasPartitioned3,length2,pivot))))
               else
               (J3 (data4,a4,b4,limit4,cmp4,wasBalanced3,wasPartitioned3,length2,pivot)))
              else
              (J3 (data4,a4,b4,limit4,cmp4,wasBalanced3,wasPartitioned3,length2,pivot)))
             else
             (J3 (data4,a4,b4,limit4,cmp4,wasBalanced3,wasPartitioned3,length2,pivot))))) fun J2=>
          (bif(decide (r4.2.1=2))then
           (oB (reverseRangeG N r4.2.2 a3 b3 cmp3) fun r5=>
            (if fits (b3-1)then(if fits (r4.1-a3)then(if fits ((b3-1)-(r4.1-a3))then(J2 (r5,a3,b3,limit3,cmp3,wasBalanced2,wasPartitioned2,length,((b3-1)-(r4.1-a3)),1))else none)else none)else none))
           else
           (J2 (r4.2.2,a3,b3,limit3,cmp3,wasBalanced2,wasPartitioned2,length,r4.1,r4.2.1)))))) fun J=>
       (bif(!wasBalanced)then
        (oB (breakG N data2 a2 b2 cmp2) fun r3=>
         (if fits (limit2-1)then(J (r3,a2,b2,(limit2-1),cmp2,wasBalanced,wasPartitioned,(b2-a2)))else none))
        else
        (J (data2,a2,b2,limit2,cmp2,wasBalanced,wasPartitioned,(b2-a2)))))))else none)) N (data,a,b,limit,cmp,true,true))
end
def cmp669 (N:Nat):(Unit)->Z0->Z0->Option Int:=(fun(cmp:Unit) (e e2:Int×Z10×Z7)=>i_allAlive_1_m N e.1 e.2.1 e.2.2 e2.1 e2.2.1 e2.2.2)
def jIw :Sh:=⟨.mtk 800000 Y4 81 false::pI::pI:: .clo 157 []::dz 4 (pI::dz 44 []),[]⟩
def jJn :Sh:=⟨.mtk 800000 Y4 81 false::pI::pI:: .clo 157 []::dz 4 (pI::pI::dz 43 []),[]⟩
def jJk (c:List Z0) (d:Int) (b:Int) (a:Unit):Z13:=insG (cmp669 N) N c d b a
 
theorem jIC :mK 262 (bX [.mtk 800000 Y4 81 false,pI,pI,.clo 157 []] [.tup [],.mtk 800000 Y4 81 false] (c4A (jJk N))):=
 mO (fC (jHC N) ja) func262 rfl N (.seq .no (.block (.loop jIw (.seq .no (.seq (.block (.seq .no (.block (.loop jJn .no)))) .no))))) _ (rs:=[800000])
def jI7 :Sh:=⟨.mtk 800000 Y4 81 false:: .dead::pI::pI:: .clo 157 []::dz 5 (pI::dz 71 []),[]⟩
def jJE :Sh:=⟨.mtk 800000 Y4 81 false:: .dead::pI::pI:: .clo 157 []::dz 5 (pI::pI::dz 70 []),[]⟩
def jJr (d:List Z0) (c:Int) (e:Int) (b:Int) (a:Unit):Z13:=siftG (cmp669 N) N d c e b a
 
theorem jIA :mK 293 (bX [.mtk 800000 Y4 81 false,pI,pI,pI,.clo 157 []] [.tup [],.mtk 800000 Y4 81 false] (c5A (jJr N))):=
 mO (fC (jHC N) ja) func293 rfl N (.seq .no (.block (.loop jI7 (.block (.seq .no (.seq .no (.meet jJE .no .no))))))) _ (rs:=[800000])
def jH9 :Sh:=⟨.mtk 800000 Y4 81 false:: .dead:: .dead:: .clo 157 []::dz 4 (pI::pI::pI::pI::dz 48 []),[]⟩
def jIK :Sh:=⟨.mtk 800000 Y4 81 false:: .dead:: .dead:: .clo 157 []::dz 4 (pI::pI:: .dead:: .dead::pI::dz 47 []),[]⟩
def jIj (c:List Z0) (d:Int) (b:Int) (a:Unit):Z13:=heapG (cmp669 N) N c d b a
 
theorem jJa :mK 263 (bX [.mtk 800000 Y4 81 false,pI,pI,.clo 157 []] [.tup [],.mtk 800000 Y4 81 false] (c4A (jIj N))):=
 mO (fC (jIA N) ja) func263 rfl N (.seq .no (.seq .no (.seq .no (.seq (.seq .no (.block (.loop jH9 .no))) (.seq .no (.block (.loop jIK .no))))))) _ (rs:=[800000])
def jH6 :Sh:=⟨.mtk 800000 Y4 81 false::pI::dz 6 (pI:: .box 9 0:: .pv (.int .u64)::pI::dz 55 []),[(9,false,[.pv (.int .u64)])]⟩
def jJm :Sh:=⟨.mtk 800000 Y4 81 false::pI::dz 6 (pI:: .box 9 0:: .pv (.int .u64)::pI::pI::dz 54 []),[(9,false,[.pv (.int .u64)])]⟩
def jI4 (c:List Z0) (d:Int) (b:Int) (a:Unit):Z13:=breakG N c d b a
 
theorem jIs :mK 264 (bX [.mtk 800000 Y4 81 false,pI,pI,.clo 157 []] [.tup [],.mtk 800000 Y4 81 false] (c4A (jI4 N))):=
 mO (fC (jhv N) (fC (jet N) ja)) func264 rfl N (.seq .no (.seq .no (.cond (.seq .no (.seq .no (.seq .no (.block (.loop jH6 (.seq .no (.seq (.block (.seq .no (.meet jJm .no .no))) .no))))))) .no))) _ (rs:=[800000])
def jJC (c:List Z0) (e:Int) (b:Int) (a:Unit) (d:Int):Option (Int×Int×(List Z0)×Int):=order2G (cmp669 N) N c e b a d
 
theorem jIo :mK 303 ⟨⟨[.mtk 800000 Y4 81 false,pI,pI,.box 900003 0,.clo 157 []],[(900003,false,[pI])]⟩,⟨[.tup [pI,pI],.mtk 800000 Y4 81 false],[(900003,false,[pI])]⟩,c5A (jJC N)⟩:=
 mO (fC (jHC N) ja) func303 rfl N .no _ (rs:=[900003,800000])
def jII (d:List Z0) (f:Int) (c:Int) (a:Int) (b:Unit) (e:Int):Option (Int×(List Z0)×Int):=medianG (cmp669 N) N d f c a b e
 
theorem jHQ :mK 295 ⟨⟨[.mtk 800000 Y4 81 false,pI,pI,pI,.box 900004 0,.clo 157 []],[(900004,false,[pI])]⟩,⟨[pI,.mtk 800000 Y4 81 false],[(900004,false,[pI])]⟩,c6A (jII N)⟩:=
 mO (fC (jIo N) ja) func295 rfl N .no _ (rs:=[900004,800000])
def jIn (c:List Z0) (d:Int) (a:Unit) (b:Int):Option (Int×(List Z0)×Int):=medianAdjacentG (cmp669 N) N c d a b
 
theorem jI9 :mK 294 ⟨⟨[.mtk 800000 Y4 81 false,pI,.box 900002 0,.clo 157 []],[(900002,false,[pI])]⟩,⟨[pI,.mtk 800000 Y4 81 false],[(900002,false,[pI])]⟩,c4A (jIn N)⟩:=
 mO (fC (jHQ N) ja) func294 rfl N .no _ (rs:=[900002,800000])
def jJw :Sh:=⟨.mtk 800000 Y4 81 false:: .dead:: .dead:: .clo 157 []::dz 7 (.box 11 0::pI::pI::pI::dz 48 []),[(11,false,[pI])]⟩
def jI6 :Sh:=⟨.mtk 800000 Y4 81 false::dz 10 (.box 11 0:: .dead::pI::dz 49 []),[(11,false,[pI])]⟩
def jIq (c:List Z0) (d:Int) (b:Int) (a:Unit):Option (Int×Int×(List Z0)):=choosePivotG (cmp669 N) N c d b a
 
theorem jJz :mK 265 (bX [.mtk 800000 Y4 81 false,pI,pI,.clo 157 []] [.tup [pI,pI],.mtk 800000 Y4 81 false] (c4A (jIq N))):=
 mO (fC (jI9 N) (fC (jHQ N) ja)) func265 rfl N (.seq .no (.seq .no (.seq .no (.seq .no (.seq .no (.seq .no (.meet jI6 (.seq .no (.cond (.meet jJw .no .no) .no)) .no))))))) _ (rs:=[800000])
def jJB :Sh:=⟨.mtk 800000 Y4 81 false::dz 7 (pI::pI::dz 24 []),[]⟩
def jJs (c:List Z0) (d:Int) (b:Int) (a:Unit):Z13:=reverseRangeG N c d b a
 
theorem jIk :mK 266 (bX [.mtk 800000 Y4 81 false,pI,pI,.clo 157 []] [.tup [],.mtk 800000 Y4 81 false] (c4A (jJs N))):=
 mO ja func266 rfl N (.seq .no (.seq .no (.block (.loop jJB .no)))) _ (rs:=[800000])
def jHL :Sh:=⟨.mtk 800000 Y4 81 false::pI::pI:: .clo 157 []::dz 5 (pI::pI::dz 130 []),[]⟩
def jJh :Sh:=⟨.mtk 800000 Y4 81 false::pI::pI:: .clo 157 []::dz 5 (pI::pI::pI::dz 129 []),[]⟩
def jIF :Sh:=⟨.mtk 800000 Y4 81 false::pI::pI:: .clo 157 []::dz 5 (pI::pI:: .dead::pI::dz 128 []),[]⟩
def jIx (c:List Z0) (d:Int) (b:Int) (a:Unit):Option (Bool×(List Z0)):=pisG (cmp669 N) N c d b a
 
theorem jI1 :mK 267 (bX [.mtk 800000 Y4 81 false,pI,pI,.clo 157 []] [pB,.mtk 800000 Y4 81 false] (c4A (jIx N))):=
 mO (fC (jHC N) ja) func267 rfl N (.seq .no (.seq .no (.seq (.seq .no (.block (.loop jHL (.seq .no (.seq (.block (.seq (.block (.loop jHL .no)) (.seq .no (.seq .no (.seq .no (.meet jHL (.seq .no (.cond (.seq .no (.block (.loop jJh .no))) .no)) (.seq .no (.cond (.seq .no (.block (.loop jIF .no))) .no)))))))) .no))))) .no))) _ (rs:=[800000])
def jHK :Sh:=⟨.mtk 800000 Y4 81 false::pI:: .dead:: .dead:: .clo 157 []::dz 6 (pI::pI::dz 77 []),[]⟩
def jIh (d:List Z0) (e:Int) (c:Int) (a:Int) (b:Unit):Option (Int×(List Z0)):=peqG (cmp669 N) N d e c a b
 
theorem jH7 :mK 268 (bX [.mtk 800000 Y4 81 false,pI,pI,pI,.clo 157 []] [pI,.mtk 800000 Y4 81 false] (c5A (jIh N))):=
 mO (fC (jHC N) ja) func268 rfl N (.seq .no (.seq .no (.seq .no (.seq (.block (.loop jHK (.block (.seq (.block (.loop jHK .no)) (.seq (.block (.loop jHK .no)) .no))))) .no)))) _ (rs:=[800000])
def jHD :Sh:=⟨.mtk 800000 Y4 81 false::pI:: .dead:: .dead:: .clo 157 []::dz 7 (pI::pI::dz 164 []),[]⟩
def jIZ (d:List Z0) (e:Int) (c:Int) (a:Int) (b:Unit):Option (Int×Bool×(List Z0)):=partG (cmp669 N) N d e c a b
 
theorem jJc :mK 269 (bX [.mtk 800000 Y4 81 false,pI,pI,pI,.clo 157 []] [.tup [pI,pB],.mtk 800000 Y4 81 false] (c5A (jIZ N))):=
 mO (fC (jHC N) ja) func269 rfl N (.seq .no (.seq .no (.seq .no (.seq (.block (.loop jHD .no)) (.seq (.block (.loop jHD .no)) (.seq .no (.seq .no (.seq .no (.seq .no (.seq (.block (.loop jHD (.block (.seq (.block (.loop jHD .no)) (.seq (.block (.loop jHD .no)) .no))))) .no)))))))))) _ (rs:=[800000])
def jIv :Sh:=⟨.mtk 800000 Y4 81 false::pI::pI::pI:: .clo 157 []::dz 5 (pB::pB::dz 136 []),[]⟩
def jIt :Sh:=⟨.mtk 800000 Y4 81 false::pI::pI::pI:: .clo 157 []::dz 5 (pB::pB::pI::pI::dz 134 []),[]⟩
def jIU :Sh:=⟨.mtk 800000 Y4 81 false::pI::pI::pI:: .clo 157 []::dz 5 (pB::pB::pI::pI::pI::dz 133 []),[]⟩
def jID :Sh:=⟨.mtk 800000 Y4 81 false::pI::pI::pI:: .clo 157 []::dz 5 (pB::pB::pI::dz 135 []),[]⟩
def jHN (N D:Nat) (f:List Z0) (b a limit:Int) (e:Unit):Z13:=pdqG (cmp669 N) (fun c b a d=>heapG (cmp669 N) N c b a d) (fun c b a h d=>peqG (cmp669 N) N c b a h d) N D f b a limit e
 
def jHF (N D:Nat):Model:=⟨⟨[.mtk 800000 Y4 81 false,pI,pI,pI,.clo 157 []],[]⟩,⟨[.tup [],.mtk 800000 Y4 81 false],[]⟩,c5A (jHN N D)⟩
theorem jJo (N D:Nat) (ih:mK 216 (jHF N D)):mK 216 (jHF N (D+1)):=
 mO (fC ih (fC (jIC N) (fC (jJa N) (fC (jIs N) (fC (jJz N) (fC (jIk N) (fC (jI1 N) (fC (jHC N) (fC (jH7 N) (fC (jJc N) ja)))))))))) func216 rfl N (.seq .no (.seq .no (.block (.loop jIv (.block (.seq .no (.seq .no (.seq .no (.meet jID .no (.seq .no (.meet jIU .no (.meet jIt .no .no)))))))))))) (jHF N (D+1)) (rs:=[800000])
theorem jHV (N:Nat):∀D,mK 216 (jHF N D)
 |0=>modelOk_none ⟨_,func216,by decide,by kernel_rfl⟩ _ (fun a=>rfl)
 |D+1=>jJo N D (jHV N D)
def k_slices_SortFunc_669_m (a:List Z0) (d:Unit):Z13:=
 (oB (k_math_bits_Len_m N (IntKind.u64.wrap (a.length:Int))) fun b=>oB (jHN N N a 0 (a.length:Int) b ()) fun c=>some c)
theorem jIu :mK 156 (bX [.mtk 800000 Y4 81 false,.clo 157 []] [.tup [],.mtk 800000 Y4 81 false] (c2A (k_slices_SortFunc_669_m N))):=
 mO (fC (jda N) (fC (jHV N N) ja)) func156 rfl N .no _ (rs:=[800000])
def jH5 :Sh:=⟨dz 3 (.mtk 600003 Y4 81 false::dz 3 (.pv Y0::pI::pI::dz 11 [])),[]⟩
def i_allAlive_m (e:List Z3):Z13:=
 (iter (fun i (c,f,d,a)=>bif decide (a<d)then oB (idx f a) fun b=>(oB (i_Live_alive_m N b.1.1 b.1.2 b.2) fun h=>if room c.length h.length 56 then if fits (a+1)then i ((c++h),f,d,(a+1))else none else none)else oB (k_slices_SortFunc_669_m N c ()) fun k=>some k) N (([]:List Z0),e,(e.length:Int),(0:Int)))
theorem jHR :mK 80 (bX [.pv Y0] [.own 1 Y4 81 false] (c1A (i_allAlive_m N))):=
 mO (fC (jH4 N) (fC (jIu N) ja)) func80 rfl N (.seq .no (.seq .no (.seq (.seq .no (.block (.loop jH5 .no))) .no))) _ (wr:=[6,16])
def jIf :Sh:=⟨.dead:: .box 1 0::dz 14 (.pv Y0::pI::pI::dz 13 []),[(1,false,[.pv (.sl .str),.pv Y14,.pv Y0])]⟩
noncomputable def i_IndexOk_m (h:List Z2) (d:List Z4) (b:List Z3):Z9:=
 (oB (jaj N h d) fun o=>bif !o then some false else bif decide ((5:Int)<b.length)then some false else iter (fun l (f,e,a,i,k,j)=>bif decide (a<e)then oB (idx f a) fun c=>(oB (i_liveOk_m N i k c.1.1 c.1.2 c.2) fun p=>bif !p then some false else if fits (a+1)then l (f,e,(a+1),i,k,j)else none)else oB (i_allAlive_m N j) fun m=>oB (jbf N m) fun q=>some q) N (b,(b.length:Int),(0:Int),h,d,b))
theorem jIr :mK 28 (bX [.agg [.pv (.sl .str),.pv Y14,.pv Y0]] [pB] (c3A (i_IndexOk_m N))):=
 mO (fC (jdX N) (fC (jJD N) (fC (jHR N) (fC (jjU N) ja)))) func28 rfl N (.seq .no (.seq .no (.seq (.seq .no (.block (.loop jIf .no))) .no))) _
def k_strconv_Itoa_m (N:Nat) (a:Int):Option (Z2):=itoaM a
 
def jOU (N:Nat):Model:=⟨⟨[pI],[]⟩,⟨[pS],[]⟩,c1A (k_strconv_Itoa_m N)⟩
theorem jO0 :mK 40 (jOU N):=jPp
def jXY :Sh:=⟨.dead:: .box 1 0:: .dead::pS::dz 13 (.pv Y17::pI::pI::dz 34 []),[(1,false,[pI,.pv Y17,.pv Y13])]⟩
def jX3 :Sh:=⟨dz 3 (pS::dz 31 (.pv Y13::pI::pI::dz 16 [])),[]⟩
def i_DocPut_m (h:Int) (f:Z11) (n:Z6):Option (Z2):=
 (oB (i_DocOk_m N h f n) fun w=>bif !w then some ([]:List UInt8)else oB (k_strconv_Itoa_m N h) fun l=>if([100,111,99,32]:List UInt8).length+l.length<=9223372036854775807 then if(([100,111,99,32]:List UInt8)++l).length+([10]:List UInt8).length<=9223372036854775807 then iter (fun v (m,p,o,c,u,x,k)=>bif decide (c<o)then oB (idx p c) fun a=>(if([102,105,101,108,100,32]:List UInt8).length+a.1.length<=9223372036854775807 then if(([102,105,101,108,100,32]:List UInt8)++a.1).length+([32]:List UInt8).length<=9223372036854775807 then if((([102,105,101,108,100,32]:List UInt8)++a.1)++([32]:List UInt8)).length+a.2.length<=9223372036854775807 then if(((([102,105,101,108,100,32]:List UInt8)++a.1)++([32]:List UInt8))++a.2).length+([10]:List UInt8).length<=9223372036854775807 then if m.length+((((([102,105,101,108,100,32]:List UInt8)++a.1)++([32]:List UInt8))++a.2)++([10]:List UInt8)).length<=9223372036854775807 then if fits (c+1)then v ((m++((((([102,105,101,108,100,32]:List UInt8)++a.1)++([32]:List UInt8))++a.2)++([10]:List UInt8))),p,o,(c+1),u,x,k)else none else none else none else none else none else none)else iter (fun t (i,r,q,d)=>bif decide (d<q)then oB (idx r d) fun b=>(if([110,117,109,32]:List UInt8).length+b.1.length<=9223372036854775807 then if(([110,117,109,32]:List UInt8)++b.1).length+([32]:List UInt8).length<=9223372036854775807 then oB (k_strconv_Itoa_m N b.2) fun e=>(if((([110,117,109,32]:List UInt8)++b.1)++([32]:List UInt8)).length+e.length<=9223372036854775807 then if(((([110,117,109,32]:List UInt8)++b.1)++([32]:List UInt8))++e).length+([10]:List UInt8).length<=9223372036854775807 then if i.length+((((([110,117,109,32]:List UInt8)++b.1)++([32]:List UInt8))++e)++([10]:List UInt8)).length<=9223372036854775807 then if fits (d+1)then t ((i++((((([110,117,109,32]:List UInt8)++b.1)++([32]:List UInt8))++e)++([10]:List UInt8))),r,q,(d+1))else none else none else none else none)else none else none)else some i) N (m,k,(k.length:Int),(0:Int))) N (((([100,111,99,32]:List UInt8)++l)++([10]:List UInt8)),f,(f.length:Int),(0:Int),h,f,n)else none else none)
theorem jYs :mK 39 (bX [.agg [pI,.pv Y17,.pv Y13]] [pS] (c3A (i_DocPut_m N))):=
 mO (fC (jh0 N) (fC (jO0 N) ja)) func39 rfl N (.seq .no (.seq .no (.seq .no (.seq (.seq .no (.block (.loop jXY .no))) (.seq (.seq .no (.block (.loop jX3 .no))) .no))))) _
def jYE :Sh:=⟨dz 3 (.box 3 0:: .dead::pS::dz 12 (.pv Y3::pI::pI::dz 23 [])),[(3,false,[.pv Y3,.pv Y5,.pv Y19])]⟩
def jX8 :Sh:=⟨dz 5 (pS::dz 24 (.pv Y19::pI::pI::dz 11 [])),[]⟩
noncomputable def i_LivePut_m (r:List Z2) (z:List Z4) (b:List Z0) (l:List Z1) (n:List Int):Option (Z2):=
 (oB (i_IndexOk_m N r z ([((b,l),n)]:List Z3)) fun x=>bif !x then some ([]:List UInt8)else iter (fun v (j,o,m,d,u,w,i)=>bif decide (d<m)then oB (idx o d) fun f=>(oB (i_DocPut_m N f.1 f.2.1 f.2.2) fun q=>if j.length+q.length<=9223372036854775807 then if fits (d+1)then v ((j++q),o,m,(d+1),u,w,i)else none else none)else iter (fun t (e,k,p,a)=>bif decide (a<p)then oB (idx k a) fun y=>(oB (k_strconv_Itoa_m N y) fun c=>if([100,101,97,100,32]:List UInt8).length+c.length<=9223372036854775807 then if(([100,101,97,100,32]:List UInt8)++c).length+([10]:List UInt8).length<=9223372036854775807 then if e.length+((([100,101,97,100,32]:List UInt8)++c)++([10]:List UInt8)).length<=9223372036854775807 then if fits (a+1)then t ((e++((([100,101,97,100,32]:List UInt8)++c)++([10]:List UInt8))),k,p,(a+1))else none else none else none else none)else some e) N (j,i,(i.length:Int),(0:Int))) N (([]:List UInt8),b,(b.length:Int),(0:Int),b,l,n))
theorem jXI :mK 9 (bX [.agg [.pv (.sl .str),.pv Y14],.agg [.pv Y3,.pv Y5,.pv Y19]] [pS] (c5A (i_LivePut_m N))):=
 mO (fC (jIr N) (fC (jYs N) (fC (jO0 N) ja))) func9 rfl N (.seq .no (.seq .no (.seq .no (.seq (.seq .no (.block (.loop jYE .no))) (.seq (.seq .no (.block (.loop jX8 .no))) .no))))) _
def s_l1Dec_m (N:Nat):(D:Nat)->Int->Option (Z2)
 |0,_=>none
 |D+1,n=>
 bif decide (n<(-9223372036854775807))then
 some ([45,57,50,50,51,51,55,50,48,51,54,56,53,52,55,55,53,56,48,56]:List UInt8)
 else
 bif decide (n<0)then
 if fits (0-n)then oB (s_l1Dec_m N D (0-n)) fun r=>
 (if([45]:List UInt8).length+r.length<=9223372036854775807 then
 some (([45]:List UInt8)++r)
 else none)else none
 else
 bif decide (n<10)then
 if fits (48+n)then some (bytesOf ([(IntKind.u8.wrap (48+n))]:List Int))else none
 else
 if 10≠0 then
 if fits (n.tdiv 10)then oB (s_l1Dec_m N D (n.tdiv 10)) fun r2=>
 (if 10≠0 then
 if fits (48+(n.tmod 10))then if r2.length+(bytesOf ([(IntKind.u8.wrap (48+(n.tmod 10)))]:List Int)).length<=9223372036854775807 then
 some (r2++(bytesOf ([(IntKind.u8.wrap (48+(n.tmod 10)))]:List Int)))
 else none else none
 else none)else none
 else none
def jOp (N D:Nat):Model:=⟨⟨[pI],[]⟩,⟨[pS],[]⟩,c1A (s_l1Dec_m N D)⟩
theorem jPg (N D:Nat) (ih:mK 99 (jOp N D)):mK 99 (jOp N (D+1)):=
 mO (fC ih ja) func99 rfl N .no (jOp N (D+1))
theorem jOx (N:Nat):∀D,mK 99 (jOp N D)
 |0=>modelOk_none ⟨_,func99,by decide,by kernel_rfl⟩ _ (fun a=>rfl)
 |D+1=>jPg N D (jOx N D)
def jXV :Sh:=⟨.dead:: .box 1 0:: .dead::pS::pI::dz 58 [],[(1,false,[pI,.pv Y17,.pv Y13])]⟩
def jYl :Sh:=⟨.dead:: .box 1 0:: .dead::pS:: .dead::pI::dz 57 [],[(1,false,[pI,.pv Y17,.pv Y13])]⟩
def s_l6Put_m (n:Int) (w:Z11) (q:Z6):Option (Z2):=
 (oB (s_l1Dec_m N N n) fun l=>if([100,111,99,32]:List UInt8).length+l.length<=9223372036854775807 then if(([100,111,99,32]:List UInt8)++l).length+([10]:List UInt8).length<=9223372036854775807 then iter (fun v (b,c,p,h,o)=>bif decide (c<(h.length:Int))then if b.length+([102,105,101,108,100,32]:List UInt8).length<=9223372036854775807 then oB (idx h c) fun d=>(if(b++([102,105,101,108,100,32]:List UInt8)).length+d.1.length<=9223372036854775807 then if((b++([102,105,101,108,100,32]:List UInt8))++d.1).length+([32]:List UInt8).length<=9223372036854775807 then oB (idx h c) fun k=>(if(((b++([102,105,101,108,100,32]:List UInt8))++d.1)++([32]:List UInt8)).length+k.2.length<=9223372036854775807 then if((((b++([102,105,101,108,100,32]:List UInt8))++d.1)++([32]:List UInt8))++k.2).length+([10]:List UInt8).length<=9223372036854775807 then if fits (c+1)then v ((((((b++([102,105,101,108,100,32]:List UInt8))++d.1)++([32]:List UInt8))++k.2)++([10]:List UInt8)),(c+1),p,h,o)else none else none else none)else none else none)else none else iter (fun t (a,f,x,u,i)=>bif decide (f<(i.length:Int))then if a.length+([110,117,109,32]:List UInt8).length<=9223372036854775807 then oB (idx i f) fun e=>(if(a++([110,117,109,32]:List UInt8)).length+e.1.length<=9223372036854775807 then if((a++([110,117,109,32]:List UInt8))++e.1).length+([32]:List UInt8).length<=9223372036854775807 then oB (idx i f) fun r=>(oB (s_l1Dec_m N N r.2) fun m=>if(((a++([110,117,109,32]:List UInt8))++e.1)++([32]:List UInt8)).length+m.length<=9223372036854775807 then if((((a++([110,117,109,32]:List UInt8))++e.1)++([32]:List UInt8))++m).length+([10]:List UInt8).length<=9223372036854775807 then if fits (f+1)then t ((((((a++([110,117,109,32]:List UInt8))++e.1)++([32]:List UInt8))++m)++([10]:List UInt8)),(f+1),x,u,i)else none else none else none)else none else none)else none else some a) N (b,(0:Int),p,h,o)) N (((([100,111,99,32]:List UInt8)++l)++([10]:List UInt8)),(0:Int),n,w,q)else none else none)
theorem jYI :mK 98 (bX [.agg [pI,.pv Y17,.pv Y13]] [pS] (c3A (s_l6Put_m N))):=
 mO (fC (jOx N N) ja) func98 rfl N (.seq .no (.seq .no (.seq (.seq .no (.block (.loop jXV .no))) (.seq (.seq .no (.block (.loop jYl .no))) .no)))) _
def jX7 :Sh:=⟨.dead:: .box 1 0:: .dead::pS::pI::dz 36 [],[(1,false,[.pv Y3,.pv Y5,.pv Y19])]⟩
def jYu :Sh:=⟨.dead:: .box 1 0:: .dead::pS:: .dead::pI::dz 35 [],[(1,false,[.pv Y3,.pv Y5,.pv Y19])]⟩
def s_l19Seg_m (t:List Z0) (n:List Z1) (p:List Int):Option (Z2):=
 (iter (fun u (j,b,c,l,k)=>bif decide (b<(c.length:Int))then oB (idx c b) fun e=>(oB (s_l6Put_m N e.1 e.2.1 e.2.2) fun m=>if j.length+m.length<=9223372036854775807 then if fits (b+1)then u ((j++m),(b+1),c,l,k)else none else none)else iter (fun r (a,d,q,o,h)=>bif decide (d<(h.length:Int))then if a.length+([100,101,97,100,32]:List UInt8).length<=9223372036854775807 then oB (idx h d) fun v=>(oB (s_l1Dec_m N N v) fun i=>if(a++([100,101,97,100,32]:List UInt8)).length+i.length<=9223372036854775807 then if((a++([100,101,97,100,32]:List UInt8))++i).length+([10]:List UInt8).length<=9223372036854775807 then if fits (d+1)then r ((((a++([100,101,97,100,32]:List UInt8))++i)++([10]:List UInt8)),(d+1),q,o,h)else none else none else none)else none else some a) N (j,(0:Int),c,l,k)) N (([]:List UInt8),(0:Int),t,n,p))
theorem jX1 :mK 42 (bX [.agg [.pv Y3,.pv Y5,.pv Y19]] [pS] (c3A (s_l19Seg_m N))):=
 mO (fC (jYI N) (fC (jOx N N) ja)) func42 rfl N (.seq .no (.seq .no (.seq (.seq .no (.block (.loop jX7 .no))) (.seq (.seq .no (.block (.loop jYu .no))) .no)))) _
def s_LivePut_m (d:List Z2) (h:List Z4) (a:List Z0) (b:List Z1) (c:List Int):Option (Z2):=
 (oB (s_l18Ok_m N d h ([((a,b),c)]:List Z3)) fun e=>bif !e then some ([]:List UInt8)else oB (s_l19Seg_m N a b c) fun f=>some f)
theorem jYx :mK 10 (bX [.agg [.pv (.sl .str),.pv Y14],.agg [.pv Y3,.pv Y5,.pv Y19]] [pS] (c5A (s_LivePut_m N))):=
 mO (fC (jIW N) (fC (jX1 N) ja)) func10 rfl N .no _
def jXx (N:Nat) (a:List UInt8) (b:List UInt8):Option ((List Z2)):=jXq a b
 
def jYt (N:Nat):Model:=⟨⟨[pS,pS],[]⟩,⟨[.pv (.sl .str)],[]⟩,c2A (jXx N)⟩
theorem jYi :mK 44 (jYt N):=jYA
def k_internal_stringslite_HasPrefix_m (N:Nat) (b:List UInt8) (a:List UInt8):Z9:=
 (bif decide ((a.length:Int)<=(b.length:Int))then oB (cut b 0 (a.length:Int)) fun c=>(some (decide (c=a)))else some false)
theorem jXE :mK 108 (bX [pS,pS] [pB] (c2A (k_internal_stringslite_HasPrefix_m N))):=
 mO ja func108 rfl N .no _
def k_internal_stringslite_CutPrefix_m (a:List UInt8) (b:List UInt8):Option (Z2×Bool):=
 (oB (k_internal_stringslite_HasPrefix_m N a b) fun d=>bif !d then some (a,false)else oB (cut a (b.length:Int) (a.length:Int)) fun c=>some (c,true))
theorem jYb :mK 105 (bX [pS,pS] [.tup [pS,pB]] (c2A (k_internal_stringslite_CutPrefix_m N))):=
 mO (fC (jXE N) ja) func105 rfl N .no _
def k_strings_CutPrefix_m (c:List UInt8) (b:List UInt8):Option (Z2×Bool):=
 (oB (k_internal_stringslite_CutPrefix_m N c b) fun a=>some (a.1,a.2))
theorem jYg :mK 45 (bX [pS,pS] [.tup [pS,pB]] (c2A (k_strings_CutPrefix_m N))):=
 mO (fC (jYb N) ja) func45 rfl N .no _
def jXn (N:Nat) (a:List UInt8):Option Int:=atoiM a
 
def jYe (N:Nat):Model:=⟨⟨[pS],[]⟩,⟨[.tup [pI,.dead]],[]⟩,c1A (jXn N)⟩
theorem jXC :mK 46 (jYe N):=jYw
def k_strings_HasPrefix_m (c:List UInt8) (a:List UInt8):Z9:=
 (oB (k_internal_stringslite_HasPrefix_m N c a) fun b=>some b)
theorem jXS :mK 47 (bX [pS,pS] [pB] (c2A (k_strings_HasPrefix_m N))):=
 mO (fC (jXE N) ja) func47 rfl N .no _
def jXr (N:Nat) (a:List UInt8) (b:List UInt8):Option (Z2×Z2×Bool):=cutM a b
 
def jYv (N:Nat):Model:=⟨⟨[pS,pS],[]⟩,⟨[.tup [pS,pS,pB]],[]⟩,c2A (jXr N)⟩
theorem jX0 :mK 109 (jYv N):=jXX
def jYp :Sh:=⟨.dead:: .dead:: .box 2 0:: .box 3 0::dz 13 (.pv (.sl .str)::pI::pI::dz 51 []),[(2,false,[pI,.nils,.nils]),(3,false,[pI,.own 700301 Y18 134 true,.own 700302 Y15 136 true])]⟩
def jXo (l:List Z2):Option Z0:=
 (iter (fun k (e,f,a,i,j,d,c)=>bif decide (a<f)then oB (idx e a) fun n=>(oB (jXr N n ([32]:List UInt8)) fun h=>oB (jXr N h.2.1 ([32]:List UInt8)) fun b=>bif decide (h.1=([100,111,99]:List UInt8))then oB (jXn N h.2.1) fun o=>(if fits (a+1)then k (e,f,(a+1),i,o,d,c)else none)else bif decide (h.1=([102,105,101,108,100]:List UInt8))then if room d.length ([(b.1,b.2.1)]:Z11).length 32 then if fits (a+1)then k (e,f,(a+1),i,j,(d++([(b.1,b.2.1)]:Z11)),c)else none else none else bif decide (h.1=([110,117,109]:List UInt8))then oB (jXn N b.2.1) fun m=>(if room c.length ([(b.1,m)]:Z6).length 24 then if fits (a+1)then k (e,f,(a+1),i,j,d,(c++([(b.1,m)]:Z6)))else none else none)else if fits (a+1)then k (e,f,(a+1),i,j,d,c)else none)else some (j,d,c)) N (l,(l.length:Int),(0:Int),(0:Int),(0:Int),([]:Z11),([]:Z6)))
theorem jYG :mK 48 (bX [.pv (.sl .str)] [.agg [pI,.own 1 Y18 134 true,.own 2 Y15 136 true]] (c1A (jXo N))):=
 mO (fC (jX0 N) (fC (jXC N) ja)) func48 rfl N (.seq .no (.seq .no (.seq (.seq .no (.block (.loop jYp .no))) .no))) _
def jX4 :Sh:=⟨.dead::pS:: .box 2 0:: .dead:: .box 4 0:: .dead:: .own 600006 Y4 81 true:: .own 600007 tI 3 true:: .pv (.sl .str)::pI::dz 92 [],[(2,false,[.pv (.sl .str),.pv Y14]),(4,false,[.nils,.nils,.nils])]⟩
def jYB :Sh:=⟨.dead::pS:: .box 2 0:: .dead:: .box 4 0:: .dead:: .own 600006 Y4 81 true:: .own 600007 tI 3 true:: .pv (.sl .str)::pI::dz 4 (pI::dz 87 []),[(2,false,[.pv (.sl .str),.pv Y14]),(4,false,[.nils,.nils,.nils])]⟩
noncomputable def i_LiveGet_m (x:List Z2) (B:List Z4) (z:List UInt8):Option ((List Z0)×(List Z1)×(List Int)×Bool):=
 (oB (jaj N x B) fun T=>bif !T then some (([]:List Z0),([]:List Z1),([]:List Int),false)else oB (jXx N z ([10]:List UInt8)) fun U=>iter (fun k (m,t,l,o,h,q,n)=>bif decide (h<(o.length:Int))then oB (idx o h) fun K=>(oB (k_strings_CutPrefix_m N K ([100,101,97,100,32]:List UInt8)) fun u=>bif u.2 then oB (jXn N u.1) fun w=>(if room l.length ([w]:List Int).length 8 then if fits (h+1)then k (m,t,(l++([w]:List Int)),o,(h+1),q,n)else none else none)else if fits (h+1)then iter (fun O (i,c,d,a,f,b,j,e)=>bif decide (b<(a.length:Int))then oB (idx a b) fun G=>(oB (k_strings_HasPrefix_m N G ([100,111,99,32]:List UInt8)) fun S=>bif !S then oB (idx a b) fun P=>(oB (k_strings_HasPrefix_m N P ([100,101,97,100,32]:List UInt8)) fun H=>bif !H then if fits (b+1)then O (i,c,d,a,f,(b+1),j,e)else none else oB (idx a f) fun C=>bif !decide (C=([]:List UInt8))then oB (cut a f b) fun L=>(oB (jXo N L) fun y=>if room c.length ([y]:List Z0).length 56 then k (i,(c++([y]:List Z0)),d,a,b,j,e)else none)else k (i,c,d,a,b,j,e))else oB (idx a f) fun Q=>bif !decide (Q=([]:List UInt8))then oB (cut a f b) fun E=>(oB (jXo N E) fun v=>if room c.length ([v]:List Z0).length 56 then k (i,(c++([v]:List Z0)),d,a,b,j,e)else none)else k (i,c,d,a,b,j,e))else oB (idx a f) fun I=>bif !decide (I=([]:List UInt8))then oB (cut a f b) fun R=>(oB (jXo N R) fun A=>if room c.length ([A]:List Z0).length 56 then k (i,(c++([A]:List Z0)),d,a,b,j,e)else none)else k (i,c,d,a,b,j,e)) N (m,t,l,o,h,(h+1),q,n)else none)else oB (jbT N q n t) fun p=>bif decide (m=([]:List UInt8))then some (([]:List Z0),([]:List Z1),([]:List Int),false)else oB (i_LivePut_m N q n p.1 p.2 l) fun D=>bif !decide (D=m)then some (([]:List Z0),([]:List Z1),([]:List Int),false)else some (p.1,p.2,l,true)) N (z,([]:List Z0),([]:List Int),U,(0:Int),x,B))
theorem jYm :mK 11 (bX [.agg [.pv (.sl .str),.pv Y14],pS] [.tup [.agg [.own 1 Y4 81 true,.own 2 Y6 132 true,.own 3 tI 3 true],pB]] (c3A (i_LiveGet_m N))):=
 mO (fC (jdX N) (fC (jYi N) (fC (jYg N) (fC (jXC N) (fC (jXS N) (fC (jYG N) (fC (jqC N) (fC (jXI N) ja)))))))) func11 rfl N (.seq .no (.seq .no (.seq .no (.seq .no (.seq .no (.seq (.seq .no (.block (.loop jX4 (.seq .no (.block (.seq .no (.seq .no (.seq (.block (.loop jYB .no)) .no)))))))) .no)))))) _
def jRj :Sh:=⟨.dead:: .dead:: .box 2 0:: .box 3 0:: .dead::pI::dz 60 [],[(2,false,[pI,.pv Y17,.pv Y13]),(3,false,[pI,.pv Y17,.pv Y13])]⟩
def jRu :Sh:=⟨.dead:: .dead:: .box 2 0:: .box 3 0:: .dead:: .dead::pI::dz 59 [],[(2,false,[pI,.pv Y17,.pv Y13]),(3,false,[pI,.pv Y17,.pv Y13])]⟩
def l_foDoc_m (w:Int) (j:Z11) (i:Z6) (h:Int) (o:Z11) (u:Z6):Z9:=
 (bif !decide (w=h)then some false else bif !decide ((j.length:Int)=(o.length:Int))then some false else bif !decide ((i.length:Int)=(u.length:Int))then some false else iter (fun B (a,v,c,m,q,e,p)=>bif decide (a<(c.length:Int))then oB (idx c a) fun l=>(oB (idx e a) fun r=>bif !((decide (l.1=r.1))&&(decide (l.2=r.2)))then some false else if fits (a+1)then B ((a+1),v,c,m,q,e,p)else none)else iter (fun y (b,A,C,f,z,x,t)=>bif decide (b<(f.length:Int))then oB (idx f b) fun n=>(oB (idx t b) fun k=>bif !((decide (n.1=k.1))&&(decide (n.2=k.2)))then some false else if fits (b+1)then y ((b+1),A,C,f,z,x,t)else none)else some true) N ((0:Int),v,c,m,q,e,p)) N ((0:Int),w,j,i,h,o,u))
theorem jRr :mK 190 (bX [.agg [pI,.pv Y17,.pv Y13],.agg [pI,.pv Y17,.pv Y13]] [pB] (c6A (l_foDoc_m N))):=
 mO ja func190 rfl N (.seq .no (.seq .no (.seq (.seq .no (.block (.loop jRj .no))) (.seq (.seq .no (.block (.loop jRu .no))) .no)))) _
def jRs :Sh:=⟨.pv Y3:: .pv Y3::dz 3 (pI::dz 21 []),[]⟩
def l_foDocs_m (h:List Z0) (e:List Z0):Z9:=
 (bif !decide ((h.length:Int)=(e.length:Int))then some false else iter (fun i (b,f,a)=>bif decide (a<(b.length:Int))then oB (idx b a) fun c=>(oB (idx f a) fun d=>oB (l_foDoc_m N c.1 c.2.1 c.2.2 d.1 d.2.1 d.2.2) fun k=>bif !k then some false else if fits (a+1)then i (b,f,(a+1))else none)else some true) N (h,e,(0:Int)))
theorem jQV :mK 117 (bX [.pv Y3,.pv Y3] [pB] (c2A (l_foDocs_m N))):=
 mO (fC (jRr N) ja) func117 rfl N (.seq .no (.seq .no (.seq (.seq .no (.block (.loop jRs .no))) .no))) _
def l_foInts_m (e:List Int) (c:List Int):Z9:=
 (bif !decide ((e.length:Int)=(c.length:Int))then some false else iter (fun f (b,d,a)=>bif decide (a<(b.length:Int))then oB (idx b a) fun h=>(oB (idx d a) fun j=>bif !decide (h=j)then some false else if fits (a+1)then f (b,d,(a+1))else none)else some true) N (e,c,(0:Int)))
theorem jQS :mK 51 (bX [.pv Y19,.pv Y19] [pB] (c2A (l_foInts_m N))):=
 mO ja func51 rfl N (.seq .no (.seq .no (.seq (.seq .no (.block (.loop jnI .no))) .no))) _
def jQ6 :Sh:=⟨.pv Y11:: .pv Y11::dz 3 (pI::dz 36 []),[]⟩
def l_foPosts_m (e:Z5) (d:Z5):Z9:=
 (bif !decide ((e.length:Int)=(d.length:Int))then some false else iter (fun i (b,c,a)=>bif decide (a<(b.length:Int))then oB (idx b a) fun j=>(oB (idx c a) fun l=>bif !decide (j.1=l.1)then some false else oB (idx b a) fun f=>oB (idx c a) fun h=>oB (l_foInts_m N f.2 h.2) fun m=>bif !m then some false else if fits (a+1)then i (b,c,(a+1))else none)else some true) N (e,d,(0:Int)))
theorem jRl :mK 118 (bX [.pv Y11,.pv Y11] [pB] (c2A (l_foPosts_m N))):=
 mO (fC (jQS N) ja) func118 rfl N (.seq .no (.seq .no (.seq (.seq .no (.block (.loop jQ6 .no))) .no))) _
def jQ7 :Sh:=⟨.dead:: .dead:: .box 2 0:: .box 3 0:: .dead::pI::dz 66 [],[(2,false,[.pv Y3,.pv Y5]),(3,false,[.pv Y3,.pv Y5])]⟩
def l_foSeg_m (h:List Z0) (e:List Z1) (d:List Z0) (f:List Z1):Z9:=
 (oB (l_foDocs_m N h d) fun r=>bif !r then some false else bif !decide ((e.length:Int)=(f.length:Int))then some false else iter (fun p (a,i,b,u,c)=>bif decide (a<(b.length:Int))then oB (idx b a) fun l=>(oB (idx c a) fun q=>bif !decide (l.1=q.1)then some false else oB (idx b a) fun n=>oB (idx c a) fun k=>bif !decide (n.2.1=k.2.1)then some false else oB (idx b a) fun o=>oB (idx c a) fun j=>oB (l_foPosts_m N o.2.2 j.2.2) fun t=>bif !t then some false else if fits (a+1)then p ((a+1),i,b,u,c)else none)else some true) N ((0:Int),h,e,d,f))
theorem jRc :mK 50 (bX [.agg [.pv Y3,.pv Y5],.agg [.pv Y3,.pv Y5]] [pB] (c4A (l_foSeg_m N))):=
 mO (fC (jQV N) (fC (jRl N) ja)) func50 rfl N (.seq .no (.seq .no (.seq (.seq .no (.block (.loop jQ7 .no))) .no))) _
def l_foLive_m (i:List Z0) (c:List Z1) (b:List Int) (a:List Z0) (d:List Z1) (h:List Int):Z9:=
 (oB (l_foSeg_m N i c a d) fun e=>bif e then oB (l_foInts_m N b h) fun f=>(some f)else some false)
theorem jQ4 :mK 12 (bX [.agg [.pv Y3,.pv Y5,.pv Y19],.agg [.pv Y3,.pv Y5,.pv Y19]] [pB] (c6A (l_foLive_m N))):=
 mO (fC (jRc N) (fC (jQS N) ja)) func12 rfl N .no _
noncomputable def l_FnLivePut_m (d:List Int):Z9:=
 (bif decide ((1048576:Int)<d.length)then some true else oB (s_DrawLivePut_m N d) fun a=>oB (i_LivePut_m N a.1 a.2.1 a.2.2.1 a.2.2.2.1 a.2.2.2.2) fun b=>oB (s_LivePut_m N a.1 a.2.1 a.2.2.1 a.2.2.2.1 a.2.2.2.2) fun f=>bif !decide (b=f)then oB (s_LivePut_m N a.1 a.2.1 a.2.2.1 a.2.2.2.1 a.2.2.2.2) fun i=>(some (decide (b=i)))else bif decide (b=([]:List UInt8))then oB (s_LivePut_m N a.1 a.2.1 a.2.2.1 a.2.2.2.1 a.2.2.2.2) fun e=>(some (decide (b=e)))else oB (i_LiveGet_m N a.1 a.2.1 b) fun c=>bif c.2.2.2 then oB (l_foLive_m N c.1 c.2.1 c.2.2.1 a.2.2.1 a.2.2.2.1 a.2.2.2.2) fun h=>(some h)else some false)
noncomputable def jXG (N:Nat):Model:=⟨⟨[.pv (.sl (.int .u8))],[]⟩,⟨[pB],[]⟩,c1A (l_FnLivePut_m N)⟩
theorem jYC :mK 3 (jXG N):=
 mO (fC (jXU N) (fC (jXI N) (fC (jYx N) (fC (jYm N) (fC (jQ4 N) ja))))) func3 rfl N .no (jXG N)
end Go.Proofs.YtcdcmcgdgnibmaaGreatDoor
