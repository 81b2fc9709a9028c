
import Derived.Test.YtnkagklajgimlaaGreatDoorG1A
set_option linter.unusedVariables false
set_option linter.unusedSimpArgs false
namespace Go.Proofs.YtnkagklajgimlaaGreatDoor
open Go.RowKit Go.Proofs.Tryz
variable (N : Nat)
open Option renaming bind -> oB
def GV :ay:=⟨.aw 800000 cT 119 false::ab::ab:: .aU 62 []::al 5 (ab::ab::al 130 []),[]⟩
def aim :ay:=⟨.aw 800000 cT 119 false::ab::ab:: .aU 62 []::al 5 (ab::ab::ab::al 129 []),[]⟩
def agu :ay:=⟨.aw 800000 cT 119 false::ab::ab:: .aU 62 []::al 5 (ab::ab:: .dead::ab::al 128 []),[]⟩
def afb (a:List bJ) (d:Int) (b:Int) (c:Unit):Option (Bool×(List bJ)):=sj (jC N) N a d b c
 
theorem agL :aB 194 (aM [.aw 800000 cT 119 false,ab,ab,.aU 62 []] [bj,.aw 800000 cT 119 false] (dE (afb N))):=
 aG (an (rU N) aE) func194 rfl N (ah (ah (.seq (ah (.block (.loop GV (ah (.seq (.block (.seq (aT GV) (ah (ah (ah (.meet GV (ah (.cond (ah (aT aim)) .no)) (ah (.cond (ah (aT agu)) .no)))))))) .no))))) .no))) _ (rs:=[800000])
def GW :ay:=⟨.aw 800000 cT 119 false::ab:: .dead:: .dead:: .aU 62 []::al 6 (ab::ab::al 77 []),[]⟩
def ae0 (d:List bJ) (e:Int) (b:Int) (a:Int) (c:Unit):Option (Int×(List bJ)):=ma (jC N) N d e b a c
 
theorem ag9 :aB 195 (aM [.aw 800000 cT 119 false,ab,ab,ab,.aU 62 []] [ab,.aw 800000 cT 119 false] (fN (ae0 N))):=
 aG (an (rU N) aE) func195 rfl N (ah (ah (ah (.seq (.block (.loop GW (.block (.seq (aT GW) (.seq (aT GW) .no))))) .no)))) _ (rs:=[800000])
def xb :ay:=⟨.aw 800000 cT 119 false::ab:: .dead:: .dead:: .aU 62 []::al 7 (ab::ab::al 164 []),[]⟩
def ae2 (d:List bJ) (e:Int) (b:Int) (a:Int) (c:Unit):Option (Int×Bool×(List bJ)):=pj (jC N) N d e b a c
 
theorem ahU :aB 196 (aM [.aw 800000 cT 119 false,ab,ab,ab,.aU 62 []] [.bM [ab,bj],.aw 800000 cT 119 false] (fN (ae2 N))):=
 aG (an (rU N) aE) func196 rfl N (ah (ah (ah (.seq (aT xb) (.seq (aT xb) (ah (ah (ah (ah (.seq (.block (.loop xb (.block (.seq (aT xb) (.seq (aT xb) .no))))) .no)))))))))) _ (rs:=[800000])
def af7 :ay:=⟨.aw 800000 cT 119 false::ab::ab::ab:: .aU 62 []::al 5 (bj::bj::al 136 []),[]⟩
def agB :ay:=⟨.aw 800000 cT 119 false::ab::ab::ab:: .aU 62 []::al 5 (bj::bj::ab::ab::al 134 []),[]⟩
def agf :ay:=⟨.aw 800000 cT 119 false::ab::ab::ab:: .aU 62 []::al 5 (bj::bj::ab::ab::ab::al 133 []),[]⟩
def aic :ay:=⟨.aw 800000 cT 119 false::ab::ab::ab:: .aU 62 []::al 5 (bj::bj::ab::al 135 []),[]⟩
def NJ (N D:Nat) (f:List bJ) (b a g:Int) (e:Unit):Option ((List bJ)):=lu (jC N) (fun d b a c=>ld (jC N) N d b a c) (fun d b a h c=>ma (jC N) N d b a h c) N D f b a g e
 
def A7 (N D:Nat):Model:=⟨⟨[.aw 800000 cT 119 false,ab,ab,ab,.aU 62 []],[]⟩,⟨[fB,.aw 800000 cT 119 false],[]⟩,fN (NJ N D)⟩
theorem ah2 (N D:Nat) (a:aB 131 (A7 N D)):aB 131 (A7 N (D+1)):=
 aG (an a (an (ahK N) (an (ahL N) (an (afL N) (an (agY N) (an (agc N) (an (agL N) (an (rU N) (an (ag9 N) (an (ahU N) aE)))))))))) func131 rfl N (ah (ah (.block (.loop af7 (.block (ah (ah (ah (.meet aic .no (ah (.meet agf .no (.meet agB .no .no)))))))))))) (A7 N (D+1)) (rs:=[800000])
theorem O0 (N:Nat):∀D,aB 131 (A7 N D)
 |0=>o6 ⟨_,func131,by decide,by kernel_rfl⟩ _ (fun a=>rfl)
 |D+1=>ah2 N D (O0 N D)
def BI (a:List bJ) (d:Unit):Option ((List bJ)):=
 (oB (o4 N (IntKind.u64.wrap (a.length:Int))) fun b=>oB (NJ N N a 0 (a.length:Int) b ()) fun c=>some c)
theorem aiJ :aB 61 (aM [.aw 800000 cT 119 false,.aU 62 []] [fB,.aw 800000 cT 119 false] (cH (BI N))):=
 aG (an (xa N) (an (O0 N N) aE)) func61 rfl N .no _ (rs:=[800000])
def af6 :ay:=⟨.dead:: .dead:: .box 2 0:: .dead:: .box 4 0:: .box 5 0::al 19 (.ag dj::ab::ab::al 32 []),[(2,false,[bP,.ag df]),(4,false,[.aQ,.aQ]),(5,false,[.ag dj,.kn 700501 cT 119])]⟩
def ag5 :ay:=⟨.dead:: .dead:: .box 2 0:: .dead:: .box 4 0:: .box 5 0:: .dead:: .box 7 0::al 17 (.ag dj::ab::ab::al 4 (.ag eB::ab::ab::al 25 [])),[(2,false,[bP,.ag df]),(4,false,[.aQ,.aQ]),(5,false,[.ag dj,.kn 700501 cT 119]),(7,false,[ab,.ag eB,.ag fw])]⟩
def agF :ay:=⟨.dead:: .dead:: .box 2 0:: .dead:: .box 4 0:: .box 5 0:: .dead:: .box 7 0:: .dead:: .box 9 0::al 15 (.ag dj::ab::ab::al 4 (.ag eB::ab::ab::al 6 (.own 600041 hY 114 true::ab::ab::al 16 []))),[(2,false,[bP,.ag df]),(4,false,[.aQ,.aQ]),(5,false,[.ag dj,.kn 700501 cT 119]),(7,false,[ab,.ag eB,.ag fw]),(9,false,[aI,aI])]⟩
def rF (c:List ae) (c2:List bZ) (ad:List br):Option ((List br)×(List bJ)):=
 (oB (nU N c c2) fun r=>bif !r then some (([]:List br),([]:List bJ))else oB (ui N ad) fun v=>bif !v then some (([]:List br),([]:List bJ))else oB (AX N ad) fun x=>iter (fun go (t25,t26,t27,c3,c4,s,s2)=>bif decide (t27<t26)then oB (idx t25 t27) fun e=>(iter (fun go2 (t252,t262,t272,t32,t33,t34,c5,a,h,i,d,d2,d3)=>bif decide (t34<t33)then oB (idx t32 t34) fun b=>(oB (rY N c5 a b.2) fun j=>iter (fun g (t253,t263,t273,t322,t332,t342,t41,t42,t43,k,l,o,p,d4,d5,d6,f,f2)=>bif decide (t43<t42)then oB (idx t41 t43) fun t=>(oB (zX N f t.1 t.2 d4 o p) fun u=>if fits (t43+1)then g (t253,t263,t273,t322,t332,t342,t41,t42,(t43+1),k,l,u.1,u.2,d4,d5,d6,f,f2)else none)else if fits (t342+1)then go2 (t253,t263,t273,t322,t332,(t342+1),k,l,o,p,d4,d5,d6)else none) N (t252,t262,t272,t32,t33,t34,j,(j.length:Int),(0:Int),c5,a,h,i,d,d2,d3,b.1,b.2))else if fits (t272+1)then go (t252,t262,(t272+1),c5,a,h,i)else none) N (t25,t26,t27,e.2.1,(e.2.1.length:Int),(0:Int),c3,c4,s,s2,e.1,e.2.1,e.2.2))else oB (BI N s2 ()) fun y=>some (s,y)) N (ad,(ad.length:Int),(0:Int),c,c2,x,([]:List bJ)))
theorem GY :aB 16 (aM [gj,.ag dj] [.agg [.ag dj,.own 1 cT 119 false]] (eH (rF N))):=
 aG (an (r1 N) (an (GR N) (an (agS N) (an (Bi N) (an (afz N) (an (aiJ N) aE)))))) func16 rfl N (ah (ah (ah (.seq (ah (.block (.loop af6 (ah (ah (.seq (.block (ah (ah (.block (.loop ag5 (ah (ah (.seq (.block (ah (ah (aT agF)))) .no)))))))) .no)))))) .no)))) _ (wr:=[23]) (dw:=[23,57])
def air :ay:=⟨.ag dh:: .ag dh::al 10 (ab::ab::al 12 []),[]⟩
def AY (b:List Int) (f:List Int):cW:=
 (bif !decide ((b.length:Int)=(f.length:Int))then some false else iter (fun i (e,d,c,a)=>bif decide (a<c)then oB (idx e a) fun k=>(oB (idx d a) fun h=>bif !decide (k=h)then some false else if fits (a+1)then i (e,d,c,(a+1))else none)else some true) N (b,f,(b.length:Int),(0:Int)))
theorem ahF :aB 318 (aM [.ag dh,.ag dh] [bj] (cH (AY N))):=
 aG aE func318 rfl N (ah (ah (.seq (ah (aT air)) .no))) _
def Ba (e:Int) (b:List Int) (a:Int) (d:List Int):cW:=
 (bif decide (e=a)then oB (AY N b d) fun c=>(some c)else some false)
theorem aiD :aB 266 (aM [.agg [ab,.ag dh],.agg [ab,.ag dh]] [bj] (dE (Ba N))):=
 aG (an (ahF N) aE) func266 rfl N .no _
def afN :ay:=⟨.dead:: .ag mr:: .aU 266 []::al 12 (.ag mr::ab::ab::al 14 []),[]⟩
def AO (b:cX) (i:cX) (m:Unit):cW:=
 (bif !decide ((b.length:Int)=(i.length:Int))then some false else iter (fun j (e,n,c,d,a)=>bif decide (a<d)then oB (idx c a) fun h=>(oB (idx e a) fun f=>oB (Ba N h.1 h.2 f.1 f.2) fun l=>bif !l then some false else if fits (a+1)then j (e,(),c,d,(a+1))else none)else some true) N (i,(),b,(b.length:Int),(0:Int)))
theorem agp :aB 265 (aM [.ag mr,.ag mr,.aU 266 []] [bj] (eH (AO N))):=
 aG (an (aiD N) aE) func265 rfl N (ah (ah (.seq (ah (aT afN)) .no))) _
def Be (c:ae) (b:ae) (d:cX) (a:ae) (f:ae) (h:cX):cW:=
 (bif decide (c=a)then bif decide (b=f)then oB (AO N d h ()) fun e=>(some e)else(some false)else some false)
theorem ahb :aB 187 (aM [sH,sH] [bj] (nz (Be N))):=
 aG (an (agp N) aE) func187 rfl N .no _
def afG :ay:=⟨.dead:: .ag hs:: .aU 187 []::al 12 (.ag hs::ab::ab::al 14 []),[]⟩
def A9 (c:List bJ) (i:List bJ) (m:Unit):cW:=
 (bif !decide ((c.length:Int)=(i.length:Int))then some false else iter (fun j (h,n,e,f,a)=>bif decide (a<f)then oB (idx e a) fun d=>(oB (idx h a) fun b=>oB (Be N d.1 d.2.1 d.2.2 b.1 b.2.1 b.2.2) fun l=>bif !l then some false else if fits (a+1)then j (h,(),e,f,(a+1))else none)else some true) N (i,(),c,(c.length:Int),(0:Int)))
theorem aik :aB 186 (aM [.ag hs,.ag hs,.aU 187 []] [bj] (eH (A9 N))):=
 aG (an (ahb N) aE) func186 rfl N (ah (ah (.seq (ah (aT afG)) .no))) _
def tO (a:List ae) (b:List bZ) (c:List br) (i:List bJ):cW:=
 (oB (nU N a b) fun h=>bif !h then some false else oB (ui N c) fun e=>bif !e then some false else oB (rF N a b c) fun d=>oB (A9 N d.2 i ()) fun f=>some f)
theorem O6 :aB 120 (aM [gj,ve] [bj] (dE (tO N))):=
 aG (an (r1 N) (an (GR N) (an (GY N) (an (aik N) aE)))) func120 rfl N .no _
def abK :ay:=⟨.ag dh::al 4 (.ag dh::ab::ab::al 24 []),[]⟩
def xe (d:List Int):cW:=
 (iter (fun f (b,c,e,a)=>bif decide (a<e)then oB (idx c a) fun h=>(oB (fb N h 0 999999999) fun k=>bif !k then some false else bif decide ((0:Int)<a)then if fits (a-1)then oB (idx b (a-1)) fun i=>(bif decide (h<=i)then some false else if fits (a+1)then f (b,c,e,(a+1))else none)else none else if fits (a+1)then f (b,c,e,(a+1))else none)else some (decide ((b.length:Int)<=60))) N (d,d,(d.length:Int),(0:Int)))
theorem Ni :aB 121 (aM [.ag dh] [bj] (dM (xe N))):=
 aG (an (ki N) aE) func121 rfl N (ah (.seq (ah (aT abK)) .no)) _
def ahJ :ay:=⟨.dead::ab:: .dead:: .dead:: .box 4 0::al 6 (.ag dj::ab::ab::al 10 []),[(4,false,[ab,.aQ,.aQ])]⟩
def wK (d:(List br)×(List bJ)) (j:Int):Option (Int×eP×mu×Bool):=
 (iter (fun i (e,f,c,a,h)=>bif decide (a<c)then oB (idx f a) fun b=>(bif decide (b.1=e)then some (b.1,b.2.1,b.2.2,true)else if fits (a+1)then i (e,f,c,(a+1),h)else none)else some (0,([]:bl),([]:dq),false)) N (j,d.1,(d.1.length:Int),(0:Int),(0:Int)))
theorem O4 :aB 122 (aM [.ptr yy,ab] [.bM [js,bj]] (cH (wK N))):=
 aG aE func122 rfl N (ah (.seq (ah (aT ahJ)) .no)) _
def acG :ay:=⟨.ag dh::ab::al 5 (ab::ab::al 10 []),[]⟩
def Ay (d:List Int) (f:Int):et:=
 (iter (fun h (e,b,c,a)=>bif decide (a<c)then oB (idx e a) fun j=>(bif decide (b=j)then some a else if fits (a+1)then h (e,b,c,(a+1))else none)else some (-1)) N (d,f,(d.length:Int),(0:Int)))
theorem adk :aB 241 (aM [.ag dh,ab] [ab] (cH (Ay N))):=
 aG aE func241 rfl N (ah (.seq (ah (aT acG)) .no)) _
def Av (c:List Int) (a:Int):cW:=
 (oB (Ay N c a) fun b=>some (decide ((0:Int)<=b)))
theorem acJ :aB 169 (aM [.ag dh,ab] [bj] (cH (Av N))):=
 aG (an (adk N) aE) func169 rfl N .no _
def acP :ay:=⟨.dead:: .box 1 0:: .dead:: .own 600003 cC 109 false::al 5 (.ag dj::ab::ab::al 15 []),[(1,false,[.ag dj,.ag hs,.ag dh])]⟩
def wY (f:List br) (l:List bJ) (m:List Int):lP:=
 (iter (fun k (b,d,e,a,i,j,c)=>bif decide (a<e)then oB (idx d a) fun h=>(oB (Av N c h.1) fun o=>bif !o then if room b.length ([h]:List br).length 56 then if fits (a+1)then k ((b++([h]:List br)),d,e,(a+1),i,j,c)else none else none else if fits (a+1)then k (b,d,e,(a+1),i,j,c)else none)else some b) N (([]:List br),f,(f.length:Int),(0:Int),f,l,m))
theorem NB :aB 107 (aM [yd] [.own 1 cC 109 false] (eH (wY N))):=
 aG (an (acJ N) aE) func107 rfl N (ah (ah (.seq (ah (aT acP)) .no))) _
def acF :ay:=⟨al 3 (.box 3 0::al 17 (.ag dh::ab::ab::al 16 [])),[(3,true,[.ag dj,.ag hs,.ag dh])]⟩
def Ax (k:List ae) (p:List bZ) (f:List br) (i:List bJ) (b:List Int):cW:=
 (oB (tO N k p f i) fun o=>bif !o then some false else oB (xe N b) fun r=>bif !r then some false else iter (fun q (j,h,a,c,d,e)=>bif decide (a<h)then oB (idx j a) fun n=>(oB (wK N (c,d) n) fun l=>bif !l.2.2.2 then some false else if fits (a+1)then q (j,h,(a+1),c,d,e)else none)else oB (wY N c d e) fun t=>some (decide ((0:Int)<t.length))) N (b,(b.length:Int),(0:Int),f,i,b))
theorem ac5 :aB 55 (aM [gj,yd] [bj] (fN (Ax N))):=
 aG (an (O6 N) (an (Ni N) (an (O4 N) (an (NB N) aE)))) func55 rfl N (ah (ah (.seq (ah (aT acF)) .no))) _
def qp (N:Nat) (a:Int):cW:=
 (some (!decide (a=a)))
theorem O5 :aB 171 (aM [ab] [bj] (dM (qp N))):=
 aG aE func171 rfl N .no _
def ur (a:Int) (b:Int):et:=
 (oB (qp N a) fun d=>oB (qp N b) fun c=>bif d then bif c then some 0 else(some (-1))else bif c then some 1 else bif decide (a<b)then some (-1)else bif decide (b<a)then some 1 else some 0)
theorem O7 :aB 110 (aM [ab,ab] [ab] (cH (ur N))):=
 aG (an (O5 N) aE) func110 rfl N .no _
def z1 (b:Int) (d:bl) (e:dq) (a:Int) (f:bl) (h:dq):et:=
 (oB (ur N b a) fun c=>some c)
theorem rR :aB 109 (aM [js,js] [ab] (nz (z1 N))):=
 aG (an (O7 N) aE) func109 rfl N .no _
def jF (N:Nat):(Unit)->br->br->Option Int:=(fun(cmp:Unit) (e a:Int×eP×mu)=>z1 N e.1 e.2.1 e.2.2 a.1 a.2.1 a.2.2)
def ac0 :ay:=⟨.aw 800000 cC 109 false::ab::ab:: .aU 109 []::al 4 (ab::al 44 []),[]⟩
def adg :ay:=⟨.aw 800000 cC 109 false::ab::ab:: .aU 109 []::al 4 (ab::ab::al 43 []),[]⟩
def ade (a:List br) (d:Int) (b:Int) (c:Unit):lP:=rL (jF N) N a d b c
 
theorem acz :aB 242 (aM [.aw 800000 cC 109 false,ab,ab,.aU 109 []] [fB,.aw 800000 cC 109 false] (dE (ade N))):=
 aG (an (rR N) aE) func242 rfl N (ah (.block (.loop ac0 (ah (.seq (.block (ah (aT adg))) .no))))) _ (rs:=[800000])
def acv :ay:=⟨.aw 800000 cC 109 false:: .dead::ab::ab:: .aU 109 []::al 5 (ab::al 71 []),[]⟩
def ac6 :ay:=⟨.aw 800000 cC 109 false:: .dead::ab::ab:: .aU 109 []::al 5 (ab::ab::al 70 []),[]⟩
def adi (e:List br) (c:Int) (d:Int) (a:Int) (b:Unit):lP:=qP (jF N) N e c d a b
 
theorem acy :aB 309 (aM [.aw 800000 cC 109 false,ab,ab,ab,.aU 109 []] [fB,.aw 800000 cC 109 false] (fN (adi N))):=
 aG (an (rR N) aE) func309 rfl N (ah (.block (.loop acv (.block (ah (ah (.meet ac6 .no .no))))))) _ (rs:=[800000])
def ack :ay:=⟨.aw 800000 cC 109 false:: .dead:: .dead:: .aU 109 []::al 4 (ab::ab::ab::ab::al 48 []),[]⟩
def acE :ay:=⟨.aw 800000 cC 109 false:: .dead:: .dead:: .aU 109 []::al 4 (ab::ab:: .dead:: .dead::ab::al 47 []),[]⟩
def acQ (a:List br) (d:Int) (b:Int) (c:Unit):lP:=ld (jF N) N a d b c
 
theorem ac7 :aB 243 (aM [.aw 800000 cC 109 false,ab,ab,.aU 109 []] [fB,.aw 800000 cC 109 false] (dE (acQ N))):=
 aG (an (acy N) aE) func243 rfl N (ah (ah (ah (.seq (ah (aT ack)) (ah (aT acE)))))) _ (rs:=[800000])
def aci :ay:=⟨.aw 800000 cC 109 false::ab::al 6 (ab:: .box 9 0:: .ag (.int .u64)::ab::al 55 []),[(9,false,[.ag (.int .u64)])]⟩
def adf :ay:=⟨.aw 800000 cC 109 false::ab::al 6 (ab:: .box 9 0:: .ag (.int .u64)::ab::ab::al 54 []),[(9,false,[.ag (.int .u64)])]⟩
def acs (a:List br) (d:Int) (b:Int) (c:Unit):lP:=q8 N a d b c
 
theorem acW :aB 244 (aM [.aw 800000 cC 109 false,ab,ab,.aU 109 []] [fB,.aw 800000 cC 109 false] (dE (acs N))):=
 aG (an (Bk N) (an (Bh N) aE)) func244 rfl N (ah (ah (.cond (ah (ah (ah (.block (.loop aci (ah (.seq (.block (ah (.meet adf .no .no))) .no))))))) .no))) _ (rs:=[800000])
def ac4 (a:List br) (e:Int) (b:Int) (c:Unit) (d:Int):Option (Int×Int×(List br)×Int):=pg (jF N) N a e b c d
 
theorem acU :aB 339 ⟨⟨[.aw 800000 cC 109 false,ab,ab,.box 900003 0,.aU 109 []],[(900003,false,[ab])]⟩,⟨[.bM [ab,ab],.aw 800000 cC 109 false],[(900003,false,[ab])]⟩,fN (ac4 N)⟩:=
 aG (an (rR N) aE) func339 rfl N .no _ (rs:=[900003,800000])
def acD (d:List br) (f:Int) (b:Int) (a:Int) (c:Unit) (e:Int):Option (Int×(List br)×Int):=qw (jF N) N d f b a c e
 
theorem ND :aB 311 ⟨⟨[.aw 800000 cC 109 false,ab,ab,ab,.box 900004 0,.aU 109 []],[(900004,false,[ab])]⟩,⟨[ab,.aw 800000 cC 109 false],[(900004,false,[ab])]⟩,nz (acD N)⟩:=
 aG (an (acU N) aE) func311 rfl N .no _ (rs:=[900004,800000])
def acT (a:List br) (d:Int) (c:Unit) (b:Int):Option (Int×(List br)×Int):=o5 (jF N) N a d c b
 
theorem acx :aB 310 ⟨⟨[.aw 800000 cC 109 false,ab,.box 900002 0,.aU 109 []],[(900002,false,[ab])]⟩,⟨[ab,.aw 800000 cC 109 false],[(900002,false,[ab])]⟩,dE (acT N)⟩:=
 aG (an (ND N) aE) func310 rfl N .no _ (rs:=[900002,800000])
def adl :ay:=⟨.aw 800000 cC 109 false:: .dead:: .dead:: .aU 109 []::al 7 (.box 11 0::ab::ab::ab::al 48 []),[(11,false,[ab])]⟩
def acu :ay:=⟨.aw 800000 cC 109 false::al 10 (.box 11 0:: .dead::ab::al 49 []),[(11,false,[ab])]⟩
def acV (a:List br) (d:Int) (b:Int) (c:Unit):Option (Int×Int×(List br)):=q9 (jF N) N a d b c
 
theorem ado :aB 245 (aM [.aw 800000 cC 109 false,ab,ab,.aU 109 []] [.bM [ab,ab],.aw 800000 cC 109 false] (dE (acV N))):=
 aG (an (acx N) (an (ND N) aE)) func245 rfl N (ah (ah (ah (ah (ah (ah (.meet acu (ah (.cond (.meet adl .no .no) .no)) .no))))))) _ (rs:=[800000])
def ac3 :ay:=⟨.aw 800000 cC 109 false::al 7 (ab::ab::al 24 []),[]⟩
def adj (a:List br) (d:Int) (b:Int) (c:Unit):lP:=sr N a d b c
 
theorem acR :aB 246 (aM [.aw 800000 cC 109 false,ab,ab,.aU 109 []] [fB,.aw 800000 cC 109 false] (dE (adj N))):=
 aG aE func246 rfl N (ah (ah (aT ac3))) _ (rs:=[800000])
def Gd :ay:=⟨.aw 800000 cC 109 false::ab::ab:: .aU 109 []::al 5 (ab::ab::al 130 []),[]⟩
def adb :ay:=⟨.aw 800000 cC 109 false::ab::ab:: .aU 109 []::al 5 (ab::ab::ab::al 129 []),[]⟩
def acB :ay:=⟨.aw 800000 cC 109 false::ab::ab:: .aU 109 []::al 5 (ab::ab:: .dead::ab::al 128 []),[]⟩
def ac1 (a:List br) (d:Int) (b:Int) (c:Unit):Option (Bool×(List br)):=sj (jF N) N a d b c
 
theorem acq :aB 247 (aM [.aw 800000 cC 109 false,ab,ab,.aU 109 []] [bj,.aw 800000 cC 109 false] (dE (ac1 N))):=
 aG (an (rR N) aE) func247 rfl N (ah (ah (.seq (ah (.block (.loop Gd (ah (.seq (.block (.seq (aT Gd) (ah (ah (ah (.meet Gd (ah (.cond (ah (aT adb)) .no)) (ah (.cond (ah (aT acB)) .no)))))))) .no))))) .no))) _ (rs:=[800000])
def Gc :ay:=⟨.aw 800000 cC 109 false::ab:: .dead:: .dead:: .aU 109 []::al 6 (ab::ab::al 77 []),[]⟩
def acO (d:List br) (e:Int) (b:Int) (a:Int) (c:Unit):Option (Int×(List br)):=ma (jF N) N d e b a c
 
theorem acj :aB 248 (aM [.aw 800000 cC 109 false,ab,ab,ab,.aU 109 []] [ab,.aw 800000 cC 109 false] (fN (acO N))):=
 aG (an (rR N) aE) func248 rfl N (ah (ah (ah (.seq (.block (.loop Gc (.block (.seq (aT Gc) (.seq (aT Gc) .no))))) .no)))) _ (rs:=[800000])
def wX :ay:=⟨.aw 800000 cC 109 false::ab:: .dead:: .dead:: .aU 109 []::al 7 (ab::ab::al 164 []),[]⟩
def acL (d:List br) (e:Int) (b:Int) (a:Int) (c:Unit):Option (Int×Bool×(List br)):=pj (jF N) N d e b a c
 
theorem ac8 :aB 249 (aM [.aw 800000 cC 109 false,ab,ab,ab,.aU 109 []] [.bM [ab,bj],.aw 800000 cC 109 false] (fN (acL N))):=
 aG (an (rR N) aE) func249 rfl N (ah (ah (ah (.seq (aT wX) (.seq (aT wX) (ah (ah (ah (ah (.seq (.block (.loop wX (.block (.seq (aT wX) (.seq (aT wX) .no))))) .no)))))))))) _ (rs:=[800000])
def acZ :ay:=⟨.aw 800000 cC 109 false::ab::ab::ab:: .aU 109 []::al 5 (bj::bj::al 136 []),[]⟩
def acX :ay:=⟨.aw 800000 cC 109 false::ab::ab::ab:: .aU 109 []::al 5 (bj::bj::ab::ab::al 134 []),[]⟩
def acK :ay:=⟨.aw 800000 cC 109 false::ab::ab::ab:: .aU 109 []::al 5 (bj::bj::ab::ab::ab::al 133 []),[]⟩
def acA :ay:=⟨.aw 800000 cC 109 false::ab::ab::ab:: .aU 109 []::al 5 (bj::bj::ab::al 135 []),[]⟩
def NC (N D:Nat) (f:List br) (b a g:Int) (e:Unit):lP:=lu (jF N) (fun d b a c=>ld (jF N) N d b a c) (fun d b a h c=>ma (jF N) N d b a h c) N D f b a g e
 
def Au (N D:Nat):Model:=⟨⟨[.aw 800000 cC 109 false,ab,ab,ab,.aU 109 []],[]⟩,⟨[fB,.aw 800000 cC 109 false],[]⟩,fN (NC N D)⟩
theorem adh (N D:Nat) (a:aB 170 (Au N D)):aB 170 (Au N (D+1)):=
 aG (an a (an (acz N) (an (ac7 N) (an (acW N) (an (ado N) (an (acR N) (an (acq N) (an (rR N) (an (acj N) (an (ac8 N) aE)))))))))) func170 rfl N (ah (ah (.block (.loop acZ (.block (ah (ah (ah (.meet acA .no (ah (.meet acK .no (.meet acX .no .no)))))))))))) (Au N (D+1)) (rs:=[800000])
theorem NH (N:Nat):∀D,aB 170 (Au N D)
 |0=>o6 ⟨_,func170,by decide,by kernel_rfl⟩ _ (fun a=>rfl)
 |D+1=>adh N D (NH N D)
def BL (a:List br) (d:Unit):lP:=
 (oB (o4 N (IntKind.u64.wrap (a.length:Int))) fun b=>oB (NC N N a 0 (a.length:Int) b ()) fun c=>some c)
theorem acY :aB 108 (aM [.aw 800000 cC 109 false,.aU 109 []] [fB,.aw 800000 cC 109 false] (cH (BL N))):=
 aG (an (xa N) (an (NH N N) aE)) func108 rfl N .no _ (rs:=[800000])
def ach :ay:=⟨al 3 (.aw 600003 cC 109 false::al 3 (.ag iG::ab::ab::al 11 [])),[]⟩
def tP (e:List cL):lP:=
 (iter (fun i (b,d,f,a)=>bif decide (a<f)then oB (idx d a) fun c=>(oB (wY N c.1.1 c.1.2 c.2) fun h=>if room b.length h.length 56 then if fits (a+1)then i ((b++h),d,f,(a+1))else none else none)else oB (BL N b ()) fun j=>some j) N (([]:List br),e,(e.length:Int),(0:Int)))
theorem NF :aB 49 (aM [.ag iG] [.own 1 cC 109 false] (dM (tP N))):=
 aG (an (NB N) (an (acY N) aE)) func49 rfl N (ah (ah (.seq (ah (aT ach)) .no))) _ (wr:=[6,16])
def acN :ay:=⟨.dead:: .box 1 0::al 14 (.ag iG::ab::ab::al 13 []),[(1,false,[bP,.ag df,.ag iG])]⟩
def oX (e:List ae) (h:List bZ) (b:List cL):cW:=
 (oB (nU N e h) fun q=>bif !q then some false else bif decide ((5:Int)<b.length)then some false else iter (fun m (d,k,a,i,j,f)=>bif decide (a<k)then oB (idx d a) fun c=>(oB (Ax N i j c.1.1 c.1.2 c.2) fun n=>bif !n then some false else if fits (a+1)then m (d,k,(a+1),i,j,f)else none)else oB (tP N f) fun l=>oB (ui N l) fun o=>some o) N (b,(b.length:Int),(0:Int),e,h,b))
theorem AA :aB 14 (aM [ly] [bj] (eH (oX N))):=
 aG (an (r1 N) (an (ac5 N) (an (NF N) (an (GR N) aE)))) func14 rfl N (ah (ah (.seq (ah (aT acN)) .no))) _
def mO (N:Nat) (a:Int):Option (ae):=wR a
 
def adR (N:Nat):Model:=⟨⟨[ab],[]⟩,⟨[aI],[]⟩,dM (mO N)⟩
theorem wZ :aB 31 (adR N):=adY
def tQ (a:Int):Option (ae):=
 (if fits (1000+a)then oB (mO N (1000+a)) fun b=>(if([103,101,110]:ae).length+b.length<=9223372036854775807 then some (([103,101,110]:ae)++b)else none)else none)
theorem Ms :aB 30 (aM [ab] [aI] (dM (tQ N))):=
 aG (an (wZ N) aE) func30 rfl N .no _
def YL :ay:=⟨.dead::aI::al 7 (.ag eB::ab::ab::al 10 []),[]⟩
def tM (f:bl) (h:ae):Option (ae×Bool):=
 (iter (fun i (b,c,d,a)=>bif decide (a<d)then oB (idx c a) fun e=>(bif decide (e.1=b)then some (e.2,true)else if fits (a+1)then i (b,c,d,(a+1))else none)else some (([]:ae),false)) N (h,f,(f.length:Int),(0:Int)))
theorem Mv :aB 29 (aM [lz,aI] [.bM [aI,bj]] (cH (tM N))):=
 aG aE func29 rfl N (ah (.seq (ah (aT YL)) .no)) _
def aei :ay:=⟨.dead:: .box 1 0:: .dead::aI::al 13 (.ag eB::ab::ab::al 34 []),[(1,false,[ab,.ag eB,.ag fw])]⟩
def ad8 :ay:=⟨al 3 (aI::al 31 (.ag fw::ab::ab::al 16 [])),[]⟩
def zT (m:Int) (f:bl) (r:dq):Option (ae):=
 (oB (oW N m f r) fun v=>bif !v then some ([]:ae)else oB (mO N m) fun l=>if([100,111,99,32]:ae).length+l.length<=9223372036854775807 then if(([100,111,99,32]:ae)++l).length+([10]:ae).length<=9223372036854775807 then iter (fun x (j,o,n,d,w,t,h)=>bif decide (d<n)then oB (idx o d) fun a=>(if([102,105,101,108,100,32]:ae).length+a.1.length<=9223372036854775807 then if(([102,105,101,108,100,32]:ae)++a.1).length+([32]:ae).length<=9223372036854775807 then if((([102,105,101,108,100,32]:ae)++a.1)++([32]:ae)).length+a.2.length<=9223372036854775807 then if(((([102,105,101,108,100,32]:ae)++a.1)++([32]:ae))++a.2).length+([10]:ae).length<=9223372036854775807 then if j.length+((((([102,105,101,108,100,32]:ae)++a.1)++([32]:ae))++a.2)++([10]:ae)).length<=9223372036854775807 then if fits (d+1)then x ((j++((((([102,105,101,108,100,32]:ae)++a.1)++([32]:ae))++a.2)++([10]:ae))),o,n,(d+1),w,t,h)else none else none else none else none else none else none)else iter (fun u (k,q,p,e)=>bif decide (e<p)then oB (idx q e) fun b=>(if([110,117,109,32]:ae).length+b.1.length<=9223372036854775807 then if(([110,117,109,32]:ae)++b.1).length+([32]:ae).length<=9223372036854775807 then oB (mO N b.2) fun c=>(if((([110,117,109,32]:ae)++b.1)++([32]:ae)).length+c.length<=9223372036854775807 then if(((([110,117,109,32]:ae)++b.1)++([32]:ae))++c).length+([10]:ae).length<=9223372036854775807 then if k.length+((((([110,117,109,32]:ae)++b.1)++([32]:ae))++c)++([10]:ae)).length<=9223372036854775807 then if fits (e+1)then u ((k++((((([110,117,109,32]:ae)++b.1)++([32]:ae))++c)++([10]:ae))),q,p,(e+1))else none else none else none else none)else none else none)else some k) N (j,h,(h.length:Int),(0:Int))) N (((([100,111,99,32]:ae)++l)++([10]:ae)),f,(f.length:Int),(0:Int),m,f,r)else none else none)
theorem aeK :aB 83 (aM [js] [aI] (eH (zT N))):=
 aG (an (Bj N) (an (wZ N) aE)) func83 rfl N (ah (ah (ah (.seq (ah (aT aei)) (.seq (ah (aT ad8)) .no))))) _
def aeo :ay:=⟨al 3 (.box 3 0:: .dead::aI::al 12 (.ag dj::ab::ab::al 23 [])),[(3,false,[.ag dj,.ag hs,.ag dh])]⟩
def aec :ay:=⟨al 5 (aI::al 24 (.ag dh::ab::ab::al 11 [])),[]⟩
def rE (r:List ae) (y:List bZ) (c:List br) (n:List bJ) (p:List Int):Option (ae):=
 (oB (oX N r y ([((c,n),p)]:List cL)) fun w=>bif !w then some ([]:ae)else iter (fun z (i,l,k,b,t,x,e)=>bif decide (b<k)then oB (idx l b) fun h=>(oB (zT N h.1 h.2.1 h.2.2) fun o=>if i.length+o.length<=9223372036854775807 then if fits (b+1)then z ((i++o),l,k,(b+1),t,x,e)else none else none)else iter (fun v (j,q,m,d)=>bif decide (d<m)then oB (idx q d) fun u=>(oB (mO N u) fun a=>if([100,101,97,100,32]:ae).length+a.length<=9223372036854775807 then if(([100,101,97,100,32]:ae)++a).length+([10]:ae).length<=9223372036854775807 then if j.length+((([100,101,97,100,32]:ae)++a)++([10]:ae)).length<=9223372036854775807 then if fits (d+1)then v ((j++((([100,101,97,100,32]:ae)++a)++([10]:ae))),q,m,(d+1))else none else none else none else none)else some j) N (i,e,(e.length:Int),(0:Int))) N (([]:ae),c,(c.length:Int),(0:Int),c,n,p))
theorem N6 :aB 32 (aM [gj,yd] [aI] (fN (rE N))):=
 aG (an (AA N) (an (aeK N) (an (wZ N) aE))) func32 rfl N (ah (ah (ah (.seq (ah (aT aeo)) (.seq (ah (aT aec)) .no))))) _
def aeT :ay:=⟨aI:: .dead:: .dead:: .ag (.int .u32):: .dead:: .dead::ab::ab::al 23 [],[]⟩
def YO :ay:=⟨aI:: .dead:: .dead:: .ag (.int .u32):: .dead:: .dead::ab::ab::al 8 (ab::al 14 []),[]⟩
def wG (j:ae):et:=
 (iter (fun o (m,i,l,d)=>bif decide (d<l)then oB (idx m d) fun n=>(iter (fun k (h,c,e,b,a)=>bif decide (a<8)then bif decide ((dS .and .u32 c 1)=1)then if 0<=(1:Int)then if fits (a+1)then k (h,(dS .xor .u32 (c.fdiv (2^(min (1:Int).toNat (IntKind.bits .u32)))) 3988292384),e,b,(a+1))else none else none else(if 0<=(1:Int)then if fits (a+1)then k (h,(c.fdiv (2^(min (1:Int).toNat (IntKind.bits .u32)))),e,b,(a+1))else none else none)else if fits (b+1)then o (h,c,e,(b+1))else none) N (m,(dS .xor .u32 i (IntKind.u32.wrap (n.toNat:Int))),l,d,(0:Int)))else some (IntKind.i64.wrap (dS .xor .u32 4294967295 i))) N (j,(4294967295:Int),(j.length:Int),(0:Int)))
theorem Oe :aB 33 (aM [aI] [ab] (dM (wG N))):=
 aG aE func33 rfl N (ah (ah (.seq (ah (.block (.loop aeT (ah (ah (.seq (.block (ah (ah (ah (aT YO))))) .no)))))) .no))) _
def Aj (c:ae) (d:ae) (a:ae) (e:ae):et:=
 (oB (qo N c a) fun b=>some b)
theorem rN :aB 85 (aM [.agg [aI,aI],.agg [aI,aI]] [ab] (dE (Aj N))):=
 aG (an (OS N) aE) func85 rfl N .no _
def jE (N:Nat):(Unit)->(ae×ae)->(ae×ae)->Option Int:=(fun(cmp:Unit) (e a:ae×ae)=>Aj N e.1 e.2 a.1 a.2)
def Z6 :ay:=⟨.aw 800000 ch 83 true::ab::ab:: .aU 85 []::al 4 (ab::al 44 []),[]⟩
def ZS :ay:=⟨.aw 800000 ch 83 true::ab::ab:: .aU 85 []::al 4 (ab::ab::al 43 []),[]⟩
def ZF (a:bl) (d:Int) (b:Int) (c:Unit):Option (eP):=rL (jE N) N a d b c
 
theorem Z3 :aB 218 (aM [.aw 800000 ch 83 true,ab,ab,.aU 85 []] [fB,.aw 800000 ch 83 true] (dE (ZF N))):=
 aG (an (rN N) aE) func218 rfl N (ah (.block (.loop Z6 (ah (.seq (.block (ah (aT ZS))) .no))))) _ (rs:=[800000])
def Y9 :ay:=⟨.aw 800000 ch 83 true:: .dead::ab::ab:: .aU 85 []::al 5 (ab::al 71 []),[]⟩
def aah :ay:=⟨.aw 800000 ch 83 true:: .dead::ab::ab:: .aU 85 []::al 5 (ab::ab::al 70 []),[]⟩
def Zm (e:bl) (c:Int) (d:Int) (a:Int) (b:Unit):Option (eP):=qP (jE N) N e c d a b
 
theorem Zz :aB 295 (aM [.aw 800000 ch 83 true,ab,ab,ab,.aU 85 []] [fB,.aw 800000 ch 83 true] (fN (Zm N))):=
 aG (an (rN N) aE) func295 rfl N (ah (.block (.loop Y9 (.block (ah (ah (.meet aah .no .no))))))) _ (rs:=[800000])
def Zp :ay:=⟨.aw 800000 ch 83 true:: .dead:: .dead:: .aU 85 []::al 4 (ab::ab::ab::ab::al 48 []),[]⟩
def Y6 :ay:=⟨.aw 800000 ch 83 true:: .dead:: .dead:: .aU 85 []::al 4 (ab::ab:: .dead:: .dead::ab::al 47 []),[]⟩
def ZD (a:bl) (d:Int) (b:Int) (c:Unit):Option (eP):=ld (jE N) N a d b c
 
theorem aam :aB 219 (aM [.aw 800000 ch 83 true,ab,ab,.aU 85 []] [fB,.aw 800000 ch 83 true] (dE (ZD N))):=
 aG (an (Zz N) aE) func219 rfl N (ah (ah (ah (.seq (ah (aT Zp)) (ah (aT Y6)))))) _ (rs:=[800000])
def Z1 :ay:=⟨.aw 800000 ch 83 true::ab::al 6 (ab:: .box 9 0:: .ag (.int .u64)::ab::al 55 []),[(9,false,[.ag (.int .u64)])]⟩
def YX :ay:=⟨.aw 800000 ch 83 true::ab::al 6 (ab:: .box 9 0:: .ag (.int .u64)::ab::ab::al 54 []),[(9,false,[.ag (.int .u64)])]⟩
def ZO (a:bl) (d:Int) (b:Int) (c:Unit):Option (eP):=q8 N a d b c
 
theorem ZC :aB 220 (aM [.aw 800000 ch 83 true,ab,ab,.aU 85 []] [fB,.aw 800000 ch 83 true] (dE (ZO N))):=
 aG (an (Bk N) (an (Bh N) aE)) func220 rfl N (ah (ah (.cond (ah (ah (ah (.block (.loop Z1 (ah (.seq (.block (ah (.meet YX .no .no))) .no))))))) .no))) _ (rs:=[800000])
def aaj (a:bl) (e:Int) (b:Int) (c:Unit) (d:Int):Option (Int×Int×eP×Int):=pg (jE N) N a e b c d
 
theorem Y8 :aB 333 ⟨⟨[.aw 800000 ch 83 true,ab,ab,.box 900003 0,.aU 85 []],[(900003,false,[ab])]⟩,⟨[.bM [ab,ab],.aw 800000 ch 83 true],[(900003,false,[ab])]⟩,fN (aaj N)⟩:=
 aG (an (rN N) aE) func333 rfl N .no _ (rs:=[900003,800000])
def ZG (d:bl) (f:Int) (b:Int) (a:Int) (c:Unit) (e:Int):Option (Int×eP×Int):=qw (jE N) N d f b a c e
 
theorem MF :aB 297 ⟨⟨[.aw 800000 ch 83 true,ab,ab,ab,.box 900004 0,.aU 85 []],[(900004,false,[ab])]⟩,⟨[ab,.aw 800000 ch 83 true],[(900004,false,[ab])]⟩,nz (ZG N)⟩:=
 aG (an (Y8 N) aE) func297 rfl N .no _ (rs:=[900004,800000])
def Zn (a:bl) (d:Int) (c:Unit) (b:Int):Option (Int×eP×Int):=o5 (jE N) N a d c b
 
theorem ZZ :aB 296 ⟨⟨[.aw 800000 ch 83 true,ab,.box 900002 0,.aU 85 []],[(900002,false,[ab])]⟩,⟨[ab,.aw 800000 ch 83 true],[(900002,false,[ab])]⟩,dE (Zn N)⟩:=
 aG (an (MF N) aE) func296 rfl N .no _ (rs:=[900002,800000])
def ZU :ay:=⟨.aw 800000 ch 83 true:: .dead:: .dead:: .aU 85 []::al 7 (.box 11 0::ab::ab::ab::al 48 []),[(11,false,[ab])]⟩
def Zl :ay:=⟨.aw 800000 ch 83 true::al 10 (.box 11 0:: .dead::ab::al 49 []),[(11,false,[ab])]⟩
def Zh (a:bl) (d:Int) (b:Int) (c:Unit):Option (Int×Int×eP):=q9 (jE N) N a d b c
 
theorem Zj :aB 221 (aM [.aw 800000 ch 83 true,ab,ab,.aU 85 []] [.bM [ab,ab],.aw 800000 ch 83 true] (dE (Zh N))):=
 aG (an (ZZ N) (an (MF N) aE)) func221 rfl N (ah (ah (ah (ah (ah (ah (.meet Zl (ah (.cond (.meet ZU .no .no) .no)) .no))))))) _ (rs:=[800000])
def YR :ay:=⟨.aw 800000 ch 83 true::al 7 (ab::ab::al 24 []),[]⟩
def aad (a:bl) (d:Int) (b:Int) (c:Unit):Option (eP):=sr N a d b c
 
theorem ZE :aB 222 (aM [.aw 800000 ch 83 true,ab,ab,.aU 85 []] [fB,.aw 800000 ch 83 true] (dE (aad N))):=
 aG aE func222 rfl N (ah (ah (aT YR))) _ (rs:=[800000])
def F4 :ay:=⟨.aw 800000 ch 83 true::ab::ab:: .aU 85 []::al 5 (ab::ab::al 130 []),[]⟩
def ZW :ay:=⟨.aw 800000 ch 83 true::ab::ab:: .aU 85 []::al 5 (ab::ab::ab::al 129 []),[]⟩
def ZP :ay:=⟨.aw 800000 ch 83 true::ab::ab:: .aU 85 []::al 5 (ab::ab:: .dead::ab::al 128 []),[]⟩
def Z5 (a:bl) (d:Int) (b:Int) (c:Unit):Option (Bool×eP):=sj (jE N) N a d b c
 
theorem ZB :aB 223 (aM [.aw 800000 ch 83 true,ab,ab,.aU 85 []] [bj,.aw 800000 ch 83 true] (dE (Z5 N))):=
 aG (an (rN N) aE) func223 rfl N (ah (ah (.seq (ah (.block (.loop F4 (ah (.seq (.block (.seq (aT F4) (ah (ah (ah (.meet F4 (ah (.cond (ah (aT ZW)) .no)) (ah (.cond (ah (aT ZP)) .no)))))))) .no))))) .no))) _ (rs:=[800000])
def F5 :ay:=⟨.aw 800000 ch 83 true::ab:: .dead:: .dead:: .aU 85 []::al 6 (ab::ab::al 77 []),[]⟩
def aae (d:bl) (e:Int) (b:Int) (a:Int) (c:Unit):Option (Int×eP):=ma (jE N) N d e b a c
 
theorem Z0 :aB 224 (aM [.aw 800000 ch 83 true,ab,ab,ab,.aU 85 []] [ab,.aw 800000 ch 83 true] (fN (aae N))):=
 aG (an (rN N) aE) func224 rfl N (ah (ah (ah (.seq (.block (.loop F5 (.block (.seq (aT F5) (.seq (aT F5) .no))))) .no)))) _ (rs:=[800000])
def wT :ay:=⟨.aw 800000 ch 83 true::ab:: .dead:: .dead:: .aU 85 []::al 7 (ab::ab::al 164 []),[]⟩
def Y7 (d:bl) (e:Int) (b:Int) (a:Int) (c:Unit):Option (Int×Bool×eP):=pj (jE N) N d e b a c
 
theorem Zv :aB 225 (aM [.aw 800000 ch 83 true,ab,ab,ab,.aU 85 []] [.bM [ab,bj],.aw 800000 ch 83 true] (fN (Y7 N))):=
 aG (an (rN N) aE) func225 rfl N (ah (ah (ah (.seq (aT wT) (.seq (aT wT) (ah (ah (ah (ah (.seq (.block (.loop wT (.block (.seq (aT wT) (.seq (aT wT) .no))))) .no)))))))))) _ (rs:=[800000])
def aac :ay:=⟨.aw 800000 ch 83 true::ab::ab::ab:: .aU 85 []::al 5 (bj::bj::al 136 []),[]⟩
def Y4 :ay:=⟨.aw 800000 ch 83 true::ab::ab::ab:: .aU 85 []::al 5 (bj::bj::ab::ab::al 134 []),[]⟩
def Zx :ay:=⟨.aw 800000 ch 83 true::ab::ab::ab:: .aU 85 []::al 5 (bj::bj::ab::ab::ab::al 133 []),[]⟩
def ZJ :ay:=⟨.aw 800000 ch 83 true::ab::ab::ab:: .aU 85 []::al 5 (bj::bj::ab::al 135 []),[]⟩
def MR (N D:Nat) (f:bl) (b a g:Int) (e:Unit):Option (eP):=lu (jE N) (fun d b a c=>ld (jE N) N d b a c) (fun d b a h c=>ma (jE N) N d b a h c) N D f b a g e
 
def An (N D:Nat):Model:=⟨⟨[.aw 800000 ch 83 true,ab,ab,ab,.aU 85 []],[]⟩,⟨[fB,.aw 800000 ch 83 true],[]⟩,fN (MR N D)⟩
theorem Zs (N D:Nat) (a:aB 153 (An N D)):aB 153 (An N (D+1)):=
 aG (an a (an (Z3 N) (an (aam N) (an (ZC N) (an (Zj N) (an (ZE N) (an (ZB N) (an (rN N) (an (Z0 N) (an (Zv N) aE)))))))))) func153 rfl N (ah (ah (.block (.loop aac (.block (ah (ah (ah (.meet ZJ .no (ah (.meet Zx .no (.meet Y4 .no .no)))))))))))) (An N (D+1)) (rs:=[800000])
theorem Mx (N:Nat):∀D,aB 153 (An N D)
 |0=>o6 ⟨_,func153,by decide,by kernel_rfl⟩ _ (fun a=>rfl)
 |D+1=>Zs N D (Mx N D)
def BK (a:bl) (d:Unit):Option (eP):=
 (oB (o4 N (IntKind.u64.wrap (a.length:Int))) fun b=>oB (MR N N a 0 (a.length:Int) b ()) fun c=>some c)
theorem Zg :aB 84 (aM [.aw 800000 ch 83 true,.aU 85 []] [fB,.aw 800000 ch 83 true] (cH (BK N))):=
 aG (an (xa N) (an (Mx N N) aE)) func84 rfl N .no _ (rs:=[800000])
def YP :ay:=⟨.box 900000 0::aI::aI::al 8 (ab::ab::al 38 []),[(900000,false,[.aw 850000 ch 83 true])]⟩
def tY (h:ae) (n:ae) (e:bl):Option (eP):=
 (iter (fun j (c,d,f,a,b)=>bif decide (a<f)then if 0<=a/\a<(b.length:Int)then oB (b[a.toNat]?) fun l=>(bif decide (l.1=c)then if 0<=a/\a<(b.length:Int)then oB (b[a.toNat]?) fun i=>(some (b.set a.toNat (i.1,d)))else none else if fits (a+1)then j (c,d,f,(a+1),b)else none)else none else if room b.length ([(c,d)]:bl).length 32 then oB (BK N (b++([(c,d)]:bl)) ()) fun m=>(some m)else none) N (h,n,(e.length:Int),(0:Int),e))
theorem Ze :aB 34 ⟨⟨[.box 900000 0,aI,aI],[(900000,false,[.aw 850000 ch 83 true])]⟩,⟨[fB],[(900000,false,[.aw 1 ch 83 true])]⟩,eH (tY N)⟩:=
 aG (an (Zg N) aE) func34 rfl N (.seq (ah (aT YP)) .no) _ (wr:=[42,43]) (rs:=[900000,850000])
def mN (N:Nat) (a:ae):Option Int:=vC a
 
def aeB (N:Nat):Model:=⟨⟨[aI],[]⟩,⟨[.bM [ab,.dead]],[]⟩,dM (mN N)⟩
theorem Gh :aB 87 (aeB N):=aeO
def YZ :ay:=⟨aI::ab::al 3 (ab::al 40 []),[]⟩
def Ai (c:ae) (l:Int):cW:=
 (bif decide ((c.length:Int)<7)then some false else oB (cut c 0 3) fun p=>bif !decide (p=([103,101,110]:ae))then oB (cut c 0 3) fun n=>(bif !decide (n=([115,101,103]:ae))then some false else iter (fun u (e,f,b)=>bif decide (b<7)then oB (idx e b) fun m=>(bif decide ((m.toNat:Int)<48)then some false else oB (idx e b) fun r=>bif decide ((57:Int)<(r.toNat:Int))then some false else if fits (b+1)then u (e,f,(b+1))else none)else oB (cut e 3 7) fun t=>oB (mN N t) fun k=>if fits (k-1000)then if fits (f-1)then oB (fb N (k-1000) 1 (f-1)) fun v=>(some v)else none else none) N (c,l,(3:Int)))else iter (fun o (d,i,a)=>bif decide (a<7)then oB (idx d a) fun y=>(bif decide ((y.toNat:Int)<48)then some false else oB (idx d a) fun q=>bif decide ((57:Int)<(q.toNat:Int))then some false else if fits (a+1)then o (d,i,(a+1))else none)else oB (cut d 3 7) fun x=>oB (mN N x) fun j=>if fits (j-1000)then if fits (i-1)then oB (fb N (j-1000) 1 (i-1)) fun w=>(some w)else none else none) N (c,l,(3:Int)))
theorem ZN :aB 37 (aM [aI,ab] [bj] (cH (Ai N))):=
 aG (an (Gh N) (an (ki N) aE)) func37 rfl N (ah (ah (.seq (ah (aT YZ)) .no))) _
def rO (a:ae) (d:ae) (b:Int):cW:=
 (oB (Ai N a b) fun c=>some c)
theorem MO :aB 36 (aM [.agg [aI,aI],.ptr a8] [bj] (eH (rO N))):=
 aG (an (ZN N) aE) func36 rfl N .no _
def YQ :ay:=⟨.aw 800000 ch 83 true:: .aU 36 [.ptr a8]::al 5 (ab::ab::al 10 []),[]⟩
def Af (d:bl) (j:Int):Option (Int×eP):=
 (iter (fun h (b,e,c,a)=>bif decide (a<c)then if 0<=a/\a<(b.length:Int)then oB (b[a.toNat]?) fun f=>(oB (rO N f.1 f.2 e) fun k=>bif k then some (a,b)else if fits (a+1)then h (b,e,c,(a+1))else none)else none else some ((-1),b)) N (d,j,(d.length:Int),(0:Int)))
theorem Y1 :aB 86 (aM [.aw 800000 ch 83 true,.aU 36 [.ptr a8]] [ab,.aw 800000 ch 83 true] (cH (Af N))):=
 aG (an (MO N) aE) func86 rfl N (ah (.seq (ah (aT YQ)) .no)) _ (rs:=[800000])
def Zy :ay:=⟨.aw 800000 ch 83 true:: .aU 36 [.ptr a8]::al 3 (ab::ab::al 35 []),[]⟩
def wV (j:bl) (h:Int):Option (eP):=
 (oB (Af N j h) fun d=>bif decide (d.1=(-1))then some d.2 else if fits (d.1+1)then iter (fun i (a,e,b,c)=>bif decide (c<(a.length:Int))then if 0<=c/\c<(a.length:Int)then oB (a[c.toNat]?) fun f=>(oB (rO N f.1 f.2 e) fun k=>bif !k then if 0<=b/\b<(a.length:Int)then oB (a[b.toNat]?) fun n=>(if fits (b+1)then if fits (c+1)then i ((a.set b.toNat f),e,(b+1),(c+1))else none else none)else none else if fits (c+1)then i (a,e,b,(c+1))else none)else none else oB (cut a b (a.length:Int)) fun _=>oB (cut (a.take b.toNat++List.replicate ((a.length:Int).toNat-b.toNat) (([]:ae),([]:ae))++a.drop ((a.length:Int).toNat)) 0 b) fun l=>some l) N (d.2,h,d.1,(d.1+1))else none)
theorem Z8 :aB 35 (aM [.aw 800000 ch 83 true,.aU 36 [.ptr a8]] [.own 1 ch 83 true,.dead] (cH (wV N))):=
 aG (an (Y1 N) (an (MO N) aE)) func35 rfl N (ah (ah (ah (.seq (ah (aT Zy)) .no)))) _ (wr:=[41]) (rs:=[800000]) (dw:=[38])
def Za :ay:=⟨.dead:: .dead::ab:: .box 3 0:: .box 4 0:: .dead:: .box 6 0:: .dead:: .box 8 0:: .box 9 0::ab::al 134 [],[(3,false,[.ag eB]),(4,false,[bP,.ag df,.ag iG]),(6,false,[.aQ]),(8,false,[.aw 700800 ch 83 true]),(9,false,[ab])]⟩
def Zo :ay:=⟨.dead:: .dead::ab:: .dead:: .box 4 0:: .dead:: .box 6 0:: .dead:: .box 8 0:: .box 9 0::al 3 (.aw 600013 ch 83 true::aI::al 46 (.ag iG::ab::ab::al 81 [])),[(4,false,[bP,.ag df,.ag iG]),(6,false,[.aQ]),(8,false,[.aw 700800 ch 83 true]),(9,false,[ab])]⟩
def aaf :ay:=⟨.dead:: .dead::ab::al 3 (.box 6 0:: .dead:: .box 8 0:: .box 9 0::al 3 (.ag eB::al 91 (.ag eB::ab::ab::al 37 []))),[(6,false,[.aQ]),(8,false,[.aw 700800 ch 83 true]),(9,false,[ab])]⟩
def Aq (x:bl) (U:List ae) (S:List bZ) (H:List cL) (V:Int):Option (eP×Int):=
 (oB (wH N x) fun W=>bif !W then some (([]:bl),(-1))else oB (oX N U S H) fun g=>bif !g then some (([]:bl),(-1))else if room ([]:bl).length x.length 32 then iter (fun K (z,c,k,C,A,l,n,E)=>bif decide (c<=99)then oB (tQ N c) fun ac=>(oB (tM N k ac) fun s=>bif s.2 then if fits (c+1)then if fits (c+1)then K (z,(c+1),k,C,A,l,n,(c+1))else none else none else if fits (c+1)then K (z,(c+1),k,C,A,l,n,E)else none)else bif decide ((99:Int)<E)then some (n,0)else if fits ((k.length:Int)+5)then if fits (((k.length:Int)+5)+1)then bif decide ((24:Int)<(((k.length:Int)+5)+1))then some (n,0)else(iter (fun F (L,i,f,T,P,p,R,Q,J,I,o)=>bif decide (p<P)then oB (idx T p) fun D=>(if fits (1000+o)then oB (mO N (1000+o)) fun a=>(if([115,101,103]:ae).length+a.length<=9223372036854775807 then if(([115,101,103]:ae)++a).length+([120]:ae).length<=9223372036854775807 then oB (mO N p) fun d=>(if((([115,101,103]:ae)++a)++([120]:ae)).length+d.length<=9223372036854775807 then oB (rE N R Q D.1.1 D.1.2 D.2) fun B=>(if room i.length ([((((([115,101,103]:ae)++a)++([120]:ae))++d),B)]:bl).length 32 then if(((([115,101,103]:ae)++a)++([120]:ae))++d).length+([32]:ae).length<=9223372036854775807 then oB (wG N B) fun M=>(oB (mO N M) fun r=>if((((([115,101,103]:ae)++a)++([120]:ae))++d)++([32]:ae)).length+r.length<=9223372036854775807 then if(((((([115,101,103]:ae)++a)++([120]:ae))++d)++([32]:ae))++r).length+([10]:ae).length<=9223372036854775807 then if f.length+((((((([115,101,103]:ae)++a)++([120]:ae))++d)++([32]:ae))++r)++([10]:ae)).length<=9223372036854775807 then if fits (p+1)then F (L,(i++([((((([115,101,103]:ae)++a)++([120]:ae))++d),B)]:bl)),(f++((((((([115,101,103]:ae)++a)++([120]:ae))++d)++([32]:ae))++r)++([10]:ae))),T,P,(p+1),R,Q,J,I,o)else none else none else none else none)else none else none)else none)else none else none)else none)else oB (tQ N o) fun u=>if f.length+([101,110,100]:ae).length<=9223372036854775807 then if room i.length ([(u,(f++([101,110,100]:ae)))]:bl).length 32 then iter (fun y (h,q,w,v,b,j,e)=>bif decide (b<v)then oB (idx w b) fun t=>(bif decide (h<0)then oB (tY N t.1 t.2 j) fun Y=>(if fits (b+1)then y (h,q,w,v,(b+1),Y,e)else none)else bif decide (b<h)then oB (tY N t.1 t.2 j) fun X=>(if fits (b+1)then y (h,q,w,v,(b+1),X,e)else none)else if fits (b+1)then y (h,q,w,v,(b+1),j,e)else none)else bif decide (h<0)then oB (wV N j e) fun O=>(if room ([]:bl).length O.length 32 then some ((([]:bl)++O),e)else none)else bif decide ((q.length:Int)<h)then oB (wV N j e) fun G=>(if room ([]:bl).length G.length 32 then some ((([]:bl)++G),e)else none)else some (j,e)) N (L,(i++([(u,(f++([101,110,100]:ae)))]:bl)),(i++([(u,(f++([101,110,100]:ae)))]:bl)),((i++([(u,(f++([101,110,100]:ae)))]:bl)).length:Int),(0:Int),I,o)else none else none) N (z,([]:bl),([]:ae),l,(l.length:Int),(0:Int),C,A,l,n,E))else none else none) N (V,(1:Int),x,U,S,H,(([]:bl)++x),(1:Int))else none)
theorem Zd :aB 7 (aM [lz,ly,ab] [.bM [sK,ab]] (fN (Aq N))):=
 aG (an (Mu N) (an (AA N) (an (Ms N) (an (Mv N) (an (wZ N) (an (N6 N) (an (Oe N) (an (Ze N) (an (Z8 N) aE))))))))) func7 rfl N (ah (ah (ah (ah (.seq (ah (aT Za)) (ah (ah (ah (.seq (ah (aT Zo)) (ah (.seq (ah (aT aaf)) .no))))))))))) _ (wr:=[29,32,59,83,84,103,104,138,141])
def ZL :ay:=⟨.dead:: .dead:: .box 2 0:: .box 3 0:: .dead::ab::al 25 [],[(2,false,[.ag eB]),(3,false,[.ag eB])]⟩
def rP (e:bl) (c:bl):cW:=
 (bif !decide ((e.length:Int)=(c.length:Int))then some false else iter (fun i (a,b,h)=>bif decide (a<(b.length:Int))then oB (idx b a) fun f=>(oB (idx h a) fun d=>bif !((decide (f.1=d.1))&&(decide (f.2=d.2)))then some false else if fits (a+1)then i ((a+1),b,h)else none)else some true) N ((0:Int),e,c))
theorem YW :aB 9 (aM [lz,lz] [bj] (cH (rP N))):=
 aG aE func9 rfl N (ah (ah (.seq (ah (aT ZL)) .no))) _
def xn (N:Nat) (b:ae) (a:ae):Option ((List ae)):=sA b a
 
def aeL (N:Nat):Model:=⟨⟨[aI,aI],[]⟩,⟨[bP],[]⟩,cH (xn N)⟩
theorem Od :aB 103 (aeL N):=ael
def adB :ay:=⟨.dead:: .dead:: .box 2 0:: .box 3 0::al 9 (.ag df::ab::ab::al 17 []),[(2,false,[.aQ,.aQ]),(3,false,[.own 700300 .str 9 true,.own 700301 j3 158 true])]⟩
def wN (d:List ae) (e:List bZ):Option ((List ae)×(List bZ)):=
 (if room ([]:List ae).length d.length 16 then iter (fun j (h,i,b,f,c)=>bif decide (b<i)then oB (idx h b) fun a=>(if room ([]:List ae).length a.1.length 16 then if room c.length ([((([]:List ae)++a.1),a.2)]:List bZ).length 40 then if fits (b+1)then j (h,i,(b+1),f,(c++([((([]:List ae)++a.1),a.2)]:List bZ)))else none else none else none)else some (f,c)) N (e,(e.length:Int),(0:Int),(([]:List ae)++d),([]:List bZ))else none)
theorem NM :aB 104 (aM [gj] [.agg [ng,.own 2 j3 158 true]] (cH (wN N))):=
 aG aE func104 rfl N (ah (ah (.seq (ah (aT adB)) .no))) _
def r4 (N:Nat) (b:ae) (a:ae):Option (ae×ae×Bool):=vK b a
 
def aeN (N:Nat):Model:=⟨⟨[aI,aI],[]⟩,⟨[.bM [aI,aI,bj]],[]⟩,cH (r4 N)⟩
theorem N2 :aB 105 (aeN N):=aeh
def r3 (N:Nat) (b:ae) (a:ae):cW:=
 (bif decide ((a.length:Int)<=(b.length:Int))then oB (cut b 0 (a.length:Int)) fun c=>(some (decide (c=a)))else some false)
theorem N4 :aB 240 (aM [aI,aI] [bj] (cH (r3 N))):=
 aG aE func240 rfl N .no _
def Ht (a:ae) (b:ae):Option (ae×Bool):=
 (oB (r3 N a b) fun d=>bif !d then some (a,false)else oB (cut a (b.length:Int) (a.length:Int)) fun c=>some (c,true))
theorem aey :aB 239 (aM [aI,aI] [.bM [aI,bj]] (cH (Ht N))):=
 aG (an (N4 N) aE) func239 rfl N .no _
def BN (c:ae) (b:ae):Option (ae×Bool):=
 (oB (Ht N c b) fun a=>some (a.1,a.2))
theorem aeD :aB 166 (aM [aI,aI] [.bM [aI,bj]] (cH (BN N))):=
 aG (an (aey N) aE) func166 rfl N .no _
def uu (c:ae) (a:ae):cW:=
 (oB (r3 N c a) fun b=>some b)
theorem aed :aB 167 (aM [aI,aI] [bj] (cH (uu N))):=
 aG (an (N4 N) aE) func167 rfl N .no _
def aeI :ay:=⟨.dead:: .dead:: .box 2 0:: .box 3 0::al 13 (bP::ab::ab::al 51 []),[(2,false,[ab,.aQ,.aQ]),(3,false,[ab,.own 700301 ch 110 true,.own 700302 hY 221 true])]⟩
def rH (l:List ae):Option br:=
 (iter (fun j (h,e,a,i,k,d,c)=>bif decide (a<e)then oB (idx h a) fun p=>(oB (r4 N p ([32]:ae)) fun f=>oB (r4 N f.2.1 ([32]:ae)) fun b=>bif decide (f.1=([100,111,99]:ae))then oB (mN N f.2.1) fun n=>(if fits (a+1)then j (h,e,(a+1),i,n,d,c)else none)else bif decide (f.1=([102,105,101,108,100]:ae))then if room d.length ([(b.1,b.2.1)]:bl).length 32 then if fits (a+1)then j (h,e,(a+1),i,k,(d++([(b.1,b.2.1)]:bl)),c)else none else none else bif decide (f.1=([110,117,109]:ae))then oB (mN N b.2.1) fun m=>(if room c.length ([(b.1,m)]:dq).length 24 then if fits (a+1)then j (h,e,(a+1),i,k,d,(c++([(b.1,m)]:dq)))else none else none)else if fits (a+1)then j (h,e,(a+1),i,k,d,c)else none)else some (k,d,c)) N (l,(l.length:Int),(0:Int),(0:Int),(0:Int),([]:bl),([]:dq)))
theorem aeq :aB 168 (aM [bP] [Ds] (dM (rH N))):=
 aG (an (N2 N) (an (Gh N) aE)) func168 rfl N (ah (ah (.seq (ah (aT aeI)) .no))) _
def ad9 :ay:=⟨.dead::aI:: .box 2 0:: .dead:: .box 4 0:: .dead:: .own 600006 cC 109 true:: .own 600007 a8 3 true::bP::ab::al 92 [],[(2,false,[bP,.ag df]),(4,false,[.aQ,.aQ,.aQ])]⟩
def aem :ay:=⟨.dead::aI:: .box 2 0:: .dead:: .box 4 0:: .dead:: .own 600006 cC 109 true:: .own 600007 a8 3 true::bP::ab::al 4 (ab::al 87 []),[(2,false,[bP,.ag df]),(4,false,[.aQ,.aQ,.aQ])]⟩
def zV (z:List ae) (v:List bZ) (B:ae):Option ((List br)×(List bJ)×(List Int)×Bool):=
 (oB (nU N z v) fun D=>bif !D then some (([]:List br),([]:List bJ),([]:List Int),false)else oB (xn N B ([10]:ae)) fun R=>iter (fun i (q,r,l,m,j,o,n)=>bif decide (j<(m.length:Int))then oB (idx m j) fun K=>(oB (BN N K ([100,101,97,100,32]:ae)) fun A=>bif A.2 then oB (mN N A.1) fun w=>(if room l.length ([w]:List Int).length 8 then if fits (j+1)then i (q,r,(l++([w]:List Int)),m,(j+1),o,n)else none else none)else if fits (j+1)then iter (fun I (k,c,f,a,h,b,d,e)=>bif decide (b<(a.length:Int))then oB (idx a b) fun G=>(oB (uu N G ([100,111,99,32]:ae)) fun C=>bif !C then oB (idx a b) fun U=>(oB (uu N U ([100,101,97,100,32]:ae)) fun E=>bif !E then if fits (b+1)then I (k,c,f,a,h,(b+1),d,e)else none else oB (idx a h) fun S=>bif !decide (S=([]:ae))then oB (cut a h b) fun L=>(oB (rH N L) fun y=>if room c.length ([y]:List br).length 56 then i (k,(c++([y]:List br)),f,a,b,d,e)else none)else i (k,c,f,a,b,d,e))else oB (idx a h) fun T=>bif !decide (T=([]:ae))then oB (cut a h b) fun H=>(oB (rH N H) fun x=>if room c.length ([x]:List br).length 56 then i (k,(c++([x]:List br)),f,a,b,d,e)else none)else i (k,c,f,a,b,d,e))else oB (idx a h) fun Q=>bif !decide (Q=([]:ae))then oB (cut a h b) fun P=>(oB (rH N P) fun u=>if room c.length ([u]:List br).length 56 then i (k,(c++([u]:List br)),f,a,b,d,e)else none)else i (k,c,f,a,b,d,e)) N (q,r,l,m,j,(j+1),o,n)else none)else oB (rF N o n r) fun p=>bif decide (q=([]:ae))then some (([]:List br),([]:List bJ),([]:List Int),false)else oB (rE N o n p.1 p.2 l) fun O=>bif !decide (O=q)then some (([]:List br),([]:List bJ),([]:List Int),false)else some (p.1,p.2,l,true)) N (B,([]:List br),([]:List Int),R,(0:Int),z,v))
theorem aeH :aB 106 (aM [gj,aI] [.bM [.agg [.ag dj,.own 1 cT 119 false,.own 2 a8 3 true],bj]] (eH (zV N))):=
 aG (an (r1 N) (an (Od N) (an (aeD N) (an (Gh N) (an (aed N) (an (aeq N) (an (GY N) (an (N6 N) aE)))))))) func106 rfl N (ah (ah (ah (ah (ah (.seq (ah (.block (.loop ad9 (ah (.block (ah (ah (.seq (aT aem) .no)))))))) .no)))))) _
def aeU :ay:=⟨al 3 (.box 3 0:: .box 4 0:: .dead:: .box 6 0::al 5 (.box 12 0::al 37 (bP::ab::ab::al 44 []))),[(3,false,[.ag eB]),(4,false,[bP,.ag df]),(6,false,[.aQ,.aQ,.aQ]),(12,false,[.own 701200 .str 9 true,.own 701201 j3 158 true,.own 701202 j4 80 false])]⟩
def zR (t:bl) (i:List ae) (n:List bZ) (D:Int):vz:=
 (oB (tQ N D) fun y=>oB (tM N t y) fun o=>oB (xn N o.1 ([10]:ae)) fun b=>if fits ((b.length:Int)-1)then bif !o.2 then some (([]:List ae),([]:List bZ),([]:List cL),false)else(oB (idx b ((b.length:Int)-1)) fun x=>bif !decide (x=([101,110,100]:ae))then some (([]:List ae),([]:List bZ),([]:List cL),false)else oB (wN N i n) fun p=>oB (cut b 0 ((b.length:Int)-1)) fun k=>iter (fun A (j,q,c,r,u,m,e,f,d)=>bif decide (c<q)then oB (idx j c) fun v=>(oB (r4 N v ([32]:ae)) fun l=>oB (tM N r l.1) fun h=>bif !h.2 then some (([]:List ae),([]:List bZ),([]:List cL),false)else oB (wG N h.1) fun C=>oB (mO N C) fun B=>bif !decide (B=l.2.1)then some (([]:List ae),([]:List bZ),([]:List cL),false)else oB (zV N u m h.1) fun a=>bif !a.2.2.2 then some (([]:List ae),([]:List bZ),([]:List cL),false)else if room d.length ([((a.1,a.2.1),a.2.2.1)]:List cL).length 72 then if fits (c+1)then A (j,q,(c+1),r,u,m,e,f,(d++([((a.1,a.2.1),a.2.2.1)]:List cL)))else none else none)else oB (oX N e f d) fun z=>some (e,f,d,z)) N (k,(k.length:Int),(0:Int),t,i,n,p.1,p.2,([]:List cL)))else none)
theorem YJ :aB 45 (aM [lz,gj,ab] [.bM [yf,bj]] (dE (zR N))):=
 aG (an (Ms N) (an (Mv N) (an (Od N) (an (NM N) (an (N2 N) (an (Oe N) (an (wZ N) (an (aeH N) (an (AA N) aE))))))))) func45 rfl N (ah (ah (ah (ah (ah (ah (.seq (ah (aT aeU)) .no))))))) _
def zU (a:List ae) (b:List bZ):Option ((List ae)×(List bZ)×(List cL)):=
 (oB (nU N a b) fun d=>bif !d then some (([]:List ae),([]:List bZ),([]:List cL))else oB (wN N a b) fun c=>some (c.1,c.2,([]:List cL)))
theorem ad1 :aB 46 (aM [gj] [.agg [ng,.own 2 j3 158 true,.own 3 j4 80 true]] (cH (zU N))):=
 aG (an (r1 N) (an (NM N) aE)) func46 rfl N .no _
def aeQ :ay:=⟨.dead:: .dead:: .box 2 0:: .box 3 0:: .box 4 0:: .dead::ab::al 27 [],[(2,false,[bP,.ag df]),(3,false,[.ag eB]),(4,false,[.aQ,.aQ,.aQ])]⟩
def zQ (f:List ae) (h:List bZ) (i:bl):Option ((List ae)×(List bZ)×(List cL)×Int):=
 (oB (nU N f h) fun n=>bif !n then some (([]:List ae),([]:List bZ),([]:List cL),(-1))else oB (wH N i) fun l=>bif !l then some (([]:List ae),([]:List bZ),([]:List cL),(-1))else iter (fun k (a,e,c,j)=>bif decide ((1:Int)<=a)then oB (zR N j e c a) fun b=>(bif b.2.2.2 then some (b.1,b.2.1,b.2.2.1,a)else if fits (a-1)then k ((a-1),e,c,j)else none)else oB (zU N e c) fun d=>some (d.1,d.2.1,d.2.2,0)) N ((99:Int),f,h,i))
theorem YN :aB 10 (aM [gj,lz] [.bM [yf,ab]] (eH (zQ N))):=
 aG (an (r1 N) (an (Mu N) (an (YJ N) (an (ad1 N) aE)))) func10 rfl N (ah (ah (.seq (ah (aT aeQ)) .no))) _
def ab0 :ay:=⟨aI::al 4 (ab::ab::al 23 []),[]⟩
def xj (e:ae):cW:=
 (iter (fun d (b,c,a)=>bif decide (a<c)then oB (idx b a) fun f=>(oB (rW N (f.toNat:Int)) fun k=>bif !k then oB (idx b a) fun h=>(bif !decide ((h.toNat:Int)=42)then oB (idx b a) fun l=>(bif !decide ((l.toNat:Int)=63)then some false else if fits (a+1)then d (b,c,(a+1))else none)else if fits (a+1)then d (b,c,(a+1))else none)else if fits (a+1)then d (b,c,(a+1))else none)else oB (fb N (b.length:Int) 1 12) fun i=>some i) N (e,(e.length:Int),(0:Int)))
theorem Ps :aB 124 (aM [aI] [bj] (dM (xj N))):=
 aG (an (GL N) (an (ki N) aE)) func124 rfl N (ah (.seq (ah (aT ab0)) .no)) _
def aa7 :ay:=⟨.dead::ab:: .box 2 0::al 90 (bP::ab::ab::al 39 []),[(2,false,[ab,aI,bP,ab,ab,.ag (.av .q)])]⟩
def abc :ay:=⟨.dead::ab::al 121 (.ag (.av .q)::ab::ab::al 9 []),[]⟩
def abN :ay:=⟨.dead::ab:: .box 2 0::al 132 [],[(2,false,[ab,aI,bP,ab,ab,.ag (.av .q)])]⟩
def PD :ay:=⟨.dead::ab:: .box 2 0:: .dead:: .dead:: .box 5 0::al 129 [],[(2,false,[ab,aI,bP,ab,ab,.ag (.av .q)]),(5,false,[bj,ab,ab,ab,ab,bj,ab,ab])]⟩
def nY (N:Nat):(D:Nat)->Int->ae->(List ae)->Int->Int->(List bf)->Int->cW
 |0,_,_,_,_,_,_,_=>none
 |D+1,q,G,S,T,U,V,deep=>
 meet (fun(g:JK)=>
 match g with
 |(v,Ct,alu,W,C,I,F,x,X,Y,Z,Tl,anG,Tm,Tn)=>
 meet (fun(g:JK)=>
 match g with
 |(b,j,k,l,i,c,o,apf,ao9,apa,apb,apc,y,apd,ape)=>
 meet (fun(g:Int×Int×ae×(List ae)×Int×Int×(List bf))=>
 match g with
 |(z,K,L,A,M,O,P)=>
 iter (fun go (g:Int×(List ae)×Int×Int×Int×ae×(List ae)×Int×Int×(List bf))=>
 match g with
 |(a,t93,t94,t95,d,p,s,t,u,h)=>
 bif decide (t95<t94)then
 oB (idx t93 t95) fun e=>
 (bif decide (d=5)then
 oB (xj N e) fun qI=>
 (bif !qI then
 some false
 else
 oB (iO N e) fun sn=>
 bif sn then
 some false
 else
 bif !decide (d=5)then
 oB (iO N e) fun pn=>
 (bif !pn then
 some false
 else
 if fits (t95+1)then go (a,t93,t94,(t95+1),d,p,s,t,u,h)else none)
 else
 if fits (t95+1)then go (a,t93,t94,(t95+1),d,p,s,t,u,h)else none)
 else
 bif !decide (d=5)then
 oB (iO N e) fun II=>
 (bif !II then
 some false
 else
 if fits (t95+1)then go (a,t93,t94,(t95+1),d,p,s,t,u,h)else none)
 else
 if fits (t95+1)then go (a,t93,t94,(t95+1),d,p,s,t,u,h)else none)
 else
 iter (fun go2 (g:Int×(List bf)×Int×Int)=>
 match g with
 |(f,t123,t124,t125)=>
 bif decide (t125<t124)then
 oB (idx t123 t125) fun B=>
 (if fits (f-1)then oB (nY N D B.kind B.field B.words B.lo B.hi B.kids (f-1)) fun Q=>
 (bif !Q then
 some false
 else
 if fits (t125+1)then go2 (f,t123,t124,(t125+1))else none)else none)
 else
 some true) N (a,h,(h.length:Int),0)) N (z,A,(A.length:Int),0,K,L,A,M,O,P)) fun H=>
 bif y then
 oB (fb N c i 999999999) fun uV=>
 (bif !uV then
 some false
 else
 bif !y then
 bif !decide (c=0)then
 some false
 else
 (H (b,j,k,l,i,c,o))
 else
 H (b,j,k,l,i,c,o))
 else
 bif !y then
 bif !decide (c=0)then
 some false
 else
 (H (b,j,k,l,i,c,o))
 else
 H (b,j,k,l,i,c,o)) fun vv=>
 oB (fb N (W.length:Int) X Y) fun kP=>
 bif !kP then
 some false
 else
 oB (fb N (F.length:Int) Tm Tn) fun qG=>
 bif !qG then
 some false
 else
 oB (fb N C Z Tl) fun qH=>
 bif !qH then
 some false
 else
 vv (v,Ct,alu,W,C,I,F,x,X,Y,Z,Tl,anG,Tm,Tn)) fun J=>
 bif !((eJ a8 (.pair .bool (.pair a8 (.pair a8 (.pair a8 (.pair a8 (.pair .bool cm)))))) fP q).isSome)then
 some false
 else
 bif decide (deep<1)then
 some false
 else
 bif !((((eJ a8 (.pair .bool (.pair a8 (.pair a8 (.pair a8 (.pair a8 (.pair .bool cm)))))) fP q).getD (false,(0,(0,(0,(0,(false,(0,0)))))))).1)==(!decide (G=([]:ae))))then
 some false
 else
 bif((eJ a8 (.pair .bool (.pair a8 (.pair a8 (.pair a8 (.pair a8 (.pair .bool cm)))))) fP q).getD (false,(0,(0,(0,(0,(false,(0,0)))))))).1 then
 oB (iO N G) fun r=>
 (bif !r then
 some false
 else
 J (deep,q,G,S,T,U,V,((eJ a8 (.pair .bool (.pair a8 (.pair a8 (.pair a8 (.pair a8 (.pair .bool cm)))))) fP q).getD (false,(0,(0,(0,(0,(false,(0,0)))))))).1,(((eJ a8 (.pair .bool (.pair a8 (.pair a8 (.pair a8 (.pair a8 (.pair .bool cm)))))) fP q).getD (false,(0,(0,(0,(0,(false,(0,0)))))))).2).1,((((eJ a8 (.pair .bool (.pair a8 (.pair a8 (.pair a8 (.pair a8 (.pair .bool cm)))))) fP q).getD (false,(0,(0,(0,(0,(false,(0,0)))))))).2).2).1,(((((eJ a8 (.pair .bool (.pair a8 (.pair a8 (.pair a8 (.pair a8 (.pair .bool cm)))))) fP q).getD (false,(0,(0,(0,(0,(false,(0,0)))))))).2).2).2).1,((((((eJ a8 (.pair .bool (.pair a8 (.pair a8 (.pair a8 (.pair a8 (.pair .bool cm)))))) fP q).getD (false,(0,(0,(0,(0,(false,(0,0)))))))).2).2).2).2).1,(((((((eJ a8 (.pair .bool (.pair a8 (.pair a8 (.pair a8 (.pair a8 (.pair .bool cm)))))) fP q).getD (false,(0,(0,(0,(0,(false,(0,0)))))))).2).2).2).2).2).1,((((((((eJ a8 (.pair .bool (.pair a8 (.pair a8 (.pair a8 (.pair a8 (.pair .bool cm)))))) fP q).getD (false,(0,(0,(0,(0,(false,(0,0)))))))).2).2).2).2).2).2).1,((((((((eJ a8 (.pair .bool (.pair a8 (.pair a8 (.pair a8 (.pair a8 (.pair .bool cm)))))) fP q).getD (false,(0,(0,(0,(0,(false,(0,0)))))))).2).2).2).2).2).2).2))
 else
 J (deep,q,G,S,T,U,V,((eJ a8 (.pair .bool (.pair a8 (.pair a8 (.pair a8 (.pair a8 (.pair .bool cm)))))) fP q).getD (false,(0,(0,(0,(0,(false,(0,0)))))))).1,(((eJ a8 (.pair .bool (.pair a8 (.pair a8 (.pair a8 (.pair a8 (.pair .bool cm)))))) fP q).getD (false,(0,(0,(0,(0,(false,(0,0)))))))).2).1,((((eJ a8 (.pair .bool (.pair a8 (.pair a8 (.pair a8 (.pair a8 (.pair .bool cm)))))) fP q).getD (false,(0,(0,(0,(0,(false,(0,0)))))))).2).2).1,(((((eJ a8 (.pair .bool (.pair a8 (.pair a8 (.pair a8 (.pair a8 (.pair .bool cm)))))) fP q).getD (false,(0,(0,(0,(0,(false,(0,0)))))))).2).2).2).1,((((((eJ a8 (.pair .bool (.pair a8 (.pair a8 (.pair a8 (.pair a8 (.pair .bool cm)))))) fP q).getD (false,(0,(0,(0,(0,(false,(0,0)))))))).2).2).2).2).1,(((((((eJ a8 (.pair .bool (.pair a8 (.pair a8 (.pair a8 (.pair a8 (.pair .bool cm)))))) fP q).getD (false,(0,(0,(0,(0,(false,(0,0)))))))).2).2).2).2).2).1,((((((((eJ a8 (.pair .bool (.pair a8 (.pair a8 (.pair a8 (.pair a8 (.pair .bool cm)))))) fP q).getD (false,(0,(0,(0,(0,(false,(0,0)))))))).2).2).2).2).2).2).1,((((((((eJ a8 (.pair .bool (.pair a8 (.pair a8 (.pair a8 (.pair a8 (.pair .bool cm)))))) fP q).getD (false,(0,(0,(0,(0,(false,(0,0)))))))).2).2).2).2).2).2).2)
def Bz (N D:Nat):Model:=⟨⟨[.agg [ab,aI,bP,ab,ab,.ag (.av .q)],ab],[]⟩,⟨[bj],[]⟩,Kd (nY N D)⟩
theorem aaJ (N D:Nat) (a:aB 57 (Bz N D)):aB 57 (Bz N (D+1)):=
 aG (an a (an (o1 N) (an (ki N) (an (Ps N) aE)))) func57 rfl N (ah (ah (.meet PD .no (.meet PD .no (.meet abN .no (.seq (ah (aT aa7)) (.seq (ah (aT abc)) .no))))))) (Bz N (D+1))
theorem PH (N:Nat):∀D,aB 57 (Bz N D)
 |0=>o6 ⟨_,func57,by decide,by kernel_rfl⟩ _ (fun a=>rfl)
 |D+1=>aaJ N D (PH N D)
def tN (f:Int) (b:ae) (a:List ae) (c:Int) (d:Int) (e:List bf):cW:=
 (oB (nY N N f b a c d e 4) fun h=>some h)
theorem Nq :aB 15 (aM [.agg [ab,aI,bP,ab,ab,.ag (.av .q)]] [bj] (nz (tN N))):=
 aG (an (PH N N) aE) func15 rfl N .no _
def Bt (c:List ae) (d:List bZ) (a:ae):Option (ae):=
 (oB (iO N a) fun f=>bif !f then some ([]:ae)else oB (rY N c d a) fun b=>bif decide ((b.length:Int)=0)then some ([]:ae)else oB (idx b 0) fun e=>some e.1)
theorem aa4 :aB 200 (aM [gj,aI] [aI] (eH (Bt N))):=
 aG (an (o1 N) (an (Bi N) aE)) func200 rfl N .no _
def agK :ay:=⟨.dead::aI::aI::al 9 (.ag hs::ab::ab::al 16 []),[]⟩
def wM (h:(List br)×(List bJ)) (j:ae) (k:ae):Option (yA):=
 (iter (fun i (e,c,b,d,a)=>bif decide (a<d)then oB (idx b a) fun f=>(bif decide (f.1=e)then bif decide (f.2.1=c)then some f.2.2 else(if fits (a+1)then i (e,c,b,d,(a+1))else none)else if fits (a+1)then i (e,c,b,d,(a+1))else none)else some ([]:cX)) N (j,k,h.2,(h.2.length:Int),(0:Int)))
theorem Oh :aB 274 (aM [.ptr yy,aI,aI] [.ag mr] (eH (wM N))):=
 aG aE func274 rfl N (ah (.seq (ah (aT agK)) .no)) _
def agE :ay:=⟨al 3 (ab::al 12 (.ag mr::ab::ab::al 10 [])),[]⟩
def tR (h:((List ae)×(List bZ))×(List br)×(List bJ)) (j:ae) (k:ae) (l:Int):Option ((List Int)):=
 (oB (wM N h.2 j k) fun e=>iter (fun i (c,b,f,a)=>bif decide (a<f)then oB (idx b a) fun d=>(bif decide (d.1=c)then some d.2 else if fits (a+1)then i (c,b,f,(a+1))else none)else some ([]:List Int)) N (l,e,(e.length:Int),(0:Int)))
theorem GZ :aB 205 (aM [.ptr nu,aI,aI,ab] [.ag dh] (dE (tR N))):=
 aG (an (Oh N) aE) func205 rfl N (ah (.seq (ah (aT agE)) .no)) _
def af9 :ay:=⟨.dead::aI::al 8 (.ag eB::ab::ab::al 10 []),[]⟩
def zS (m:Int) (b:bl) (i:dq) (h:ae):Option (ae):=
 (oB (oW N m b i) fun l=>bif l then iter (fun j (c,e,d,a)=>bif decide (a<d)then oB (idx e a) fun f=>(bif decide (f.1=c)then some f.2 else if fits (a+1)then j (c,e,d,(a+1))else none)else some ([]:ae)) N (h,b,(b.length:Int),(0:Int))else some ([]:ae))
theorem ahC :aB 320 (aM [js,aI] [aI] (dE (zS N))):=
 aG (an (Bj N) aE) func320 rfl N (ah (.seq (ah (.cond (ah (aT af9)) .no)) .no)) _
def wL (e:(List br)×(List bJ)) (b:List ae) (d:List bZ) (h:ae) (i:Int):et:=
 (oB (wK N e i) fun a=>bif !a.2.2.2 then some 0 else oB (zS N a.1 a.2.1 a.2.2.1 h) fun f=>oB (rY N b d f) fun c=>some (c.length:Int))
theorem afc :aB 272 (aM [.ptr yy,gj,aI,ab] [ab] (fN (wL N))):=
 aG (an (O4 N) (an (ahC N) (an (Bi N) aE))) func272 rfl N .no _
def ag4 :ay:=⟨ab::ab::al 13 [],[]⟩
def w4 (f:Int) (c:Int):et:=
 (iter (fun e (a,b)=>bif !decide (b=0)then if b≠0 then e (b,(a.tmod b))else none else if fits (0-a)then some (if(0-a)>a then 0-a else a)else none) N (f,c))
theorem OX :aB 342 (aM [ab,ab] [ab] (cH (w4 N))):=
 aG aE func342 rfl N (ah (.seq (aT ag4) .no)) _
def w8 (a:Int) (b:Int):cW:=
 (oB (fb N a (-1000000000) 1000000000) fun c=>bif c then oB (fb N b 1 1000000000) fun e=>(bif e then oB (w4 N a b) fun d=>(some (decide (d=1)))else some false)else some false)
theorem OO :aB 322 (aM [sI] [bj] (cH (w8 N))):=
 aG (an (ki N) (an (OX N) aE)) func322 rfl N .no _
def afi :ay:=⟨ab::ab:: .dead:: .dead:: .box 4 0::al 24 [],[(4,false,[ab,ab])]⟩
def A8 (e:Int) (b:Int):Option (Int×Int×Bool):=
 (meet (fun(i:Int×Int×Int×Int)=>match i with|(d,c,j,k)=>oB (w4 N d c) fun a=>if a≠0 then if fits (d.tdiv a)then if a≠0 then if fits (c.tdiv a)then oB (w8 N (d.tdiv a) (c.tdiv a)) fun h=>(bif !h then some (0,1,false)else some ((d.tdiv a),(c.tdiv a),true))else none else none else none else none) fun f=>bif decide (b<0)then if fits (0-e)then if fits (0-b)then f ((0-e),(0-b),0,0)else none else none else f (e,b,0,0))
theorem afH :aB 341 (aM [ab,ab] [.bM [sI,bj]] (cH (A8 N))):=
 aG (an (OX N) (an (OO N) aE)) func341 rfl N (ah (.meet afi .no .no)) _
def AP (c:Int) (b:Int):Option (Int×Int×Bool):=
 (oB (fb N c (-1000000000) 1000000000) fun d=>bif !d then some (0,1,false)else oB (fb N b (-1000000000) 1000000000) fun e=>bif !e then some (0,1,false)else bif decide (b=0)then some (0,1,false)else oB (A8 N c b) fun a=>some (a.1,a.2.1,a.2.2))
theorem ahh :aB 321 (aM [ab,ab] [.bM [sI,bj]] (cH (AP N))):=
 aG (an (ki N) (an (afH N) aE)) func321 rfl N .no _
def aiw :ay:=⟨ab::ab::ab::ab::ab::al 5 (.box 10 0:: .dead::ab::al 53 []),[(10,false,[ab,ab])]⟩
def zY (i:Int) (h:Int) (l:Int) (f:Int) (m:Int):Option (Int×Int×Bool):=
 (oB (fb N i 1 80) fun r=>bif !r then some (0,1,false)else oB (fb N h i 80) fun v=>bif !v then some (0,1,false)else oB (fb N f 1 16) fun n=>bif !n then some (0,1,false)else oB (fb N m 1 f) fun w=>bif !w then some (0,1,false)else oB (fb N l h 1280) fun q=>bif !q then some (0,1,false)else iter (fun u (b,c,e,d,j,a,o,t)=>if fits (a+1)then if 0<=(a+1)then if fits (j*2^(min (a+1).toNat (IntKind.bits .i64)))then bif decide ((j*2^(min (a+1).toNat (IntKind.bits .i64)))<=d)then if fits (a+1)then u (b,c,e,d,j,(a+1),o,t)else none else(if fits (22*b)then if fits (a+1)then if fits ((22*b)*(a+1))then if fits (10*b)then if fits ((10*b)+3)then if fits (9*c)then if fits ((9*c)*d)then if e≠0 then if fits (((9*c)*d).tdiv e)then if fits (((10*b)+3)+(((9*c)*d).tdiv e))then oB (AP N ((22*b)*(a+1)) (((10*b)+3)+(((9*c)*d).tdiv e))) fun k=>(some (k.1,k.2.1,k.2.2))else none else none else none else none else none else none else none else none else none else none)else none else none else none) N (i,h,l,f,m,(0:Int),(0:Int),(0:Int)))
theorem ae9 :aB 273 (aM [ab,ab,ab,ab,ab] [.bM [sI,bj]] (fN (zY N))):=
 aG (an (ki N) (an (ahh N) aE)) func273 rfl N (ah (ah (ah (.seq (aT aiw) .no)))) _
def wJ (c:Int) (a:Int) (b:Int):et:=
 (oB (w8 N c a) fun d=>bif !d then some 0 else oB (fb N b 1 1000) fun e=>bif !e then some 0 else if fits (c*b)then bif decide ((0:Int)<=(c*b))then if a≠0 then if fits ((c*b).tdiv a)then some ((c*b).tdiv a)else none else none else(if fits (0-(c*b))then if fits ((0-(c*b))+a)then if fits (((0-(c*b))+a)-1)then if a≠0 then if fits ((((0-(c*b))+a)-1).tdiv a)then if fits (0-((((0-(c*b))+a)-1).tdiv a))then some (0-((((0-(c*b))+a)-1).tdiv a))else none else none else none else none else none else none)else none)
theorem afe :aB 275 (aM [sI,ab] [ab] (eH (wJ N))):=
 aG (an (OO N) (an (ki N) aE)) func275 rfl N .no _
def afP :ay:=⟨.ptr nu::aI::aI::ab::al 5 (.ag dh::ab::al 16 (.ag dj::ab::ab::al 49 [])),[]⟩
def tS (c:((List ae)×(List bZ))×(List br)×(List bJ)) (m:ae) (n:ae) (o:Int):et:=
 (oB (tR N c m n o) fun k=>bif decide ((k.length:Int)=0)then some 0 else iter (fun v (a,b,h,i,p,e,f,q,d)=>bif decide (d<q)then oB (idx f d) fun u=>(oB (wL N a.2 a.1.1 a.1.2 b u.1) fun l=>if fits (e+l)then if fits (d+1)then v (a,b,h,i,p,(e+l),f,q,(d+1))else none else none)else oB (wL N a.2 a.1.1 a.1.2 b i) fun r=>oB (wM N a.2 b h) fun w=>oB (zY N (p.length:Int) r e (a.2.1.length:Int) (w.length:Int)) fun j=>oB (wJ N j.1 j.2.1 1000) fun x=>some x) N (c,m,n,o,k,(0:Int),c.2.1,(c.2.1.length:Int),(0:Int)))
theorem O9 :aB 199 (aM [.ptr nu,aI,aI,ab] [ab] (dE (tS N))):=
 aG (an (GZ N) (an (afc N) (an (Oh N) (an (ae9 N) (an (afe N) aE))))) func199 rfl N (ah (ah (ah (ah (.seq (ah (aT afP)) .no))))) _
def BE (N:Nat) (b:List ae) (a:ae):Option (ae):=xg b a
 
def aaR (N:Nat):Model:=⟨⟨[bP,aI],[]⟩,⟨[aI],[]⟩,cH (BE N)⟩
theorem aaT :aB 208 (aaR N):=aba
def aa1 :ay:=⟨.ag (.av dh)::al 4 (.ag (.av dh)::ab::ab::al 10 []),[]⟩
def Bs (b:List (List Int)):cW:=
 (iter (fun f (e,c,d,a)=>bif decide (a<d)then oB (idx c a) fun i=>(oB (xe N i) fun j=>bif !j then some false else if fits (a+1)then f (e,c,d,(a+1))else none)else some (decide ((e.length:Int)<=6))) N (b,b,(b.length:Int),(0:Int)))
theorem abB :aB 343 (aM [.ag (.av dh)] [bj] (dM (Bs N))):=
 aG (an (Ni N) aE) func343 rfl N (ah (.seq (ah (aT aa1)) .no)) _
def Hd (a:List (List Int)):cW:=
 (bif decide ((0:Int)<a.length)then oB (Bs N a) fun b=>(some b)else some false)
theorem abA :aB 323 (aM [.ag (.av dh)] [bj] (dM (Hd N))):=
 aG (an (abB N) aE) func323 rfl N .no _
def Bu (a:Int) (b:Int):cW:=
 (oB (qp N a) fun c=>bif c then oB (qp N b) fun d=>(bif !d then some true else some (decide (a<b)))else some (decide (a<b)))
theorem aaH :aB 348 (aM [ab,ab] [bj] (cH (Bu N))):=
 aG (an (O5 N) aE) func348 rfl N .no _
def xk (N:Nat) (a:Int):cW:=
 (some (!decide (a=a)))
theorem abr :aB 349 (aM [ab] [bj] (dM (xk N))):=
 aG aE func349 rfl N .no _
def aaO :ay:=⟨.ag dh::ab::al 4 (ab::ab::ab::al 45 []),[]⟩
def Bq (e:List Int) (l:Int):Option (Int×Bool):=
 (iter (fun h (c,d,f,a,b)=>bif decide (a<b)then if fits (a+b)then if 0<=(1:Int)then oB (idx c (IntKind.i64.wrap ((IntKind.u64.wrap (a+b)).fdiv (2^(min (1:Int).toNat (IntKind.bits .u64)))))) fun n=>(oB (Bu N n d) fun o=>bif o then if fits ((IntKind.i64.wrap ((IntKind.u64.wrap (a+b)).fdiv (2^(min (1:Int).toNat (IntKind.bits .u64)))))+1)then h (c,d,f,((IntKind.i64.wrap ((IntKind.u64.wrap (a+b)).fdiv (2^(min (1:Int).toNat (IntKind.bits .u64)))))+1),b)else none else h (c,d,f,a,(IntKind.i64.wrap ((IntKind.u64.wrap (a+b)).fdiv (2^(min (1:Int).toNat (IntKind.bits .u64)))))))else none else none else bif decide (a<f)then oB (idx c a) fun j=>(bif decide (j=d)then some (a,true)else oB (idx c a) fun p=>oB (xk N p) fun k=>bif k then oB (xk N d) fun i=>(some (a,i))else some (a,false))else some (a,false)) N (e,l,(e.length:Int),(0:Int),(e.length:Int)))
theorem abJ :aB 344 (aM [.ag dh,ab] [.bM [ab,bj]] (cH (Bq N))):=
 aG (an (aaH N) (an (abr N) aE)) func344 rfl N (ah (ah (ah (.seq (aT aaO) .no)))) _
def BC (a:List Int) (d:Int):Option (Int×Bool):=
 (oB (Bq N a d) fun b=>bif decide (b.1=(a.length:Int))then some (0,false)else oB (idx a b.1) fun c=>some (c,true))
theorem aaL :aB 324 (aM [.ag dh,ab] [.bM [ab,bj]] (cH (BC N))):=
 aG (an (abJ N) aE) func324 rfl N .no _
def aaZ :ay:=⟨.ag (.av dh)::ab::al 3 (.own 600005 a8 3 true::al 20 (.ag dh::ab::ab::al 42 [])),[]⟩
def abY :ay:=⟨.ag (.av dh)::ab::al 3 (.own 600005 a8 3 true:: .dead::ab::ab::bj::al 16 (.ag dh::ab::ab::al 5 (.ag (.av dh)::ab::ab::al 34 []))),[]⟩
def BF (l:List (List Int)) (B:Int):Option ((List Int)):=
 (oB (Hd N l) fun C=>bif !C then some ([]:List Int)else oB (fb N B 0 5) fun E=>bif !E then some ([]:List Int)else oB (idx l 0) fun x=>iter (fun p (n,D,z,A,t,q)=>bif decide (q<t)then oB (idx A q) fun u=>(oB (cut n 1 (n.length:Int)) fun y=>iter (fun v (a,d,f,c,r,w,i,h,b,k,o,e)=>bif decide (e<o)then oB (idx k e) fun G=>(if fits (r+1)then oB (BC N G (r+1)) fun j=>(bif w then if fits (e+1)then v (a,d,f,c,j.1,j.2,i,h,b,k,o,(e+1))else none else if fits (e+1)then v (a,d,f,c,j.1,false,i,h,b,k,o,(e+1))else none)else none)else bif w then if fits (c+(a.length:Int))then if fits ((c+(a.length:Int))-1)then if fits (((c+(a.length:Int))-1)+d)then bif decide (r<=(((c+(a.length:Int))-1)+d))then if room f.length ([c]:List Int).length 8 then if fits (b+1)then p (a,d,(f++([c]:List Int)),i,h,(b+1))else none else none else(if fits (b+1)then p (a,d,f,i,h,(b+1))else none)else none else none else none else if fits (b+1)then p (a,d,f,i,h,(b+1))else none) N (n,D,z,u,u,true,A,t,q,y,(y.length:Int),(0:Int)))else some z) N (l,B,([]:List Int),x,(x.length:Int),(0:Int)))
theorem abm :aB 276 (aM [.ag (.av dh),ab] [.own 1 a8 3 true] (cH (BF N))):=
 aG (an (abA N) (an (ki N) (an (aaL N) aE))) func276 rfl N (ah (ah (ah (.seq (ah (.block (.loop aaZ (ah (ah (.seq (.block (ah (ah (.seq (ah (aT abY)) .no)))) .no)))))) .no)))) _
def abp :ay:=⟨.ptr nu::al 3 (.box 4 0:: .box 5 0:: .dead:: .own 600007 hY 114 true:: .own 600008 dh 72 true::ab::al 18 (.ag fw::ab::ab::al 59 [])),[(4,false,[ab,aI,bP,ab,ab,.ag (.av .q)]),(5,false,[ab,.ag eB,.ag fw])]⟩
def abI :ay:=⟨.ptr nu::al 3 (.box 4 0:: .box 5 0:: .dead:: .own 600007 hY 114 true:: .own 600008 dh 72 true::ab::ab:: .box 11 0:: .own 600012 a8 3 true::al 15 (.ag fw::ab::ab::al 12 (.ag dh::ab::ab::al 44 []))),[(4,false,[ab,aI,bP,ab,ab,.ag (.av .q)]),(5,false,[ab,.ag eB,.ag fw]),(11,false,[aI,ab])]⟩
def Br (x:((List ae)×(List bZ))×(List br)×(List bJ)) (q:Int) (I:ae) (B:List ae) (J:Int) (K:Int) (L:List bf) (d:Int) (d2:bl) (d3:dq):et:=
 (oB (BE N B ([32]:ae)) fun r=>oB (rY N x.1.1 x.1.2 r) fun s=>bif decide ((s.length:Int)=0)then some 0 else iter (fun go (C,dv,lists,all,t28,t29,t30,M,F,O,p,z,A,d4,d5,d6)=>bif decide (t30<t29)then oB (idx t28 t30) fun e=>(oB (tR N C F e.1 d4) fun G=>iter (fun go2 (u,a,b,c,i,list,t282,t292,t302,t43,t44,t45,g,f,h,j,k,l,d7,d8,d9,t,t2)=>bif decide (t45<t44)then oB (idx t43 t45) fun v=>(oB (idx a 0) fun o=>if fits (t2-o.2)then if fits ((t2-o.2)-i)then if fits (v-((t2-o.2)-i))then bif decide ((0:Int)<=(v-((t2-o.2)-i)))then if room list.length ([(v-((t2-o.2)-i))]:List Int).length 8 then if fits (t45+1)then go2 (u,a,b,c,i,(list++([(v-((t2-o.2)-i))]:List Int)),t282,t292,t302,t43,t44,(t45+1),g,f,h,j,k,l,d7,d8,d9,t,t2)else none else none else(if fits (t45+1)then go2 (u,a,b,c,i,list,t282,t292,t302,t43,t44,(t45+1),g,f,h,j,k,l,d7,d8,d9,t,t2)else none)else none else none else none)else if room b.length ([list]:List (List Int)).length 24 then oB (tS N u f t d7) fun H=>(if fits (c+H)then if fits (t302+1)then go (u,a,(b++([list]:List (List Int))),(c+H),t282,t292,(t302+1),g,f,h,j,k,l,d7,d8,d9)else none else none)else none) N (C,dv,lists,all,t30,([]:List Int),t28,t29,t30,G,(G.length:Int),(0:Int),M,F,O,p,z,A,d4,d5,d6,e.1,e.2))else oB (BF N lists p) fun y=>if fits ((if(y.length:Int)<3 then(y.length:Int)else 3)*all)then some ((if(y.length:Int)<3 then(y.length:Int)else 3)*all)else none) N (x,s,([]:List (List Int)),(0:Int),s,(s.length:Int),(0:Int),q,I,B,J,K,L,d,d2,d3))
theorem abE :aB 201 (aM [.ptr nu,.agg [ab,aI,bP,ab,ab,.ag (.av .q)],js] [ab] (yP (Br N))):=
 aG (an (aaT N) (an (Bi N) (an (GZ N) (an (O9 N) (an (abm N) aE))))) func201 rfl N (ah (ah (ah (ah (ah (.seq (ah (.block (.loop abp (ah (ah (.seq (.block (ah (ah (.seq (ah (aT abI)) .no)))) .no)))))) .no)))))) _
def ais :ay:=⟨.dead::aI::al 3 (.own 600005 .str 9 true::al 6 (.ag hs::ab::ab::al 14 [])),[]⟩
def rG (h:(List br)×(List bJ)) (j:ae):Option ((List ae)):=
 (iter (fun i (e,b,c,d,a)=>bif decide (a<d)then oB (idx c a) fun f=>(bif decide (f.1=e)then if room b.length ([f.2.1]:List ae).length 16 then if fits (a+1)then i (e,(b++([f.2.1]:List ae)),c,d,(a+1))else none else none else if fits (a+1)then i (e,b,c,d,(a+1))else none)else some b) N (j,([]:List ae),h.2,(h.2.length:Int),(0:Int)))
theorem afW :aB 202 (aM [.ptr yy,aI] [ng] (cH (rG N))):=
 aG aE func202 rfl N (ah (ah (.seq (ah (aT ais)) .no))) _
def abF :ay:=⟨aI::aI::al 3 (.aw 600005 a8 3 true::al 18 (ab::ab::al 62 [])),[]⟩
def aaS :ay:=⟨aI::aI::al 3 (.aw 600005 a8 3 true:: .dead::ab::al 80 []),[]⟩
def abw :ay:=⟨aI::aI::al 3 (.aw 600005 a8 3 true:: .dead::ab::ab::ab::al 78 []),[]⟩
def aaK :ay:=⟨aI::aI::al 3 (.aw 600005 a8 3 true:: .dead::ab:: .dead::ab::ab::al 77 []),[]⟩
def aaM :ay:=⟨aI::aI::al 3 (.aw 22 a8 3 true::al 82 []),[]⟩
def abO :ay:=⟨aI::aI::al 86 [],[]⟩
def zW (a:ae) (b:ae):et:=
 (meet (fun(g:ae×ae)=>match g with|(a2,ba)=>meet (fun(g:ae×ae×(List Int))=>match g with|(a3,e0,row)=>iter (fun go (a4,y,l,t24,t25)=>bif decide (t25<t24)then if 0<=t25/\t25<(l.length:Int)then oB (l[t25.toNat]?) fun e=>(if fits (t25+1)then go (a4,y,(l.set t25.toNat t25),t24,(t25+1))else none)else none else iter (fun go2 (a5,t,f,i)=>bif decide (i<=(a5.length:Int))then if 0<=(0:Int)/\(0:Int)<f.length then oB (f[(0:Int).toNat]?) fun A=>(if 0<=(0:Int)/\(0:Int)<f.length then oB (f[(0:Int).toNat]?) fun K=>(iter (fun v (u,p,o,i2,h,j)=>bif decide (j<=(p.length:Int))then meet (fun(g:JJ)=>match g with|(B,C,d,i3,k,cost)=>if 0<=k/\k<(d.length:Int)then oB (d[k.toNat]?) fun F=>(if 0<=k/\k<(d.length:Int)then oB (d[k.toNat]?) fun s=>(if fits (s+1)then if fits (k-1)then if 0<=(k-1)/\(k-1)<(d.length:Int)then oB (d[(k-1).toNat]?) fun x=>(if fits (x+1)then if 0<=k/\k<(d.length:Int)then oB (d[k.toNat]?) fun L=>(if fits (k+1)then v (B,C,(d.set k.toNat (if(x+1)<(if(s+1)<cost then s+1 else cost)then x+1 else if(s+1)<cost then s+1 else cost)),i3,F,(k+1))else none)else none else none)else none else none else none)else none)else none) fun z=>(if fits (i2-1)then oB (idx u (i2-1)) fun c=>(if fits (j-1)then oB (idx p (j-1)) fun c2=>(bif !decide ((c.toNat:Int)=(c2.toNat:Int))then if fits (h+1)then z (u,p,o,i2,j,(h+1))else none else z (u,p,o,i2,j,h))else none)else none)else if fits (i2+1)then go2 (u,p,o,(i2+1))else none) N (a5,t,(f.set (0:Int).toNat i),i,A,(1:Int)))else none)else none else if 0<=(t.length:Int)/\(t.length:Int)<(f.length:Int)then oB (f[(t.length:Int).toNat]?) fun G=>(some G)else none) N (a4,y,l,(1:Int))) N (a3,e0,row,(row.length:Int),(0:Int))) fun H=>if fits ((ba.length:Int)+1)then if((ba.length:Int)+1)=((ba.length:Int)+1)/\0<=((ba.length:Int)+1)/\((ba.length:Int)+1)*8<=140737488355328/\((ba.length:Int)+1)<=140737488355328 then H (a2,ba,(List.replicate ((ba.length:Int)+1).toNat 0))else none else none) fun J=>oB (iO N a) fun r=>bif !r then some (-1)else oB (iO N b) fun I=>bif !I then some (-1)else J (a,b))
theorem abX :aB 203 (aM [aI,aI] [ab] (cH (zW N))):=
 aG (an (o1 N) aE) func203 rfl N (ah (.meet abO .no (.meet aaM .no (.seq (ah (aT abF)) (.seq (ah (.block (.loop aaS (ah (.seq (.block (ah (ah (ah (.block (.loop abw (ah (.seq (.block (ah (.meet aaK .no .no))) .no)))))))) .no))))) .no))))) _ (wr:=[22])
def o3 (N:Nat):(D:Nat)->ae->ae->cW
 |0,_,_=>none
 |D+1,p,s=>
 bif decide (p=([]:ae))then
 some (decide (s=([]:ae)))
 else
 oB (idx p 0) fun c=>
 bif decide ((c.toNat:Int)=42)then
 oB (cut p 1 (p.length:Int)) fun y=>
 (oB (o3 N D y s) fun r=>
 bif r then
 some true
 else
 bif !decide (s=([]:ae))then
 oB (cut s 1 (s.length:Int)) fun a=>
 (oB (o3 N D p a) fun b=>
 some b)
 else
 some false)
 else
 bif decide (s=([]:ae))then
 some false
 else
 oB (idx p 0) fun c2=>
 bif decide ((c2.toNat:Int)=63)then
 oB (cut p 1 (p.length:Int)) fun d=>
 (oB (cut s 1 (s.length:Int)) fun e=>
 oB (o3 N D d e) fun f=>
 some f)
 else
 oB (idx p 0) fun c3=>
 oB (idx s 0) fun c4=>
 bif decide ((c3.toNat:Int)=(c4.toNat:Int))then
 oB (cut p 1 (p.length:Int)) fun g=>
 (oB (cut s 1 (s.length:Int)) fun h=>
 oB (o3 N D g h) fun i=>
 some i)
 else
 some false
def Bv (N D:Nat):Model:=⟨⟨[aI,aI],[]⟩,⟨[bj],[]⟩,cH (o3 N D)⟩
theorem aaV (N D:Nat) (a:aB 277 (Bv N D)):aB 277 (Bv N (D+1)):=
 aG (an a aE) func277 rfl N .no (Bv N (D+1))
theorem Np (N:Nat):∀D,aB 277 (Bv N D)
 |0=>o6 ⟨_,func277,by decide,by kernel_rfl⟩ _ (fun a=>rfl)
 |D+1=>aaV N D (Np N D)
def Bn (b:ae) (a:ae):cW:=
 (oB (xj N b) fun d=>bif d then oB (iO N a) fun e=>(bif e then oB (o3 N N b a) fun c=>(some c)else some false)else some false)
theorem abQ :aB 204 (aM [aI,aI] [bj] (cH (Bn N))):=
 aG (an (Ps N) (an (o1 N) (an (Np N N) aE))) func204 rfl N .no _
def abz :ay:=⟨.dead::aI::al 8 (.ag fw::ab::ab::al 10 []),[]⟩
def BB (l:Int) (m:bl) (b:dq) (h:ae):et:=
 (oB (oW N l m b) fun k=>bif k then iter (fun i (c,e,d,a)=>bif decide (a<d)then oB (idx e a) fun f=>(bif decide (f.1=c)then some f.2 else if fits (a+1)then i (c,e,d,(a+1))else none)else some (-1)) N (h,b,(b.length:Int),(0:Int))else some (-1))
theorem aaY :aB 206 (aM [js,aI] [ab] (dE (BB N))):=
 aG (an (Bj N) aE) func206 rfl N (ah (.seq (ah (.cond (ah (aT abz)) .no)) .no)) _
def abP :ay:=⟨.ptr nu::al 3 (.box 4 0:: .box 5 0:: .dead::ab::al 43 (.own 600051 .str 9 true::ab::ab::al 122 [])),[(4,false,[ab,aI,bP,ab,ab,.ag (.av .q)]),(5,false,[ab,.ag eB,.ag fw])]⟩
def abj :ay:=⟨.ptr nu::al 3 (.box 4 0:: .box 5 0::al 83 (.own 600089 .str 9 true::ab::ab::al 84 [])),[(4,false,[ab,aI,bP,ab,ab,.ag (.av .q)]),(5,false,[ab,.ag eB,.ag fw])]⟩
def abV :ay:=⟨.ptr nu::al 3 (.box 4 0:: .box 5 0::al 7 (ab::al 140 (.ag (.av .q)::ab::ab::al 19 []))),[(4,false,[ab,aI,bP,ab,ab,.ag (.av .q)]),(5,false,[ab,.ag eB,.ag fw])]⟩
def kg (N:Nat):(D:Nat)->yz->Int->ae->(List ae)->Int->Int->(List bf)->Int->eP->mu->et
 |0,_,_,_,_,_,_,_,_,_,_=>none
 |D+1,x,q,f,v,h,y,c,d,d2,d3=>
 bif decide (q=1)then
 some 100
 else
 bif decide (q=2)then
 oB (idx v 0) fun e=>
 (oB (Bt N x.1.1 x.1.2 e) fun r=>
 oB (tS N x f r d) fun kP=>
 some kP)
 else
 bif decide (q=3)then
 oB (Br N x q f v h y c d d2 d3) fun qG=>
 (some qG)
 else
 bif decide (q=4)then
 oB (rG N x.2 f) fun qH=>
 (iter (fun go (g:yz×Int×(List ae)×Int×Int×Int×ae×(List ae)×Int×Int×(List bf)×Int×eP×mu)=>
 match g with
 |(Q,a,t51,t52,t53,Ct,S,T,i,z,A,d4,d5,d6)=>
 bif decide (t53<t52)then
 oB (idx t51 t53) fun cb=>
 (oB (idx T 0) fun di=>
 oB (zW N cb di) fun o=>
 oB (fb N o 0 i) fun qI=>
 bif qI then
 oB (tS N Q S cb d4) fun P=>
 (if fits (3-o)then if fits (P*(3-o))then if 3≠0 then
 if fits ((P*(3-o)).tdiv 3)then if fits (t53+1)then go (Q,(if((P*(3-o)).tdiv 3)>a then(P*(3-o)).tdiv 3 else a),t51,t52,(t53+1),Ct,S,T,i,z,A,d4,d5,d6)else none else none
 else none else none else none)
 else
 if fits (t53+1)then go (Q,a,t51,t52,(t53+1),Ct,S,T,i,z,A,d4,d5,d6)else none)
 else
 some a) N (x,0,qH,(qH.length:Int),0,q,f,v,h,y,c,d,d2,d3))
 else
 bif decide (q=5)then
 oB (rG N x.2 f) fun pn=>
 (iter (fun go2 (g:yz×(List ae)×Int×Int×Int×ae×(List ae)×Int×Int×(List bf)×Int×eP×mu)=>
 match g with
 |(U,t89,t90,t91,B,j,k,C,F,G,d7,d8,d9)=>
 bif decide (t91<t90)then
 oB (idx t89 t91) fun gA=>
 (oB (idx k 0) fun fO=>
 oB (Bn N fO gA) fun II=>
 bif II then
 oB (tR N U j gA d7) fun V=>
 (bif decide ((0:Int)<V.length)then
 some 100
 else
 if fits (t91+1)then go2 (U,t89,t90,(t91+1),B,j,k,C,F,G,d7,d8,d9)else none)
 else
 if fits (t91+1)then go2 (U,t89,t90,(t91+1),B,j,k,C,F,G,d7,d8,d9)else none)
 else
 some 0) N (x,pn,(pn.length:Int),0,q,f,v,h,y,c,d,d2,d3))
 else
 bif decide (q=6)then
 oB (BB N d d2 d3 f) fun W=>
 (oB (fb N W h y) fun X=>
 bif X then
 some 100
 else
 some 0)
 else
 bif decide (q=10)then
 oB (idx c 0) fun p=>
 (oB (kg N D x p.kind p.field p.words p.lo p.hi p.kids d d2 d3) fun H=>
 if fits (h*H)then some (h*H)else none)
 else
 bif decide (q=9)then
 oB (idx c 1) fun s=>
 (oB (kg N D x s.kind s.field s.words s.lo s.hi s.kids d d2 d3) fun Y=>
 bif decide ((0:Int)<Y)then
 some 0
 else
 oB (idx c 0) fun t=>
 oB (kg N D x t.kind t.field t.words t.lo t.hi t.kids d d2 d3) fun Z=>
 some Z)
 else
 iter (fun I (g:yz×Int×(List bf)×Int×Int×Int×ae×(List ae)×Int×Int×(List bf)×Int×eP×mu)=>
 match g with
 |(JA,all,t154,t155,t156,l,J,K,L,M,O,d10,d11,d12)=>
 bif decide (t156<t155)then
 oB (idx t154 t156) fun u=>
 (oB (kg N D JA u.kind u.field u.words u.lo u.hi u.kids d10 d11 d12) fun b=>
 bif decide (b=0)then
 bif decide (l=7)then
 some 0
 else
 (if fits (all+b)then if fits (t156+1)then I (JA,(all+b),t154,t155,(t156+1),l,J,K,L,M,O,d10,d11,d12)else none else none)
 else
 if fits (all+b)then if fits (t156+1)then I (JA,(all+b),t154,t155,(t156+1),l,J,K,L,M,O,d10,d11,d12)else none else none)
 else
 some all) N (x,0,c,(c.length:Int),0,q,f,v,h,y,c,d,d2,d3)
def Bo (N D:Nat):Model:=⟨⟨[.ptr nu,.agg [ab,aI,bP,ab,ab,.ag (.av .q)],js],[]⟩,⟨[ab],[]⟩,yP (kg N D)⟩
theorem aa6 (N D:Nat) (a:aB 134 (Bo N D)):aB 134 (Bo N (D+1)):=
 aG (an a (an (aa4 N) (an (O9 N) (an (abE N) (an (afW N) (an (abX N) (an (ki N) (an (abQ N) (an (GZ N) (an (aaY N) aE)))))))))) func134 rfl N (ah (.seq (ah (.block (ah (.cond .no (ah (.cond .no (ah (.cond .no (ah (.cond (ah (.seq (ah (aT abP)) .no)) (ah (.cond (.seq (ah (aT abj)) .no) .no)))))))))))) (ah (.seq (ah (aT abV)) .no)))) (Bo N (D+1))
theorem PM (N:Nat):∀D,aB 134 (Bo N D)
 |0=>o6 ⟨_,func134,by decide,by kernel_rfl⟩ _ (fun a=>rfl)
 |D+1=>aa6 N D (PM N D)
def aaW :ay:=⟨al 5 (.box 5 0:: .dead:: .own 600007 cm 98 true:: .box 26 0::al 19 (.ag dj::ab::ab::al 18 [])),[(5,false,[ab,aI,bP,ab,ab,.ag (.av .q)]),(26,true,[bP,.ag df,.ag dj,.ag hs])]⟩
def z7 (t:List ae) (x:List bZ) (d:List br) (C:List bJ) (w:Int) (y:ae) (u:List ae) (z:Int) (v:Int) (B:List bf):Option (iH):=
 (oB (tO N t x d C) fun E=>bif !E then some ([]:fx)else oB (tN N w y u z v B) fun G=>bif !G then some ([]:fx)else iter (fun A (c,p,r,a,o,l,i,m,n,h,f,j,q,k)=>bif decide (a<r)then oB (idx p a) fun b=>(oB (kg N N ((f,j),q,k) o l i m n h b.1 b.2.1 b.2.2) fun e=>bif decide ((0:Int)<e)then if room c.length ([(b.1,e)]:fx).length 16 then if fits (a+1)then A ((c++([(b.1,e)]:fx)),p,r,(a+1),o,l,i,m,n,h,f,j,q,k)else none else none else if fits (a+1)then A (c,p,r,(a+1),o,l,i,m,n,h,f,j,q,k)else none)else some c) N (([]:fx),d,(d.length:Int),(0:Int),w,y,u,z,v,B,t,x,d,C))
theorem aa2 :aB 66 (aM [gj,ve,.agg [ab,aI,bP,ab,ab,.ag (.av .q)]] [Dp] (yP (z7 N))):=
 aG (an (O6 N) (an (Nq N) (an (PM N N) aE))) func66 rfl N (ah (ah (ah (ah (.seq (ah (aT aaW)) .no))))) _
def z6 (e:Int) (c:Int) (b:Int) (h:Int):et:=
 (oB (ur N h c) fun f=>oB (ur N e b) fun d=>oB (w7 N ([f,d]:List Int)) fun a=>some a)
theorem r2 :aB 136 (aM [sI,sI] [ab] (dE (z6 N))):=
 aG (an (O7 N) (an (OL N) aE)) func136 rfl N .no _
def jD (N:Nat):(Unit)->(Int×Int)->(Int×Int)->Option Int:=(fun(cmp:Unit) (e a:Int×Int)=>z6 N e.1 e.2 a.1 a.2)
def ajE :ay:=⟨.aw 800000 cm 98 true::ab::ab:: .aU 136 []::al 4 (ab::al 44 []),[]⟩
def ajo :ay:=⟨.aw 800000 cm 98 true::ab::ab:: .aU 136 []::al 4 (ab::ab::al 43 []),[]⟩
def ai4 (a:fx) (d:Int) (b:Int) (c:Unit):Option (iH):=rL (jD N) N a d b c
 
theorem ajm :aB 278 (aM [.aw 800000 cm 98 true,ab,ab,.aU 136 []] [fB,.aw 800000 cm 98 true] (dE (ai4 N))):=
 aG (an (r2 N) aE) func278 rfl N (ah (.block (.loop ajE (ah (.seq (.block (ah (aT ajo))) .no))))) _ (rs:=[800000])
def aiZ :ay:=⟨.aw 800000 cm 98 true:: .dead::ab::ab:: .aU 136 []::al 5 (ab::al 71 []),[]⟩
def ajA :ay:=⟨.aw 800000 cm 98 true:: .dead::ab::ab:: .aU 136 []::al 5 (ab::ab::al 70 []),[]⟩
def ajd (e:fx) (c:Int) (d:Int) (a:Int) (b:Unit):Option (iH):=qP (jD N) N e c d a b
 
theorem ajy :aB 325 (aM [.aw 800000 cm 98 true,ab,ab,ab,.aU 136 []] [fB,.aw 800000 cm 98 true] (fN (ajd N))):=
 aG (an (r2 N) aE) func325 rfl N (ah (.block (.loop aiZ (.block (ah (ah (.meet ajA .no .no))))))) _ (rs:=[800000])
def ajI :ay:=⟨.aw 800000 cm 98 true:: .dead:: .dead:: .aU 136 []::al 4 (ab::ab::ab::ab::al 48 []),[]⟩
def ajq :ay:=⟨.aw 800000 cm 98 true:: .dead:: .dead:: .aU 136 []::al 4 (ab::ab:: .dead:: .dead::ab::al 47 []),[]⟩
def ai9 (a:fx) (d:Int) (b:Int) (c:Unit):Option (iH):=ld (jD N) N a d b c
 
theorem ajF :aB 279 (aM [.aw 800000 cm 98 true,ab,ab,.aU 136 []] [fB,.aw 800000 cm 98 true] (dE (ai9 N))):=
 aG (an (ajy N) aE) func279 rfl N (ah (ah (ah (.seq (ah (aT ajI)) (ah (aT ajq)))))) _ (rs:=[800000])
def aji :ay:=⟨.aw 800000 cm 98 true::ab::al 6 (ab:: .box 9 0:: .ag (.int .u64)::ab::al 55 []),[(9,false,[.ag (.int .u64)])]⟩
def ajk :ay:=⟨.aw 800000 cm 98 true::ab::al 6 (ab:: .box 9 0:: .ag (.int .u64)::ab::ab::al 54 []),[(9,false,[.ag (.int .u64)])]⟩
def ajg (a:fx) (d:Int) (b:Int) (c:Unit):Option (iH):=q8 N a d b c
 
theorem ajt :aB 280 (aM [.aw 800000 cm 98 true,ab,ab,.aU 136 []] [fB,.aw 800000 cm 98 true] (dE (ajg N))):=
 aG (an (Bk N) (an (Bh N) aE)) func280 rfl N (ah (ah (.cond (ah (ah (ah (.block (.loop aji (ah (.seq (.block (ah (.meet ajk .no .no))) .no))))))) .no))) _ (rs:=[800000])
def aja (a:fx) (e:Int) (b:Int) (c:Unit) (d:Int):Option (Int×Int×iH×Int):=pg (jD N) N a e b c d
 
theorem ajn :aB 345 ⟨⟨[.aw 800000 cm 98 true,ab,ab,.box 900003 0,.aU 136 []],[(900003,false,[ab])]⟩,⟨[.bM [ab,ab],.aw 800000 cm 98 true],[(900003,false,[ab])]⟩,fN (aja N)⟩:=
 aG (an (r2 N) aE) func345 rfl N .no _ (rs:=[900003,800000])
def aje (d:fx) (f:Int) (b:Int) (a:Int) (c:Unit) (e:Int):Option (Int×iH×Int):=qw (jD N) N d f b a c e
 
theorem Pe :aB 327 ⟨⟨[.aw 800000 cm 98 true,ab,ab,ab,.box 900004 0,.aU 136 []],[(900004,false,[ab])]⟩,⟨[ab,.aw 800000 cm 98 true],[(900004,false,[ab])]⟩,nz (aje N)⟩:=
 aG (an (ajn N) aE) func327 rfl N .no _ (rs:=[900004,800000])
def ajb (a:fx) (d:Int) (c:Unit) (b:Int):Option (Int×iH×Int):=o5 (jD N) N a d c b
 
theorem ajB :aB 326 ⟨⟨[.aw 800000 cm 98 true,ab,.box 900002 0,.aU 136 []],[(900002,false,[ab])]⟩,⟨[ab,.aw 800000 cm 98 true],[(900002,false,[ab])]⟩,dE (ajb N)⟩:=
 aG (an (Pe N) aE) func326 rfl N .no _ (rs:=[900002,800000])
def ajG :ay:=⟨.aw 800000 cm 98 true:: .dead:: .dead:: .aU 136 []::al 7 (.box 11 0::ab::ab::ab::al 48 []),[(11,false,[ab])]⟩
def ajp :ay:=⟨.aw 800000 cm 98 true::al 10 (.box 11 0:: .dead::ab::al 49 []),[(11,false,[ab])]⟩
def ai2 (a:fx) (d:Int) (b:Int) (c:Unit):Option (Int×Int×iH):=q9 (jD N) N a d b c
 
theorem ajz :aB 281 (aM [.aw 800000 cm 98 true,ab,ab,.aU 136 []] [.bM [ab,ab],.aw 800000 cm 98 true] (dE (ai2 N))):=
 aG (an (ajB N) (an (Pe N) aE)) func281 rfl N (ah (ah (ah (ah (ah (ah (.meet ajp (ah (.cond (.meet ajG .no .no) .no)) .no))))))) _ (rs:=[800000])
def aiY :ay:=⟨.aw 800000 cm 98 true::al 7 (ab::ab::al 24 []),[]⟩
def ai3 (a:fx) (d:Int) (b:Int) (c:Unit):Option (iH):=sr N a d b c
 
theorem ajJ :aB 282 (aM [.aw 800000 cm 98 true,ab,ab,.aU 136 []] [fB,.aw 800000 cm 98 true] (dE (ai3 N))):=
 aG aE func282 rfl N (ah (ah (aT aiY))) _ (rs:=[800000])
def G3 :ay:=⟨.aw 800000 cm 98 true::ab::ab:: .aU 136 []::al 5 (ab::ab::al 130 []),[]⟩
def ajD :ay:=⟨.aw 800000 cm 98 true::ab::ab:: .aU 136 []::al 5 (ab::ab::ab::al 129 []),[]⟩
def ajw :ay:=⟨.aw 800000 cm 98 true::ab::ab:: .aU 136 []::al 5 (ab::ab:: .dead::ab::al 128 []),[]⟩
def ajh (a:fx) (d:Int) (b:Int) (c:Unit):Option (Bool×iH):=sj (jD N) N a d b c
 
theorem ajj :aB 283 (aM [.aw 800000 cm 98 true,ab,ab,.aU 136 []] [bj,.aw 800000 cm 98 true] (dE (ajh N))):=
 aG (an (r2 N) aE) func283 rfl N (ah (ah (.seq (ah (.block (.loop G3 (ah (.seq (.block (.seq (aT G3) (ah (ah (ah (.meet G3 (ah (.cond (ah (aT ajD)) .no)) (ah (.cond (ah (aT ajw)) .no)))))))) .no))))) .no))) _ (rs:=[800000])
def G4 :ay:=⟨.aw 800000 cm 98 true::ab:: .dead:: .dead:: .aU 136 []::al 6 (ab::ab::al 77 []),[]⟩
def ajc (d:fx) (e:Int) (b:Int) (a:Int) (c:Unit):Option (Int×iH):=ma (jD N) N d e b a c
 
theorem ajl :aB 284 (aM [.aw 800000 cm 98 true,ab,ab,ab,.aU 136 []] [ab,.aw 800000 cm 98 true] (fN (ajc N))):=
 aG (an (r2 N) aE) func284 rfl N (ah (ah (ah (.seq (.block (.loop G4 (.block (.seq (aT G4) (.seq (aT G4) .no))))) .no)))) _ (rs:=[800000])
def xd :ay:=⟨.aw 800000 cm 98 true::ab:: .dead:: .dead:: .aU 136 []::al 7 (ab::ab::al 164 []),[]⟩
def ajf (d:fx) (e:Int) (b:Int) (a:Int) (c:Unit):Option (Int×Bool×iH):=pj (jD N) N d e b a c
 
theorem ai1 :aB 285 (aM [.aw 800000 cm 98 true,ab,ab,ab,.aU 136 []] [.bM [ab,bj],.aw 800000 cm 98 true] (fN (ajf N))):=
 aG (an (r2 N) aE) func285 rfl N (ah (ah (ah (.seq (aT xd) (.seq (aT xd) (ah (ah (ah (ah (.seq (.block (.loop xd (.block (.seq (aT xd) (.seq (aT xd) .no))))) .no)))))))))) _ (rs:=[800000])
def aju :ay:=⟨.aw 800000 cm 98 true::ab::ab::ab:: .aU 136 []::al 5 (bj::bj::al 136 []),[]⟩
def ajr :ay:=⟨.aw 800000 cm 98 true::ab::ab::ab:: .aU 136 []::al 5 (bj::bj::ab::ab::al 134 []),[]⟩
def ajs :ay:=⟨.aw 800000 cm 98 true::ab::ab::ab:: .aU 136 []::al 5 (bj::bj::ab::ab::ab::al 133 []),[]⟩
def ajC :ay:=⟨.aw 800000 cm 98 true::ab::ab::ab:: .aU 136 []::al 5 (bj::bj::ab::al 135 []),[]⟩
def Pf (N D:Nat) (f:fx) (b a g:Int) (e:Unit):Option (iH):=lu (jD N) (fun d b a c=>ld (jD N) N d b a c) (fun d b a h c=>ma (jD N) N d b a h c) N D f b a g e
 
def Bm (N D:Nat):Model:=⟨⟨[.aw 800000 cm 98 true,ab,ab,ab,.aU 136 []],[]⟩,⟨[fB,.aw 800000 cm 98 true],[]⟩,fN (Pf N D)⟩
theorem ajH (N D:Nat) (a:aB 207 (Bm N D)):aB 207 (Bm N (D+1)):=
 aG (an a (an (ajm N) (an (ajF N) (an (ajt N) (an (ajz N) (an (ajJ N) (an (ajj N) (an (r2 N) (an (ajl N) (an (ai1 N) aE)))))))))) func207 rfl N (ah (ah (.block (.loop aju (.block (ah (ah (ah (.meet ajC .no (ah (.meet ajs .no (.meet ajr .no .no)))))))))))) (Bm N (D+1)) (rs:=[800000])
theorem Pd (N:Nat):∀D,aB 207 (Bm N D)
 |0=>o6 ⟨_,func207,by decide,by kernel_rfl⟩ _ (fun a=>rfl)
 |D+1=>ajH N D (Pd N D)
def BJ (a:fx) (d:Unit):Option (iH):=
 (oB (o4 N (IntKind.u64.wrap (a.length:Int))) fun b=>oB (Pf N N a 0 (a.length:Int) b ()) fun c=>some c)
theorem ajv :aB 135 (aM [.aw 800000 cm 98 true,.aU 136 []] [fB,.aw 800000 cm 98 true] (cH (BJ N))):=
 aG (an (xa N) (an (Pd N N) aE)) func135 rfl N .no _ (rs:=[800000])
def wO (c:fx) (b:Int):Option (iH):=
 (if room ([]:fx).length c.length 16 then oB (BJ N (([]:fx)++c) ()) fun a=>(oB (cut a 0 (if b<(a.length:Int)then b else(a.length:Int))) fun d=>if room ([]:fx).length d.length 16 then some (([]:fx)++d)else none)else none)
theorem ai0 :aB 67 (aM [.ag (.av cm),ab] [Dp] (cH (wO N))):=
 aG (an (ajv N) aE) func67 rfl N .no _ (wr:=[6,8,11,17,18])
def zZ (b:List ae) (e:List bZ) (i:List br) (o:List bJ) (m:Int) (f:ae) (d:List ae) (h:Int) (k:Int) (l:List bf) (a:Int):Option (iH):=
 (oB (fb N a 1 16) fun n=>bif !n then some ([]:fx)else oB (z7 N b e i o m f d h k l) fun j=>oB (wO N j a) fun c=>some c)
theorem abn :aB 48 (aM [gj,ve,.agg [ab,aI,bP,ab,ab,.ag (.av .q)],ab] [Dp] (Uo (zZ N))):=
 aG (an (ki N) (an (aa2 N) (an (ai0 N) aE))) func48 rfl N .no _
def wI (a:List ae) (b:List bZ) (h:List cL) (e:Int) (i:ae) (c:List ae) (j:Int) (d:Int) (l:List bf) (k:Int):Option (iH):=
 (oB (oX N a b h) fun n=>bif !n then some ([]:fx)else oB (tN N e i c j d l) fun o=>bif !o then some ([]:fx)else oB (fb N k 1 16) fun m=>bif !m then some ([]:fx)else oB (tP N h) fun p=>oB (rF N a b p) fun f=>oB (zZ N a b f.1 f.2 e i c j d l k) fun q=>some q)
theorem acI :aB 12 (aM [ly,.agg [ab,aI,bP,ab,ab,.ag (.av .q)],ab] [Dp] (yP (wI N))):=
 aG (an (AA N) (an (Nq N) (an (ki N) (an (NF N) (an (GY N) (an (abn N) aE)))))) func12 rfl N .no _
def ajK :ay:=⟨.ag (.av cm):: .ag (.av cm)::al 3 (ab::al 20 []),[]⟩
def Ar (e:fx) (c:fx):cW:=
 (bif !decide ((e.length:Int)=(c.length:Int))then some false else iter (fun i (b,h,a)=>bif decide (a<(b.length:Int))then oB (idx b a) fun f=>(oB (idx h a) fun d=>bif !((decide (f.1=d.1))&&(decide (f.2=d.2)))then some false else if fits (a+1)then i (b,h,(a+1))else none)else some true) N (e,c,(0:Int)))
theorem ajx :aB 11 (aM [.ag (.av cm),.ag (.av cm)] [bj] (cH (Ar N))):=
 aG aE func11 rfl N (ah (ah (.seq (ah (aT ajK)) .no))) _
def BR (h:List Int) (f:List Int):cW:=
 (bif decide ((1048576:Int)<h.length)then some true else bif decide ((1048576:Int)<f.length)then some true else oB (CA N h) fun a=>oB (CB N f) fun b=>oB (Aq N a.1 a.2.1 a.2.2.1 a.2.2.2.1 (-1)) fun c=>oB (wW N a.1 a.2.1 a.2.2.1 a.2.2.2.1 (-1)) fun d=>bif !decide (c.2=d.2)then bif decide (c.2=d.2)then oB (rP N c.1 d.1) fun l=>(some l)else(some false)else oB (rP N c.1 d.1) fun o=>bif !o then bif decide (c.2=d.2)then oB (rP N c.1 d.1) fun n=>(some n)else(some false)else bif decide (c.2<=0)then bif decide (c.2=d.2)then oB (rP N c.1 d.1) fun m=>(some m)else(some false)else oB (zQ N a.2.1 a.2.2.1 c.1) fun e=>oB (wI N e.1 e.2.1 e.2.2.1 b.2.2.2.1 b.2.2.2.2.1 b.2.2.2.2.2.1 b.2.2.2.2.2.2.1 b.2.2.2.2.2.2.2.1 b.2.2.2.2.2.2.2.2.1 16) fun j=>oB (wI N a.2.1 a.2.2.1 a.2.2.2.1 b.2.2.2.1 b.2.2.2.2.1 b.2.2.2.2.2.1 b.2.2.2.2.2.2.1 b.2.2.2.2.2.2.2.1 b.2.2.2.2.2.2.2.2.1 16) fun k=>oB (Ar N j k) fun i=>some i)
def M1 (N:Nat):Model:=⟨⟨[qB,qB],[]⟩,⟨[bj],[]⟩,cH (BR N)⟩
theorem aaD :aB 3 (M1 N):=
 aG (an (Z2 N) (an (adI N) (an (Zd N) (an (MH N) (an (YW N) (an (YN N) (an (acI N) (an (ajx N) aE)))))))) func3 rfl N .no (M1 N)
def G7 (a:List ae) (c:List bZ) (d:ae):Option (ae):=
 (oB (r0 N a c) fun h=>bif !h then some ([]:ae)else oB (nT N d) fun e=>bif !e then some ([]:ae)else oB (qn N a c d) fun b=>bif decide ((b.length:Int)=0)then some ([]:ae)else oB (idx b 0) fun f=>some f.1)
def CX (h:List br) (n:List bJ) (j:ae) (k:ae):Option (yA):=
 (iter (fun e (d,c,a,f,b)=>bif decide (a<(b.length:Int))then oB (idx b a) fun m=>(bif decide (m.1=d)then oB (idx b a) fun i=>(bif decide (i.2.1=c)then oB (idx b a) fun o=>(some o.2.2)else if fits (a+1)then e (d,c,(a+1),f,b)else none)else if fits (a+1)then e (d,c,(a+1),f,b)else none)else some ([]:cX)) N (j,k,(0:Int),h,n))
def xP (d:List br) (n:List bJ) (h:ae) (i:ae) (j:Int):Option ((List Int)):=
 (oB (CX N d n h i) fun m=>iter (fun f (c,b,a)=>bif decide (a<(b.length:Int))then oB (idx b a) fun l=>(bif decide (l.1=c)then oB (idx b a) fun e=>(some e.2)else if fits (a+1)then f (c,b,(a+1))else none)else some ([]:List Int)) N (j,m,(0:Int)))
def I3 (v:List br) (A:List bJ) (w:ae) (x:Int):et:=
 (iter (fun n (r,q,o,k,u,j)=>bif decide (k<(j.length:Int))then iter (fun l (f,e,d,a,c,h,b)=>oB (idx b a) fun t=>bif decide (c<(t.2.2.length:Int))then oB (idx b a) fun p=>(bif decide (p.1=f)then oB (idx b a) fun B=>(oB (idx B.2.2 c) fun y=>bif decide (y.1=e)then oB (idx b a) fun z=>(oB (idx z.2.2 c) fun m=>if fits (d+(m.2.length:Int))then if fits (c+1)then l (f,e,(d+(m.2.length:Int)),a,(c+1),h,b)else none else none)else if fits (c+1)then l (f,e,d,a,(c+1),h,b)else none)else if fits (a+1)then n (f,e,d,(a+1),h,b)else none)else if fits (a+1)then n (f,e,d,(a+1),h,b)else none) N (r,q,o,k,(0:Int),u,j)else some o) N (w,x,(0:Int),(0:Int),v,A))
def I1 (t:List br) (v:List bJ) (u:ae):et:=
 (iter (fun k (p,m,j,q,i)=>bif decide (j<(i.length:Int))then iter (fun o (e,c,a,d,h,b)=>oB (idx b a) fun r=>bif decide (d<(r.2.2.length:Int))then oB (idx b a) fun n=>(bif decide (n.1=e)then oB (idx b a) fun w=>(oB (idx w.2.2 d) fun l=>if fits (c+(l.2.length:Int))then if fits (d+1)then o (e,(c+(l.2.length:Int)),a,(d+1),h,b)else none else none)else if fits (a+1)then k (e,c,(a+1),h,b)else none)else if fits (a+1)then k (e,c,(a+1),h,b)else none) N (p,m,j,(0:Int),q,i)else some m) N (u,(0:Int),(0:Int),t,v))
def Gp (h:Int) (d:Int):et:=
 (iter (fun e (a,c,b)=>bif decide ((0:Int)<a)then if fits (a*2)then bif decide ((a*2)<=c)then if fits (a*2)then if fits (b+1)then e ((a*2),c,(b+1))else none else none else(some b)else none else some b) N (h,d,(0:Int)))
def AK (N:Nat):(D:Nat)->Int->Int->et
 |0,_,_=>none
 |D+1,a,b=>
 meet (fun(g:Int×Int)=>
 match g with
 |(a2,ba)=>
 bif decide (ba=0)then
 some a2
 else
 if ba≠0 then
 oB (AK N D ba (a2.tmod ba)) fun r=>
 (some r)
 else none) fun J=>
 bif decide (a<0)then
 if fits (0-a)then J ((0-a),b)else none
 else
 J (a,b)
def Gw (d:Int) (b:Int):Option (Int×Int):=
 (meet (fun(h:Int×Int×Int×Int)=>match h with|(c,e,j,i)=>oB (AK N N c e) fun a=>if a≠0 then if fits (c.tdiv a)then if a≠0 then if fits (e.tdiv a)then some ((c.tdiv a),(e.tdiv a))else none else none else none else none) fun f=>bif decide (b<0)then if fits (0-d)then if fits (0-b)then f ((0-d),(0-b),0,0)else none else none else f (d,b,0,0))
def I0 (k:Int) (c:Int) (d:Int) (a:Int) (i:Int):Option (Int×Int):=
 (meet (fun(n:Int×Int×Int×Int×Int×Int)=>match n with|(b,l,m,h,o,p)=>oB (Gp N m l) fun e=>if fits (1+e)then if fits ((1+e)*22)then if fits (((1+e)*22)*b)then if fits (10*b)then if fits ((10*b)+3)then if fits (((10*b)+3)+h)then oB (Gw N (((1+e)*22)*b) (((10*b)+3)+h)) fun f=>(some (f.1,f.2))else none else none else none else none else none else none) fun j=>bif decide ((0:Int)<d)then if fits (c*a)then if fits ((c*a)*9)then if d≠0 then if fits (((c*a)*9).tdiv d)then j (k,a,i,(((c*a)*9).tdiv d),0,0)else none else none else none else none else j (k,a,i,1,0,0))
def xQ (b:List br) (d:List bJ) (c:ae) (e:ae) (f:Int):et:=
 (oB (xP N b d c e f) fun h=>bif decide ((h.length:Int)=0)then some 0 else oB (I3 N b d c f) fun j=>oB (I1 N b d c) fun i=>oB (CX N b d c e) fun k=>oB (I0 N (h.length:Int) j i (b.length:Int) (k.length:Int)) fun a=>if fits (a.1*1000)then if a.2≠0 then if fits ((a.1*1000).tdiv a.2)then some ((a.1*1000).tdiv a.2)else none else none else none)
def Bp (o:List ae) (l:ae):Option (ae):=
 (iter (fun m (d,b,a,c)=>bif decide (c<(d.length:Int))then meet (fun(f:(List ae)×ae×ae×Int)=>match f with|(j,n,h,e)=>oB (idx j e) fun i=>if h.length+i.length<=9223372036854775807 then if fits (e+1)then m (j,n,(h++i),(e+1))else none else none) fun k=>(bif decide ((0:Int)<c)then if a.length+b.length<=9223372036854775807 then k (d,b,(a++b),c)else none else k (d,b,a,c))else some a) N (o,l,([]:ae),(0:Int)))
def Ho (S:List ae) (K:List bZ) (X:List br) (g:List bJ) (H:Int) (W:ae) (A:List ae) (L:Int) (V:Int) (Q:List bf) (P:Int):Option (DM):=
 (oB (Bp N A ([32]:ae)) fun I=>oB (qn N S K I) fun l=>iter (fun O (y,z,d,b,D,B,s,E,G,F,R,U)=>bif decide (b<(d.length:Int))then oB (idx d b) fun t=>(oB (idx d 0) fun q=>if fits (t.2-q.2)then if fits ((t.2-q.2)-b)then oB (idx d b) fun J=>(oB (xP N D B E J.1 y) fun T=>iter (fun C (n,h,r,i,c,e,f,a,o,w,k,j,m,v,u,p)=>bif decide (a<(e.length:Int))then oB (idx e a) fun ac=>(bif decide (c<=ac)then oB (idx e a) fun x=>(if fits (x-c)then if room f.length ([(x-c)]:List Int).length 8 then if fits (a+1)then C (n,h,r,i,c,e,(f++([(x-c)]:List Int)),(a+1),o,w,k,j,m,v,u,p)else none else none else none)else if fits (a+1)then C (n,h,r,i,c,e,f,(a+1),o,w,k,j,m,v,u,p)else none)else if room h.length ([f]:List (List Int)).length 24 then if fits (i+1)then O (n,(h++([f]:List (List Int))),r,(i+1),o,w,k,j,m,v,u,p)else none else none) N (y,z,d,b,((t.2-q.2)-b),T,([]:List Int),(0:Int),D,B,s,E,G,F,R,U))else none else none)else some z) N (P,([]:List (List Int)),l,(0:Int),X,g,H,W,A,L,V,Q))
def uk (N:Nat):(D:Nat)->DM->Int->Int->Int->Int->cW
 |0,_,_,_,_,_=>none
 |D+1,lists,k,last,start,f=>
 bif decide (k=(lists.length:Int))then
 if fits (last-start)then if fits ((lists.length:Int)-1)then if fits ((last-start)-((lists.length:Int)-1))then some (decide (((last-start)-((lists.length:Int)-1))<=f))else none else none else none
 else
 iter (fun go (g:DM×Int×Int×Int×Int×Int)=>
 match g with
 |(a,h,c,b,d,i)=>
 oB (idx a h) fun e=>
 bif decide (i<(e.length:Int))then
 oB (idx a h) fun j=>
 (oB (idx j i) fun l=>
 bif decide (c<l)then
 if fits (h+1)then oB (idx a h) fun o=>
 (oB (idx o i) fun p=>
 oB (uk N D a (h+1) p b d) fun r=>
 bif r then
 some true
 else
 if fits (i+1)then go (a,h,c,b,d,(i+1))else none)else none
 else
 if fits (i+1)then go (a,h,c,b,d,(i+1))else none)
 else
 some false) N (lists,k,last,start,f,0)
def Hm (o:List (List Int)) (w:Int):Option ((List Int)):=
 (iter (fun t (c,i,l,d)=>bif decide (d<(c.length:Int))then oB (idx c d) fun p=>(oB (xf N p) fun q=>bif !q then some ([]:List Int)else if fits (d+1)then t (c,i,l,(d+1))else none)else oB (iN N (c.length:Int) 1 6) fun u=>bif !u then some ([]:List Int)else oB (iN N i 0 5) fun m=>bif !m then some ([]:List Int)else iter (fun j (b,h,e,a)=>oB (idx b 0) fun n=>bif decide (a<(n.length:Int))then oB (idx b 0) fun A=>(oB (idx A a) fun x=>oB (idx b 0) fun z=>oB (idx z a) fun r=>oB (uk N N b 1 x r h) fun v=>bif v then oB (idx b 0) fun y=>(oB (idx y a) fun k=>if room e.length ([k]:List Int).length 8 then if fits (a+1)then j (b,h,(e++([k]:List Int)),(a+1))else none else none)else if fits (a+1)then j (b,h,e,(a+1))else none)else some e) N (c,i,l,(0:Int))) N (o,w,([]:List Int),(0:Int)))
def G5 (k:List ae) (f:List bZ) (p:List br) (q:List bJ) (e:Int) (o:ae) (l:List ae) (a:Int) (n:Int) (i:List bf) (h:Int):et:=
 (oB (Ho N k f p q e o l a n i h) fun w=>bif decide ((w.length:Int)=0)then some 0 else oB (Hm N w a) fun A=>meet (fun(d:Int×Int×(List ae)×(List bZ)×(List br)×(List bJ)×Int×ae×(List ae)×Int×Int×(List bf))=>match d with|(C,U,K,E,S,P,g,W,t,X,I,Q)=>oB (Bp N t ([32]:ae)) fun L=>oB (qn N K E L) fun H=>iter (fun G (u,m,b,j,c,x,z,B,r,D,V,T,O)=>bif decide (c<(j.length:Int))then oB (idx j c) fun R=>(oB (xQ N x z r R.1 u) fun v=>if fits (b+v)then if fits (c+1)then G (u,m,(b+v),j,(c+1),x,z,B,r,D,V,T,O)else none else none)else if fits (b*m)then some (b*m)else none) N (C,U,(0:Int),H,(0:Int),S,P,g,W,t,X,I,Q)) fun y=>bif decide ((3:Int)<A.length)then y (h,3,k,f,p,q,e,o,l,a,n,i)else y (h,(A.length:Int),k,f,p,q,e,o,l,a,n,i))
def CR (N:Nat) (b:Int) (a:Int):et:=
 (bif decide (b<a)then some b else some a)
def I2 (L:ae) (c:ae):et:=
 (if fits ((c.length:Int)+1)then if((c.length:Int)+1)=((c.length:Int)+1)/\0<=((c.length:Int)+1)/\((c.length:Int)+1)*8<=140737488355328/\((c.length:Int)+1)<=140737488355328 then iter (fun A (u,p,m,d)=>bif decide (d<=(p.length:Int))then if 0<=d/\d<(m.length:Int)then oB (m[d.toNat]?) fun Q=>(if fits (d+1)then A (u,p,(m.set d.toNat d),(d+1))else none)else none else iter (fun G (r,n,f,l)=>bif decide (l<(r.length:Int))then if 0<=(0:Int)/\(0:Int)<f.length then oB (f[(0:Int).toNat]?) fun E=>(if fits (l+1)then if 0<=(0:Int)/\(0:Int)<f.length then oB (f[(0:Int).toNat]?) fun S=>(iter (fun w (j,h,o,i,q,k)=>bif decide (k<(h.length:Int))then meet (fun(e:JJ)=>match e with|(x,B,b,z,a,C)=>if fits (a+1)then if 0<=(a+1)/\(a+1)<(b.length:Int)then oB (b[(a+1).toNat]?) fun O=>(if fits (a+1)then if 0<=a/\a<(b.length:Int)then oB (b[a.toNat]?) fun P=>(if fits (a+1)then if 0<=(a+1)/\(a+1)<(b.length:Int)then oB (b[(a+1).toNat]?) fun I=>(oB (CR N P I) fun t=>if fits (t+1)then oB (CR N C (t+1)) fun K=>(if 0<=(a+1)/\(a+1)<(b.length:Int)then oB (b[(a+1).toNat]?) fun R=>(if fits (a+1)then w (x,B,(b.set (a+1).toNat K),z,O,(a+1))else none)else none)else none)else none else none)else none else none)else none else none) fun v=>(oB (idx j i) fun D=>oB (idx h k) fun y=>bif !decide ((D.toNat:Int)=(y.toNat:Int))then if fits (q+1)then v (j,h,o,i,k,(q+1))else none else v (j,h,o,i,k,q))else if fits (i+1)then G (j,h,o,(i+1))else none) N (r,n,(f.set (0:Int).toNat (l+1)),l,E,(0:Int)))else none else none)else none else if 0<=(n.length:Int)/\(n.length:Int)<(f.length:Int)then oB (f[(n.length:Int).toNat]?) fun H=>(some H)else none) N (u,p,m,(0:Int))) N (L,c,(List.replicate ((c.length:Int)+1).toNat 0),(0:Int))else none else none)
def G6 (y:List br) (B:List bJ) (v:Int) (w:ae) (q:List ae) (x:Int) (t:Int) (A:List bf) (z:Int):et:=
 (iter (fun l (f,e,a,i,b,o,d,h,j,n,k)=>bif decide (a<(b.length:Int))then oB (idx b a) fun p=>(oB (idx h 0) fun r=>oB (I2 N p.2.1 r) fun c=>bif !decide (p.1=d)then if fits (a+1)then l (f,e,(a+1),i,b,o,d,h,j,n,k)else none else bif decide (j<c)then if fits (a+1)then l (f,e,(a+1),i,b,o,d,h,j,n,k)else none else oB (xQ N i b d p.2.1 f) fun m=>if fits (3-c)then if fits (m*(3-c))then if 3≠0 then if fits ((m*(3-c)).tdiv 3)then bif decide (e<((m*(3-c)).tdiv 3))then if fits (a+1)then l (f,((m*(3-c)).tdiv 3),(a+1),i,b,o,d,h,j,n,k)else none else(if fits (a+1)then l (f,e,(a+1),i,b,o,d,h,j,n,k)else none)else none else none else none else none)else some e) N (z,(0:Int),(0:Int),y,B,v,w,q,x,t,A))
def o2 (N:Nat):(D:Nat)->ae->ae->cW
 |0,_,_=>none
 |D+1,p,s=>
 bif decide (p=([]:ae))then
 some (decide (s=([]:ae)))
 else
 oB (idx p 0) fun c=>
 bif decide ((c.toNat:Int)=42)then
 oB (cut p 1 (p.length:Int)) fun y=>
 (oB (o2 N D y s) fun r=>
 bif r then
 some true
 else
 bif !decide (s=([]:ae))then
 oB (cut s 1 (s.length:Int)) fun a=>
 (oB (o2 N D p a) fun b=>
 some b)
 else
 some false)
 else
 bif !decide (s=([]:ae))then
 oB (idx p 0) fun c2=>
 (bif decide ((c2.toNat:Int)=63)then
 oB (cut p 1 (p.length:Int)) fun d=>
 (oB (cut s 1 (s.length:Int)) fun e=>
 oB (o2 N D d e) fun f=>
 some f)
 else
 oB (idx p 0) fun c3=>
 oB (idx s 0) fun c4=>
 bif decide ((c3.toNat:Int)=(c4.toNat:Int))then
 oB (cut p 1 (p.length:Int)) fun g=>
 (oB (cut s 1 (s.length:Int)) fun h=>
 oB (o2 N D g h) fun i=>
 some i)
 else
 some false)
 else
 some false
def Hn (w:List br) (A:List bJ) (r:Int) (u:ae) (n:List ae) (v:Int) (p:Int) (z:List bf) (y:Int):cW:=
 (iter (fun j (d,a,f,b,m,c,e,k,l,h)=>bif decide (a<(b.length:Int))then oB (idx b a) fun i=>(bif decide (i.1=c)then oB (idx e 0) fun o=>(oB (o2 N N o i.2.1) fun t=>bif t then oB (xP N f b c i.2.1 d) fun x=>(bif decide ((0:Int)<x.length)then some true else if fits (a+1)then j (d,(a+1),f,b,m,c,e,k,l,h)else none)else if fits (a+1)then j (d,(a+1),f,b,m,c,e,k,l,h)else none)else if fits (a+1)then j (d,(a+1),f,b,m,c,e,k,l,h)else none)else some false) N (y,(0:Int),w,A,r,u,n,v,p,z))
def Pm (N:Nat) (a:Bool):et:=
 (bif a then some 100 else some 0)
def Hp (m:Int) (n:bl) (e:dq) (d:ae):et:=
 (iter (fun i (c,a,f,j,b)=>bif decide (a<(b.length:Int))then oB (idx b a) fun l=>(bif decide (l.1=c)then oB (idx b a) fun h=>(some h.2)else if fits (a+1)then i (c,(a+1),f,j,b)else none)else some (-1)) N (d,(0:Int),m,n,e))
def kQ (N:Nat):(D:Nat)->(List ae)->(List bZ)->(List br)->(List bJ)->Int->ae->(List ae)->Int->Int->(List bf)->Int->et
 |0,_,_,_,_,_,_,_,_,_,_,_=>none
 |D+1,c,c2,s,s2,q,h,p,d,t,f,id=>
 bif decide (q=1)then
 some 100
 else
 bif decide (q=2)then
 oB (idx p 0) fun e=>
 (oB (G7 N c c2 e) fun r=>
 oB (xQ N s s2 h r id) fun J=>
 some J)
 else
 bif decide (q=3)then
 oB (G5 N c c2 s s2 q h p d t f id) fun K=>
 (some K)
 else
 bif decide (q=4)then
 oB (G6 N s s2 q h p d t f id) fun L=>
 (some L)
 else
 bif decide (q=5)then
 oB (Hn N s s2 q h p d t f id) fun M=>
 (oB (Pm N M) fun O=>
 some O)
 else
 bif decide (q=6)then
 oB (uq N s s2 id) fun y=>
 (oB (Hp N y.1 y.2.1 y.2.2 h) fun P=>
 oB (iN N P d t) fun Q=>
 oB (Pm N Q) fun z=>
 some z)
 else
 bif decide (q=10)then
 oB (idx f 0) fun j=>
 (oB (kQ N D c c2 s s2 j.kind j.field j.words j.lo j.hi j.kids id) fun u=>
 if fits (d*u)then some (d*u)else none)
 else
 bif decide (q=9)then
 oB (idx f 1) fun k=>
 (oB (kQ N D c c2 s s2 k.kind k.field k.words k.lo k.hi k.kids id) fun A=>
 bif decide ((0:Int)<A)then
 some 0
 else
 oB (idx f 0) fun l=>
 oB (kQ N D c c2 s s2 l.kind l.field l.words l.lo l.hi l.kids id) fun B=>
 some B)
 else
 iter (fun go (g:Int×Int×Int×(List ae)×(List bZ)×(List br)×(List bJ)×Int×ae×(List ae)×Int×Int×(List bf))=>
 match g with
 |(rI,sum,i,c3,c4,C,F,G,H,I,v,x,b)=>
 bif decide (i<(b.length:Int))then
 oB (idx b i) fun o=>
 (oB (kQ N D c3 c4 C F o.kind o.field o.words o.lo o.hi o.kids rI) fun a=>
 bif decide (a=0)then
 bif decide (G=7)then
 some 0
 else
 (if fits (sum+a)then if fits (i+1)then go (rI,(sum+a),(i+1),c3,c4,C,F,G,H,I,v,x,b)else none else none)
 else
 if fits (sum+a)then if fits (i+1)then go (rI,(sum+a),(i+1),c3,c4,C,F,G,H,I,v,x,b)else none else none)
 else
 some sum) N (id,0,0,c,c2,s,s2,q,h,p,d,t,f)
end Go.Proofs.YtnkagklajgimlaaGreatDoor
