/- Plain laws: two questions that are ok and written alike are the same. -/
import Derived.Test.YtkglkigmdmohkaaGreatDoorSE1
import Derived.Test.YtkglkigmdmohkaaGreatDoorKZ
set_option linter.unusedVariables false
set_option linter.unusedSimpArgs false
namespace Go.Proofs.YtkglkigmdmohkaaGreatDoor
open Go.RowKit
def sepB (c:UInt8):Bool:= !gB (c.toNat:Int)
def Atom (s:List UInt8):Prop:=∀c,c∈s->sepB c=false
def Stop (r:List UInt8):Prop:=r=[]\/ ∃c l,r=c::l/\sepB c=true
theorem Stop.cons {c:UInt8} {l:List UInt8} (h:sepB c=true):Stop (c::l):=.inr ⟨c,l,rfl,h⟩
theorem j4Q {s:List UInt8} (h:s.all (fun c=> !sepB c)=true):Atom s:=fun c hc=>by
 have:=zax.1 h c hc
 simpa using this
theorem j4L :∀ {a a' r r':List UInt8},Atom a->Atom a'->Stop r->Stop r'->a++r=a'++r'->a=a'/\r=r'
 | [],[],r,r',_,_,_,_,h=>⟨rfl,h⟩
 | [],c::a',r,r',_,h2,h3,_,h=>by
  have h:r=c::(a'++r'):=h
  rcases h3 with e|⟨d,l,e,hd⟩
  .rw [e]at h;cases h
  .rw [e]at h
   injection h with h1 _
   rw[h1,h2 c zy]at hd
   cases hd
 |c::a,[],r,r',h1,_,_,h4,h=>by
  have h:c::(a++r)=r':=h
  rcases h4 with e|⟨d,l,e,hd⟩
  .rw [e]at h;cases h
  .rw [e]at h
   injection h with h2 _
   rw[<-h2,h1 c zy]at hd
   cases hd
 |c::a,d::a',r,r',h1,h2,h3,h4,h=>by
  have h:c::(a++r)=d::(a'++r'):=h
  injection h with e1 e2
  obtain⟨g1,g2⟩:=j4L (fun x hx=>h1 x (zl _ hx)) (fun x hx=>h2 x (zl _ hx)) h3 h4 e2
  exact⟨by rw[e1,g1],g2⟩
theorem j4W {s:List UInt8} {p:Int->Bool} (h:allN s.length (fun n=>p (atB s n))=true):∀c,c∈s->p (c.toNat:Int)=true:=fun c hc=>by
 obtain⟨n,hn,e⟩:=zav.1 hc
 unfold allN at h
 have:=zax.1 h n (by rw[List.mem_range'];exact⟨n,hn,by omega⟩)
 unfold atB at this
 rw[zc hn,e]at this
 exact this
theorem j4K {s:List UInt8} (h:okW s=true):Atom s/\s≠ []:=by
 unfold okW at h
 simp only[zj,zw]at h
 refine⟨fun c hc=>?_,fun e=>by rw[e]at h;simp at h⟩
 have:=j4W h.1 c hc
 unfold sepB gB
 rw[this];rfl
theorem j4P {s:List UInt8} (h:okG s=true):Atom s:=by
 unfold okG at h
 simp only[zj,zw]at h
 intro c hc
 have:=j4W h.1 c hc
 unfold sepB
 rw[this];rfl
theorem j5p {c:UInt8} (h:digB c=true):sepB c=false:=by
 unfold digB at h
 simp only[zj,zw]at h
 unfold sepB gB wB
 rw[zb (by omega:(48:Int)<=(c.toNat:Int)),zb (by omega:(c.toNat:Int)<=57)]
 simp
theorem j4V {a:Int} (h:0<=a):itoaL a=Lib.decDigits a.toNat:=by
 unfold itoaL Lib.itoa
 rw[zu (by omega)]
theorem j4O {a:Int} (h:0<=a):Atom (itoaL a):=fun c hc=>j5p (j42 _ _ (zae _) c (by rw[<-j4V h];exact hc))
theorem j4R {a b:Int} (ha:0<=a) (hb:0<=b) (h:itoaL a=itoaL b):a=b:=by
 rw[j4V ha,j4V hb]at h
 have h1:=jXH _ _ (zae a.toNat)
 rw[h,jXH _ _ (zae b.toNat)]at h1
 omega
theorem j4T (w:List UInt8):joinL [w] [43]=w:=by simp[joinL,Lib.join,List.intercalate]
theorem j4N (w v:List UInt8) (ws:List (List UInt8)):joinL (w::v::ws) [43]=w++43::joinL (v::ws) [43]:=by simp[joinL,Lib.join,List.intercalate]
theorem j4X :∀ {ws ws':List (List UInt8)} {s s':List UInt8},ws≠ []->ws'≠ []->(∀w,w∈ws->Atom w)->(∀w,w∈ws'->Atom w)->joinL ws [43]++126::s=joinL ws' [43]++126::s'->ws=ws'/\s=s'
 | [],_,_,_,h,_,_,_,_=>absurd rfl h
 |_,[],_,_,_,h,_,_,_=>absurd rfl h
 | [w],[v],s,s',_,_,h1,h2,h=>by
  rw[j4T,j4T]at h
  obtain⟨e1,e2⟩:=j4L (h1 w (by simp)) (h2 v (by simp)) (.cons (by decide)) (.cons (by decide)) h
  injection e2 with _ e2
  exact⟨by rw[e1],e2⟩
 | [w],v::v2::vs,s,s',_,_,h1,h2,h=>by
  rw[j4T,j4N,zao]at h
  obtain⟨_,e2⟩:=j4L (h1 w (by simp)) (h2 v (by simp)) (.cons (by decide)) (.cons (by decide)) h
  injection e2 with e2 _
  exact absurd e2 (by decide)
 |w::w2::ws,[v],s,s',_,_,h1,h2,h=>by
  rw[j4T,j4N,zao]at h
  obtain⟨_,e2⟩:=j4L (h1 w (by simp)) (h2 v (by simp)) (.cons (by decide)) (.cons (by decide)) h
  injection e2 with e2 _
  exact absurd e2 (by decide)
 |w::w2::ws,v::v2::vs,s,s',_,_,h1,h2,h=>by
  rw[j4N,j4N,zao,zao]at h
  obtain⟨e1,e2⟩:=j4L (h1 w (by simp)) (h2 v (by simp)) (.cons (by decide)) (.cons (by decide)) h
  injection e2 with _ e2
  obtain⟨g1,g2⟩:=j4X (by simp) (by simp) (fun x hx=>h1 x (zl _ hx)) (fun x hx=>h2 x (zl _ hx)) e2
  exact⟨by rw[e1,g1],g2⟩
def EndR (r:List UInt8):Prop:=r=[]\/ ∃l,r=32::l\/r=41::l
theorem EndR.stop {r:List UInt8} (h:EndR r):Stop r:=by
 rcases h with h|⟨l,h|h⟩
 .exact .inl h
 .rw [h];exact .cons (by decide)
 .rw [h];exact .cons (by decide)
theorem EndR.ne {r l:List UInt8} {c:UInt8} (h:EndR r) (hc:c≠32/\c≠41):r≠c::l:=fun e=>by
 rcases h with h|⟨l,h|h⟩
 .rw [h]at e;cases e
 .rw [h]at e;injection e with e _;exact hc.1 e.symm
 .rw [h]at e;injection e with e _;exact hc.2 e.symm
inductive View (n:Nat):DQ->List UInt8->(List UInt8->List UInt8)->Prop
 |all:View n (.mk 1 [] [] 0 0 []) [97,108,108] fun r=>r
 |term (f w):okW f=true->okW w=true->View n (.mk 2 f [w] 0 0 []) f fun r=>58::(w++r)
 |glob (f w):okW f=true->okG w=true->okW w=false->View n (.mk 5 f [w] 0 0 []) f fun r=>58::(w++r)
 |phrase (f ws a):okW f=true->(∀w,w∈ws->okW w=true)->2<=ws.length->0<=a->View n (.mk 3 f ws a 0 []) f fun r=>58::(joinL ws [43]++126::(itoaL a++r))
 |near (f w a):okW f=true->okW w=true->0<=a->View n (.mk 4 f [w] a 0 []) f fun r=>58::(w++37::(itoaL a++r))
 |range (f a b):okW f=true->0<=a->0<=b->View n (.mk 6 f [] a b []) f fun r=>61::(itoaL a++46::46::(itoaL b++r))
 |node (k a kids):(k=7\/k=8\/k=9)/\a=0\/k=10/\0<=a->kids.all (okQ n)=true->View n (.mk k [] [] a 0 kids) [] fun r=>40::(headQ k a++(kids.flatMap (fun c=>[32]++putQ n c)++41::r))
theorem j4M {α:Type} {l:List α} (h:nilB l=true):l=[]:=by
 unfold nilB at h
 have:=of_decide_eq_true h
 exact zbI.1 (by omega)
theorem j4U {α:Type} {l:List α} (h:(l.length:Int)=1):∃x,l=[x]:=by
 match l,h with
 | [x],_=>exact⟨x,rfl⟩
 | [],h=>simp at h
 |_::_::_,h=>simp at h;omega
theorem view {n:Nat}:∀ {q:DQ},okQ (n+1) q=true->∃a t,View n q a t/\∀r,putQ (n+1) q++r=a++t r
 | .mk k f ws a b kids,h=>by
  unfold okQ at h
  rw[zj]at h
  obtain⟨h,hk⟩:=h
  have key:∀ {q:DQ},q= .mk k f ws a b kids->(∃x t,View n q x t/\∀r,putQ (n+1) q++r=x++t r)->∃x t,View n (.mk k f ws a b kids) x t/\∀r,putQ (n+1) (.mk k f ws a b kids)++r=x++t r:=fun e h=>e▸h
  unfold oneQ at h
  by_cases h1:k=1
  .subst h1
   simp only[decide_true,zg,zj,zw]at h
   obtain⟨rfl,h2,⟨rfl,rfl⟩,h3⟩:=h
   obtain rfl:=j4M h2;obtain rfl:=j4M h3
   exact⟨_,_,.all,fun r=>rfl⟩
  by_cases h2:k=2
  .subst h2
   simp only[Int.reduceEq,decide_false,decide_true,ze,zg,zj,zw]at h
   obtain⟨⟨⟨rfl,rfl⟩,h3⟩,h4,h5,h6⟩:=h
   obtain rfl:=j4M h3;obtain⟨w,rfl⟩:=j4U h6
   exact⟨_,_,.term f w h4 (by simpa using h5),fun r=>by simp[putQ]⟩
  by_cases h3:k=3
  .subst h3
   simp only[Int.reduceEq,decide_false,decide_true,ze,zg,zj,zw]at h
   obtain⟨h3,h4,⟨h5,h6,_⟩,rfl,h7,_⟩:=h
   obtain rfl:=j4M h3
   exact⟨_,_,.phrase f ws a h4 (fun w hw=>zax.1 h5 w hw) (by omega) h7,fun r=>by simp[putQ]⟩
  by_cases h4:k=4
  .subst h4
   simp only[Int.reduceEq,decide_false,decide_true,ze,zg,zj,zw]at h
   obtain⟨h3,h4,⟨h5,h6⟩,rfl,h7,_⟩:=h
   obtain rfl:=j4M h3;obtain⟨w,rfl⟩:=j4U h6
   exact⟨_,_,.near f w a h4 (by simpa using h5) (by omega),fun r=>by simp[putQ]⟩
  by_cases h5:k=5
  .subst h5
   simp only[Int.reduceEq,decide_false,decide_true,ze,zg,zj,zw]at h
   obtain⟨⟨⟨rfl,rfl⟩,h3⟩,h4,h5,h6⟩:=h
   obtain rfl:=j4M h3;obtain⟨w,rfl⟩:=j4U h6
   simp only[zb7,List.all_nil,zaV,zj,zb2]at h5
   exact⟨_,_,.glob f w h4 h5.1 h5.2,fun r=>by simp[putQ]⟩
  by_cases h6:k=6
  .subst h6
   simp only[Int.reduceEq,decide_false,decide_true,ze,zg,zj,zw]at h
   obtain⟨⟨h3,h4⟩,h5,⟨h6,_⟩,h7,_⟩:=h
   obtain rfl:=j4M h3;obtain rfl:=j4M h4
   exact⟨_,_,.range f a b h5 h6 (by omega),fun r=>by simp[putQ]⟩
  have hput:∀r,putQ (n+1) (.mk k f ws a b kids)++r=[]++40::(headQ k a++(kids.flatMap (fun c=>[32]++putQ n c)++41::r)):=fun r=>by
   simp only[putQ,zd h1,zd h2,zd h3,zd h4,zd h5,zd h6,Bool.or_false,ze]
   simp only[zao,zaW,zbk]
  simp only[zd h1,zd h2,zd h3,zd h4,zd h5,zd h6,ze]at h
  have fin:((k=7\/k=8\/k=9)/\a=0\/k=10/\0<=a)/\f=[]/\ws=[]/\b=0:=by
   by_cases h7:k=7
   .subst h7
    simp only[Int.reduceEq,decide_false,decide_true,zbV,zg,zj,zw]at h
    exact⟨.inl ⟨.inl rfl,h.2.2.1.1⟩,h.1,j4M h.2.1,h.2.2.1.2⟩
   by_cases h8:k=8
   .subst h8
    simp only[Int.reduceEq,decide_false,decide_true,Bool.or_true,zg,zj,zw]at h
    exact⟨.inl ⟨.inr (.inl rfl),h.2.2.1.1⟩,h.1,j4M h.2.1,h.2.2.1.2⟩
   by_cases h9:k=9
   .subst h9
    simp only[Int.reduceEq,decide_false,decide_true,Bool.or_false,ze,zg,zj,zw]at h
    exact⟨.inl ⟨.inr (.inr rfl),h.2.2.1.1⟩,h.1,j4M h.2.1,h.2.2.1.2⟩
   by_cases h10:k=10
   .subst h10
    simp only[Int.reduceEq,decide_false,decide_true,Bool.or_false,ze,zg,zj,zw]at h
    exact⟨.inr ⟨rfl,by omega⟩,h.1,j4M h.2.1,h.2.2.2.1⟩
   simp[h7,h8,h9,h10]at h
  obtain⟨g1,rfl,rfl,rfl⟩:=fin
  exact⟨_,_,.node k a kids g1 hk,hput⟩
theorem View.atom {n:Nat} {q:DQ} {a:List UInt8} {t:List UInt8->List UInt8} (h:View n q a t):Atom a:=by
 cases h with
 |all=>exact j4Q (by decide)
 |term _ _ h _=>exact(j4K h).1
 |glob _ _ h _ _=>exact(j4K h).1
 |phrase _ _ _ h _ _ _=>exact(j4K h).1
 |near _ _ _ h _ _=>exact(j4K h).1
 |range _ _ _ h _ _=>exact(j4K h).1
 |node _ _ _ _ _=>exact fun c hc=>by cases hc
theorem View.stop {n:Nat} {q:DQ} {a r:List UInt8} {t:List UInt8->List UInt8} (h:View n q a t) (hr:EndR r):Stop (t r):=by
 cases h with
 |all=>exact hr.stop
 |_=>exact .cons (by decide)
theorem j5o {n:Nat} (ih:∀(q q':DQ) (r r':List UInt8),okQ n q=true->okQ n q'=true->EndR r->EndR r'->putQ n q++r=putQ n q'++r'->q=q'/\r=r'):∀(ks ks':List DQ) (r r':List UInt8),ks.all (okQ n)=true->ks'.all (okQ n)=true->ks.flatMap (fun c=>[32]++putQ n c)++41::r=ks'.flatMap (fun c=>[32]++putQ n c)++41::r'->ks=ks'/\r=r':=by
 have hend:∀(ks:List DQ) r,EndR (ks.flatMap (fun c=>[32]++putQ n c)++41::r):=fun ks r=>by
  cases ks with
  |nil=>exact .inr ⟨r,.inr rfl⟩
  |cons c ks=>exact .inr ⟨_,.inl rfl⟩
 intro ks
 induction ks with
 |nil=>
  intro ks' r r' _ _ h
  cases ks' with
  |nil=>injection h with _ h;exact⟨rfl,h⟩
  |cons c ks'=>injection h with h _;exact absurd h (by decide)
 |cons c ks ihk=>
  intro ks' r r' h1 h2 h
  cases ks' with
  |nil=>injection h with h _;exact absurd h (by decide)
  |cons c' ks'=>
   simp only[zb7,zj]at h1 h2
   rw[zbu,zbu,zao,zao,zao,zao]at h
   injection h with _ h
   obtain⟨e1,e2⟩:=ih c c' _ _ h1.1 h2.1 (hend ks r) (hend ks' r') h
   obtain⟨e3,e4⟩:=ihk ks' r r' h1.2 h2.2 e2
   exact⟨by rw[e1,e3],e4⟩
theorem j41 {n:Nat} (ks:List DQ) (r:List UInt8):Stop (ks.flatMap (fun c=>[32]++putQ n c)++41::r):=by
 cases ks with
 |nil=>exact .cons (by decide)
 |cons c ks=>exact .cons (by decide)
theorem j5s {k k' a a':Int} {s s':List UInt8} (h:(k=7\/k=8\/k=9)/\a=0\/k=10/\0<=a) (h':(k'=7\/k'=8\/k'=9)/\a'=0\/k'=10/\0<=a') (hs:Stop s) (hs':Stop s') (e:headQ k a++s=headQ k' a'++s'):k=k'/\a=a'/\s=s':=by
 have parts:∀ {k a:Int} {s:List UInt8},((k=7\/k=8\/k=9)/\a=0\/k=10/\0<=a)->Stop s->∃x y,headQ k a++s=x++y/\Atom x/\Stop y/\(k=7/\x=[97,110,100]/\y=s/\a=0\/k=8/\x=[111,114]/\y=s/\a=0\/k=9/\x=[108,101,115,115]/\y=s/\a=0\/k=10/\x=[116,105,109,101,115]/\y=32::(itoaL a++s)/\0<=a):=fun {k a s} h hs=>by
  rcases h with⟨rfl|rfl|rfl,rfl⟩|⟨rfl,h⟩
  .exact ⟨_,_,rfl,j4Q (by decide),hs,.inl ⟨rfl,rfl,rfl,rfl⟩⟩
  .exact ⟨_,_,rfl,j4Q (by decide),hs,.inr (.inl ⟨rfl,rfl,rfl,rfl⟩)⟩
  .exact ⟨_,_,rfl,j4Q (by decide),hs,.inr (.inr (.inl ⟨rfl,rfl,rfl,rfl⟩))⟩
  .exact ⟨[116,105,109,101,115],32::(itoaL a++s),rfl,j4Q (by decide),.cons (by decide),.inr (.inr (.inr ⟨rfl,rfl,rfl,h⟩))⟩
 obtain⟨x,y,e1,e2,e3,e4⟩:=parts h hs
 obtain⟨x',y',f1,f2,f3,f4⟩:=parts h' hs'
 rw[e1,f1]at e
 obtain⟨g1,g2⟩:=j4L e2 f2 e3 f3 e
 rcases e4 with⟨rfl,rfl,rfl,rfl⟩|⟨rfl,rfl,rfl,rfl⟩|⟨rfl,rfl,rfl,rfl⟩|⟨rfl,rfl,rfl,ha⟩<;>rcases f4 with⟨rfl,rfl,rfl,rfl⟩|⟨rfl,rfl,rfl,rfl⟩|⟨rfl,rfl,rfl,rfl⟩|⟨rfl,rfl,rfl,ha'⟩<;>first|exact absurd g1 (by decide)|exact⟨rfl,rfl,g2⟩|skip
 injection g2 with _ g2
 obtain⟨g3,g4⟩:=j4L (j4O ha) (j4O ha') hs hs' g2
 exact⟨rfl,j4R ha ha' g3,g4⟩
theorem putQ_inj :∀(n:Nat) (q q':DQ) (r r':List UInt8),okQ n q=true->okQ n q'=true->EndR r->EndR r'->putQ n q++r=putQ n q'++r'->q=q'/\r=r'
 |0,q,_,_,_,h,_,_,_,_=>by cases q;simp[okQ]at h
 |n+1,q,q',r,r',h,h',hr,hr',e=>by
  obtain⟨a,t,v,hp⟩:=view h
  obtain⟨a',t',v',hp'⟩:=view h'
  rw[hp,hp']at e
  obtain⟨e1,e2⟩:=j4L v.atom v'.atom (v.stop hr) (v'.stop hr') e
  have ne:=fun {c:UInt8} (hc:c≠32/\c≠41) (l:List UInt8)=>EndR.ne (l:=l) hr hc
  have ne':=fun {c:UInt8} (hc:c≠32/\c≠41) (l:List UInt8)=>EndR.ne (l:=l) hr' hc
  cases v with
  |all=>
   cases v' with
   |all=>exact⟨rfl,e2⟩
   |_=>exact absurd e2 (ne (by decide) _)
  |term f w h1 h2=>
   cases v' with
   |all=>exact absurd e2.symm (ne' (by decide) _)
   |term f' w' g1 g2=>
    injection e2 with _ e2
    obtain⟨e3,e4⟩:=j4L (j4K h2).1 (j4K g2).1 hr.stop hr'.stop e2
    exact⟨by rw[e1,e3],e4⟩
   |glob f' w' g1 g2 g3=>
    injection e2 with _ e2
    obtain⟨e3,e4⟩:=j4L (j4K h2).1 (j4P g2) hr.stop hr'.stop e2
    rw[e3,g3]at h2;cases h2
   |phrase f' ws a g1 g2 g3 g4=>
    injection e2 with _ e2
    match ws,g3,g2,e2 with
    |v1::v2::vs,_,g2,e2=>
     rw[j4N,zao]at e2
     obtain⟨_,e4⟩:=j4L (j4K h2).1 (j4K (g2 v1 (by simp))).1 hr.stop (.cons (by decide)) e2
     exact absurd e4 (ne (by decide) _)
   |near f' w' a g1 g2 g3=>
    injection e2 with _ e2
    obtain⟨_,e4⟩:=j4L (j4K h2).1 (j4K g2).1 hr.stop (.cons (by decide)) e2
    exact absurd e4 (ne (by decide) _)
   |range f' a b g1 g2 g3=>injection e2 with e2 _;exact absurd e2 (by decide)
   |node k a kids g1 g2=>exact absurd e1 (j4K h1).2
  |glob f w h1 h2 h3=>
   cases v' with
   |all=>exact absurd e2.symm (ne' (by decide) _)
   |term f' w' g1 g2=>
    injection e2 with _ e2
    obtain⟨e3,e4⟩:=j4L (j4P h2) (j4K g2).1 hr.stop hr'.stop e2
    rw[<-e3,h3]at g2;cases g2
   |glob f' w' g1 g2 g3=>
    injection e2 with _ e2
    obtain⟨e3,e4⟩:=j4L (j4P h2) (j4P g2) hr.stop hr'.stop e2
    exact⟨by rw[e1,e3],e4⟩
   |phrase f' ws a g1 g2 g3 g4=>
    injection e2 with _ e2
    match ws,g3,g2,e2 with
    |v1::v2::vs,_,g2,e2=>
     rw[j4N,zao]at e2
     obtain⟨_,e4⟩:=j4L (j4P h2) (j4K (g2 v1 (by simp))).1 hr.stop (.cons (by decide)) e2
     exact absurd e4 (ne (by decide) _)
   |near f' w' a g1 g2 g3=>
    injection e2 with _ e2
    obtain⟨_,e4⟩:=j4L (j4P h2) (j4K g2).1 hr.stop (.cons (by decide)) e2
    exact absurd e4 (ne (by decide) _)
   |range f' a b g1 g2 g3=>injection e2 with e2 _;exact absurd e2 (by decide)
   |node k a kids g1 g2=>exact absurd e1 (j4K h1).2
  |phrase f ws a h1 h2 h3 h4=>
   cases v' with
   |all=>exact absurd e2.symm (ne' (by decide) _)
   |phrase f' ws' a' g1 g2 g3 g4=>
    injection e2 with _ e2
    obtain⟨e3,e4⟩:=j4X (fun e=>by rw[e]at h3;simp at h3) (fun e=>by rw[e]at g3;simp at g3) (fun w hw=>(j4K (h2 w hw)).1) (fun w hw=>(j4K (g2 w hw)).1) e2
    obtain⟨e5,e6⟩:=j4L (j4O h4) (j4O g4) hr.stop hr'.stop e4
    exact⟨by rw[e1,e3,j4R h4 g4 e5],e6⟩
   |range f' a b g1 g2 g3=>injection e2 with e2 _;exact absurd e2 (by decide)
   |node k a kids g1 g2=>exact absurd e1 (j4K h1).2
   |term f' w' g1 g2=>
    injection e2 with _ e2
    match ws,h3,h2,e2 with
    |v1::v2::vs,_,h2,e2=>
     rw[j4N,zao]at e2
     obtain⟨_,e4⟩:=j4L (j4K (h2 v1 (by simp))).1 (j4K g2).1 (.cons (by decide)) hr'.stop e2
     exact absurd e4.symm (ne' (by decide) _)
   |glob f' w' g1 g2 g3=>
    injection e2 with _ e2
    match ws,h3,h2,e2 with
    |v1::v2::vs,_,h2,e2=>
     rw[j4N,zao]at e2
     obtain⟨_,e4⟩:=j4L (j4K (h2 v1 (by simp))).1 (j4P g2) (.cons (by decide)) hr'.stop e2
     exact absurd e4.symm (ne' (by decide) _)
   |near f' w' a' g1 g2 g3=>
    injection e2 with _ e2
    match ws,h3,h2,e2 with
    |v1::v2::vs,_,h2,e2=>
     rw[j4N,zao]at e2
     obtain⟨_,e4⟩:=j4L (j4K (h2 v1 (by simp))).1 (j4K g2).1 (.cons (by decide)) (.cons (by decide)) e2
     injection e4 with e4 _;exact absurd e4 (by decide)
  |near f w a h1 h2 h3=>
   cases v' with
   |all=>exact absurd e2.symm (ne' (by decide) _)
   |term f' w' g1 g2=>
    injection e2 with _ e2
    obtain⟨_,e4⟩:=j4L (j4K h2).1 (j4K g2).1 (.cons (by decide)) hr'.stop e2
    exact absurd e4.symm (ne' (by decide) _)
   |glob f' w' g1 g2 g3=>
    injection e2 with _ e2
    obtain⟨_,e4⟩:=j4L (j4K h2).1 (j4P g2) (.cons (by decide)) hr'.stop e2
    exact absurd e4.symm (ne' (by decide) _)
   |phrase f' ws a g1 g2 g3 g4=>
    injection e2 with _ e2
    match ws,g3,g2,e2 with
    |v1::v2::vs,_,g2,e2=>
     rw[j4N,zao]at e2
     obtain⟨_,e4⟩:=j4L (j4K h2).1 (j4K (g2 v1 (by simp))).1 (.cons (by decide)) (.cons (by decide)) e2
     injection e4 with e4 _;exact absurd e4 (by decide)
   |near f' w' a' g1 g2 g3=>
    injection e2 with _ e2
    obtain⟨e3,e4⟩:=j4L (j4K h2).1 (j4K g2).1 (.cons (by decide)) (.cons (by decide)) e2
    injection e4 with _ e4
    obtain⟨e5,e6⟩:=j4L (j4O h3) (j4O g3) hr.stop hr'.stop e4
    exact⟨by rw[e1,e3,j4R h3 g3 e5],e6⟩
   |range f' a b g1 g2 g3=>injection e2 with e2 _;exact absurd e2 (by decide)
   |node k a kids g1 g2=>exact absurd e1 (j4K h1).2
  |range f a b h1 h2 h3=>
   cases v' with
   |all=>exact absurd e2.symm (ne' (by decide) _)
   |range f' a' b' g1 g2 g3=>
    injection e2 with _ e2
    obtain⟨e3,e4⟩:=j4L (j4O h2) (j4O g2) (.cons (by decide)) (.cons (by decide)) e2
    injection e4 with _ e4
    injection e4 with _ e4
    obtain⟨e5,e6⟩:=j4L (j4O h3) (j4O g3) hr.stop hr'.stop e4
    exact⟨by rw[e1,j4R h2 g2 e3,j4R h3 g3 e5],e6⟩
   |node k a kids g1 g2=>exact absurd e1 (j4K h1).2
   |_=>injection e2 with e2 _;exact absurd e2 (by decide)
  |node k a kids h1 h2=>
   cases v' with
   |all=>exact absurd e1 (by decide)
   |node k' a' kids' g1 g2=>
    injection e2 with _ e2
    obtain⟨rfl,rfl,e3⟩:=j5s h1 g1 (j41 _ _) (j41 _ _) e2
    obtain⟨e4,e5⟩:=j5o (putQ_inj n) kids kids' r r' h2 g2 e3
    exact⟨by rw[e4],e5⟩
   |_=>exact absurd e1.symm (j4K ‹okW a'=true›).2
end Go.Proofs.YtkglkigmdmohkaaGreatDoor
