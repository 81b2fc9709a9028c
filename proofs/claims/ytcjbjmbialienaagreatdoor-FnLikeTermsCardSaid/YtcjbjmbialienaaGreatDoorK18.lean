/- The engine, eighteenth part: calls, as operations. -/
import Derived.Test.YtcjbjmbialienaaGreatDoorK17
set_option linter.unusedSimpArgs false
set_option linter.unusedVariables false
namespace Go.Proofs.YtcjbjmbialienaaGreatDoor
open Go.RowKit
section
variable {E : Env} {o : Oper} {s : LSt} {e : Eff} {fp : FP}
theorem all2_map {c : Ctx} {a : Act} (hev : ∀ y, V3 c (s.ev y) (a.eval y)) : ∀ (l : List Operand), All2 (V3 c) (l.map s.ev) (l.map a.eval)
 | [] => True.intro
 | x :: l => ⟨hev x, all2_map hev l⟩
theorem all2_v0 {c : Ctx} : ∀ {xs : List AV} {vs : List Value}, All2 (V0 c) xs vs → All2 (V3 c) xs vs := fun h => h.imp fun _ _ h => V3_of_V1 (V1_of_V0 h)
theorem tokName_inj {d i j : Nat} (h : tokName d i = tokName d j) : i = j := by simp only [tokName] at h; omega
theorem jgI {l : List (Nat × Option Nat)} {m : Nat} : m ∈ l.filterMap (·.2) ↔ ∃ n, (n, some m) ∈ l := by
 constructor
 ·intro h
  obtain ⟨⟨n, x⟩, h1, h2⟩ := List.mem_filterMap.1 h
  simp only at h2
  subst h2
  exact ⟨n, h1⟩
 ·rintro ⟨n, h⟩; exact List.mem_filterMap.2 ⟨(n, some m), h, rfl⟩
theorem jg1 {ρ : Nat → Nat} {g : BS → BS} : ∀ {l : List (Nat × BS)} (hi : ∀ x y, x ∈ l → y ∈ l → ρ x.1 = ρ y.1 → x.1 = y.1) {k : Nat} (hk : k ∈ l.map (·.1)), lookB (l.map fun x => (ρ x.1, g x.2)) (ρ k) = (lookB l k).map g
 | [], _, k, hk => by cases hk
 | (j, b) :: l, hi, k, hk => by
  simp only [List.map_cons, lookB]
  obtain ⟨z, hz, ez⟩ := List.mem_map.1 hk
  by_cases e : k = j
  ·subst e; simp
  ·have hne : ρ k ≠ ρ j := fun h => e (by rw [← ez] at h ⊢; exact hi z (j, b) hz List.mem_cons_self h)
   rw [if_neg hne, if_neg e]
   have hk' : k ∈ l.map (·.1) := by
    simp only [List.map_cons, List.mem_cons] at hk
    exact hk.resolve_left e
   exact jg1 (fun x y hx hy => hi x y (List.mem_cons_of_mem _ hx) (List.mem_cons_of_mem _ hy)) hk'
theorem jfA {ρ : Nat → Nat} : ∀ {l : List (Nat × Option TS)} (hi : ∀ x y, x ∈ l → y ∈ l → ρ x.1 = ρ y.1 → x.1 = y.1) {k : Nat} (hk : k ∈ l.map (·.1)), lookT (l.map fun x => (ρ x.1, x.2)) (ρ k) = lookT l k
 | [], _, k, hk => by cases hk
 | (j, b) :: l, hi, k, hk => by
  simp only [List.map_cons, lookT]
  obtain ⟨z, hz, ez⟩ := List.mem_map.1 hk
  by_cases e : k = j
  ·subst e; simp
  ·have hne : ρ k ≠ ρ j := fun h => e (by rw [← ez] at h ⊢; exact hi z (j, b) hz List.mem_cons_self h)
   rw [if_neg hne, if_neg e]
   have hk' : k ∈ l.map (·.1) := by
    simp only [List.map_cons, List.mem_cons] at hk
    exact hk.resolve_left e
   exact jfA (fun x y hx hy => hi x y (List.mem_cons_of_mem _ hx) (List.mem_cons_of_mem _ hy)) hk'
theorem nodup_map {ρ : Nat → Nat} : ∀ {l : List Nat}, (∀ x y, x ∈ l → y ∈ l → ρ x = ρ y → x = y) → l.Nodup → (l.map ρ).Nodup
 | [], _, _ => by simp
 | a :: l, hi, h => by
  simp only [List.map_cons, List.nodup_cons] at h ⊢
  refine ⟨fun hin => ?_, nodup_map (fun x y hx hy => hi x y (List.mem_cons_of_mem _ hx) (List.mem_cons_of_mem _ hy)) h.2⟩
  obtain ⟨b, hb, e⟩ := List.mem_map.1 hin
  exact h.1 (hi b a (List.mem_cons_of_mem _ hb) List.mem_cons_self e ▸ hb)
theorem jlx {l : List (Nat × BS)} {k : Nat} (h : k ∉ l.map (·.1)) : lookB l k = none := by
 cases hl : lookB l k with
 | none => rfl
 | some b => exact absurd (List.mem_map.2 ⟨(k, b), lookB_mem hl, rfl⟩) h
theorem jqP {w : World} {S : Stab} {v : Value} {p : PV} (h : Rep w S v p) (hp : p.isLit = true) : v = litOf p := by
 cases h <;> first | rfl | cases hp
theorem jc5 {c : Ctx} : ∀ {xs : List AV} {vs : List Value} {ps : List PV}, All2 (V1c c) xs vs → All2 AsPV xs ps → ps.all PV.isLit = true → vs = ps.map litOf
 | [], [], [], _, _, _ => rfl
 | x :: xs, v :: vs, p :: ps, h, k, hp => by
  simp only [List.all_cons, Bool.and_eq_true] at hp
  rw [List.map_cons, jc5 h.2 k.2 hp.2, jqP (jjN k.1 h.1.1) hp.1]
 | [], _ :: _, _, h, _, _ => h.elim
 | _ :: _, [], _, h, _, _ => h.elim
 | [], [], _ :: _, _, k, _ => k.elim
 | _ :: _, _ :: _, [], _, k, _ => k.elim
theorem jcA : ∀ (t : Tp) (x : t.D), t.flatB = true → (enc t x).all PV.isLit = true
 | .bool, _, _ => rfl
 | .int _, _, _ => rfl
 | .str, _, _ => rfl
 | .unit, _, _ => rfl
 | .pair a b, x, h => by
  simp only [Tp.flatB, Bool.and_eq_true] at h
  simp only [enc, List.all_append, jcA a x.1 h.1, jcA b x.2 h.2, Bool.and_self]
 | .sl _, _, h => by cases h
 | .opt _, _, h => by cases h
 | .q, _, h => by cases h
theorem jpY (hE : EnvOk E) (op : BinOp) (T : TypeId) (x y : Operand) (t : TypeId) (ho : o.op = .binOp op T x y t) (xs ys : List AV) (hag : aggs (s.ev x) (s.ev y) = some (xs, ys)) (h : (aggRD ((E.ty T).bind (·.eqs)) op xs ys).R s [] [] e fp) : Sim E o s e := by
 obtain ⟨hx, hy⟩ : s.ev x = .agg xs ∧ s.ev y = .agg ys := by
  unfold aggs at hag
  split at hag
  ·rename_i e1
   split at hag
   ·rename_i e2; cases hag; exact ⟨e1, e2⟩
   ·cases hag
  ·cases hag
 unfold aggRD at h
 split at h
 ·exact h.elim
 rename_i r hr
 obtain ⟨ty, hty, hr⟩ := Option.bind_eq_some_iff.1 hr
 obtain ⟨hfl, hgd, hrun⟩ := (hE.ty T ty hty).eqs r hr
 split at h
 ·exact h.elim
 rename_i a ha
 split at h
 ·exact h.elim
 rename_i b hb
 have val : ∀ (c : Ctx) (ac : Act), (∀ y, V3 c (s.ev y) (ac.eval y)) → ac.eval x = .agg ((enc r a).map litOf).toArray ∧ ac.eval y = .agg ((enc r b).map litOf).toArray := fun c ac hev => by
  have h1 := hev x
  have h2 := hev y
  rw [hx] at h1
  rw [hy] at h2
  obtain ⟨vs, e1, a1⟩ := h1
  obtain ⟨us, e2, a2⟩ := h2
  rw [e1, e2, jc5 a1 (jdg r xs a ha) (jcA r a hfl), jc5 a2 (jdg r ys b hb) (jcA r b hfl)]
  exact ⟨rfl, rfl⟩
 split at h
 ·cases val_R h
  refine sim_val fun c ac w hw hev => ⟨.bool (r.eqB a b), ?_, mk_bool c _⟩
  obtain ⟨v1, v2⟩ := val c ac hev
  simp only [execOp, ho, Sem.run_bind, v1, v2, run_eqGuard_agg w _ _ _ _ _ _ hgd, Result.andThen_ok, run_eql_struct, hrun, Sem.run_pure]
 ·cases val_R h
  refine sim_val fun c ac w hw hev => ⟨.bool (!r.eqB a b), ?_, mk_bool c _⟩
  obtain ⟨v1, v2⟩ := val c ac hev
  simp only [execOp, ho, Sem.run_bind, v1, v2, run_eqGuard_agg w _ _ _ _ _ _ hgd, Result.andThen_ok, run_neq_struct, hrun, Sem.run_pure]
 ·exact h.elim
def jh (ts : List (Nat × Option TS)) : Prop := ∀ n tk, (n, some (TS.live tk)) ∈ ts → tk.whole = true
theorem jh.append {a b : List (Nat × Option TS)} (h : jh a) (k : jh b) : jh (a ++ b) := fun n tk hin => by
 rcases List.mem_append.1 hin with h1 | h1
 ·exact h n tk h1
 ·exact k n tk h1
theorem jh.nil : jh [] := fun n tk h => by cases h
mutual
theorem jrp : ∀ (v : VS) (ps : List Pay), jh (inst v ps).2.2
 | .dead, ps => jh.nil
 | .pv t, ps => by cases ps <;> exact jh.nil
 | .nils, ps => jh.nil
 | .nilp, ps => jh.nil
 | .box k o, ps => jh.nil
 | .ptr t, ps => by cases ps <;> exact jh.nil
 | .own n t e d, ps => by
  simp only [inst]
  split
  ·exact fun m tk h => by simp at h; obtain ⟨_, rfl⟩ := h; rfl
  ·exact jh.nil
 | .mtk n t e d, ps => by
  simp only [inst]
  split
  ·exact fun m tk h => by simp at h; obtain ⟨_, rfl⟩ := h; rfl
  ·exact jh.nil
 | .tre n t e, ps => by
  simp only [inst]
  split
  ·exact fun m tk h => by simp at h; obtain ⟨_, rfl⟩ := h; rfl
  ·exact jh.nil
 | .agg l, ps => jaK l ps
 | .tup l, ps => jaK l ps
 | .clo f l, ps => by
  cases ps with
  | nil => exact jh.nil
  | cons p ps => exact jaK l _
theorem jaK : ∀ (l : List VS) (ps : List Pay), jh (instL l ps).2.2
 | [], ps => jh.nil
 | v :: l, ps => by
  simp only [instL]
  exact (jrp v ps).append (jaK l _)
end
theorem jfn : ∀ (l : List (Nat × Bool × List VS)) (ps : List Pay), jh (instB l ps).2
 | [], ps => jh.nil
 | (k, fz, vs) :: l, ps => by
  simp only [instB]
  exact (jaK vs ps).append (jfn l _)
theorem jdc (sh : Sh) (y : HD sh.codes) : ∀ n tk, lookT (sh.mk' y).T n = some (.live tk) → tk.whole = true := fun n tk h =>
 ((jaK sh.vals (unpack sh.codes y)).append (jfn sh.boxes (instL sh.vals (unpack sh.codes y)).2.1)) n tk (lookT_mem h)
theorem sim_callN (hE : EnvOk E) (c : Call) (ho : o.op = .call c) (g : Operand) (hc : c.callee = .value g) (f : FuncId) (cs : List AV) (hg : s.ev g = .clo f cs) (h : (callRD E f o.dst (c.args.toList.map s.ev ++ cs)).R s [] [] e fp) : Sim E o s e := by
 unfold callRD at h
 obtain ⟨B, rb1, hB, h⟩ := readB_R _ _ _ _ _ h (fun k b h => by cases h)
 obtain ⟨T, rt1, hT, h⟩ := readT_R _ _ _ _ _ h (fun k b h => by cases h)
 obtain ⟨m, a0, acc, hm, hcv, h⟩ := pickM_R _ h
 obtain ⟨r, hr, h⟩ := h
 unfold callRet at h
 simp only at h
 split at h
 case isFalse => exact h.elim
 rename_i hok
 obtain ⟨hfB, rb2, h⟩ := jgN _ _ _ _ h
 obtain ⟨hfT, rt2, h⟩ := freshT_R _ _ _ _ h
 split at h
 case h_1 => exact h.elim
 rename_i v0 vl hL
 obtain ⟨he, _⟩ := h
 simp only [callOk, Bool.and_eq_true, List.all_eq_true, decide_eq_true_eq] at hok
 obtain ⟨⟨⟨⟨⟨⟨⟨ok1, ok2⟩, ok3⟩, ok4⟩, ok5⟩, ok6⟩, ok7⟩, ok8⟩ := hok
 obtain ⟨s1, hs1⟩ : ∃ s1, s1 = m.ret.mk' r := ⟨_, rfl⟩
 rw [← hs1] at hfB hfT hL he ok3 ok4 ok5 ok6 ok7 ok8
 have hMod := hE.fn f m hm
 obtain ⟨⟨fn, hfn, hname, hbody⟩, hrunm⟩ := hMod
 have hfc := hrunm a0 r hr
 rw [← hs1] at hfc
 obtain ⟨s0, hs0⟩ : ∃ s0, s0 = m.arg.mk' a0 := ⟨_, rfl⟩
 rw [← hs0] at hfc
 rintro R a w hR0 ⟨β, τ, F, S, hM, hn, hdf, hsl⟩ K Q hK
 have hev := V3_ev hsl
 obtain ⟨us, hgv, hus⟩ := v3_clo (hg ▸ hev g)
 have hvals : All2 (V3 (s.ctx w S β τ)) (c.args.toList.map s.ev ++ cs) (c.args.toList.map a.eval ++ us) := (all2_map hev _).append (all2_v0 hus)
 obtain ⟨hinv, S', hSS, hM', hcb, hct, hct2, hcb2, hMB, hv0⟩ := conv_mem hM hB hT hcv hvals
 rw [← hs0] at hcb hct hct2 hcb2 hMB hv0
 have hboxF : ∀ k, lookB s.B k ≠ none ↔ fzB (lookB s.B) acc.fb k ≠ none := fun k => by
  unfold fzB
  cases lookB s.B k <;> simp
 have htokF : ∀ n, lookT s.T n ≠ none ↔ fzT (lookT s.T) acc.ft n ≠ none := fun n => by
  unfold fzT
  split
  ·rename_i tk htk; rw [htk]; simp
  ·rfl
 have hMc : Mem (lentRoot s0 (shβ acc β) (shτ acc τ) (shF acc F) S' w) (lookB s0.B) (lookT s0.T) (shβ acc β) (shτ acc τ) (shF acc F) S' w := by
  obtain ⟨g1, g2, g3, g4, g5⟩ := hMB (lentRoot s0 (shβ acc β) (shτ acc τ) (shF acc F) S' w).fr (fun k b hk => .inr (.inl ⟨k, b, hk, rfl⟩)) (fun t tk b ht hb => .inr (.inr ⟨t, tk, ht, hb⟩))
  refine ⟨Upd.refl _ _, fun _ _ h => h, fun _ _ h => .inl h, fun _ _ _ => rfl, hM'.lt, g1, g2, g3, g4, g5, fun k b hb hk => ?_, fun t v tk hv ht => ?_, fun n tk hs i o d hn htr hin => by rw [Tok.whole_nil (by rw [hs0] at hn; exact jdc _ _ n tk hn) htr] at hin; cases hin⟩
  ·simp only [lentRoot] at hb
   split at hb
   ·cases hb; rfl
   ·cases hb
  ·simp only [lentRoot, ht] at hv
   cases hv; rfl
 have hgl : GlobOk w (lent s0 (shβ acc β) (shF acc F)) S' := hR0.2.2.later hM hSS fun b hb => by
  rcases hb with ⟨k, x, hk, rfl⟩ | ⟨t, tk, ht, hF⟩
  ·obtain ⟨k', b', g1, g2, _⟩ := hcb k x hk
   have : shβ acc β k = β k' := by unfold shβ; rw [g1]; rfl
   rw [this]
   exact (hM'.boxes k' b' g2).1
  ·obtain ⟨n', h1, h2⟩ := hct t tk ht
   have h3 := lookR_nodup hinv.rt.1 t n' h1
   unfold shF at hF
   rw [h3] at hF
   cases n' with
   | none => exact hF.elim
   | some m =>
    obtain ⟨tk0, h4, _⟩ := h2
    exact (hM'.toks m tk0 h4).1 b hF |>.1
 have hcall := hfc w S' (shβ acc β) (shτ acc τ) (shF acc F) _ hgl hMc hv0
 have hrun : (execOp a.eval o).run E.P w = .ok (.enter f (c.args.toList.map a.eval ++ us).toArray) w := by
  have hb' : ¬ fn.body = none := fun e => by rw [e] at hbody; cases hbody
  have ea : (c.args.toList.map a.eval ++ us).toArray = #[] ++ c.args.map a.eval ++ us.toArray := by apply Array.ext'; simp
  rw [ea]
  simp [execOp, ho, resolve, hc, hgv, Deferred.ofValue, invoke, callFunc, hfn, hname, hb']
 unfold Oper.wp
 rw [hrun, Oper.upon_enter]
 refine hcall.mono fun e' w1 he => ?_
 obtain ⟨v, β1, τ1, F1, S1, rfl, hC, x, hx, hvx⟩ := he
 rw [hL] at hx
 simp only [List.head?_cons, Option.some.injEq] at hx
 subst hx
 simp only
 obtain ⟨ρb, hρb⟩ : ∃ ρb, ρb = renB (o.dst.getD 0) acc.rb := ⟨_, rfl⟩
 obtain ⟨ρt, hρt⟩ : ∃ ρt, ρt = renT (o.dst.getD 0) acc.rt := ⟨_, rfl⟩
 rw [← hρb] at hfB
 rw [← hρt] at hfT
 rw [← hρb, ← hρt] at he
 have rbIn : ∀ k k', lookR acc.rb k = some k' → ρb k = k' := fun k k' h => by rw [hρb]; unfold renB; rw [h]; rfl
 have rbOut : ∀ k, lookR acc.rb k = none → ρb k = tokName (o.dst.getD 0) k := fun k h => by rw [hρb]; unfold renB; rw [h]; rfl
 have rtIn : ∀ n m, lookR acc.rt n = some (some m) → ρt n = m := fun n m h => by rw [hρt]; unfold renT; rw [h]
 have rtOut : ∀ n, (∀ m, lookR acc.rt n ≠ some (some m)) → ρt n = tokName (o.dst.getD 0) n := fun n h => by
  rw [hρt]; unfold renT
  cases hl : lookR acc.rt n with
  | none => rfl
  | some x => cases x with
   | none => rfl
   | some m => exact absurd hl (h m)
 have keysB : ∀ k, lookB s1.B k ≠ none ↔ k ∈ s1.B.map (·.1) := fun k => ⟨fun h => by
  obtain ⟨b, hb⟩ := Option.ne_none_iff_exists'.1 h
  exact List.mem_map.2 ⟨(k, b), lookB_mem hb, rfl⟩, lookB_isSome⟩
 have keysT : ∀ n, lookT s1.T n ≠ none → n ∈ s1.T.map (·.1) := fun n h => by
  by_cases hin : n ∈ s1.T.map (·.1)
  ·exact hin
  ·exact absurd (jiy hin) h
 have hret := hMB
 have hs0t : ∀ n tk, lookT s0.T n = some (.live tk) → ∃ x, lookR acc.rt n = some x ∧ ∀ m, x = some m → ∃ tk0, fzT (lookT s.T) acc.ft m = some (.live tk0) := fun n tk hn => by
  obtain ⟨n', h1, h2⟩ := hct n tk hn
  refine ⟨n', lookR_nodup hinv.rt.1 n n' h1, fun m hm => ?_⟩
  subst hm
  obtain ⟨tk0, h3, _⟩ := h2
  exact ⟨tk0, h3⟩
 have hbackT : ∀ n m z, lookR acc.rt n = some (some m) → lookT s1.T n = some z → ∃ tk tk', fzT (lookT s.T) acc.ft m = some (.live tk) ∧ z = .live tk' ∧ tk.wr = true ∧ tk'.t = tk.t := fun n m z h1 h2 => by
  have h3 := ok6 (n, some z) (lookT_mem h2)
  simp only [backOk, h1] at h3
  split at h3
  ·rename_i tk tk' e1 e2
   simp only [Bool.and_eq_true, decide_eq_true_eq, Bool.not_eq_true', List.contains_eq_mem, decide_eq_false_iff_not] at h3
   cases e2
   obtain ⟨⟨g1, g2⟩, g3⟩ := h3
   exact ⟨tk, tk', by unfold fzT; rw [hT m _ e1]; simp [g3], rfl, g1, g2⟩
  ·cases h3
 have hBk : Back acc s0 s1 ρb ρt (fzB (lookB s.B) acc.fb) (fzT (lookT s.T) acc.ft) := by
  refine ⟨fun k k' hk => ?_, hinv.rb, fun k b hk => ?_, fun k hk hno => ?_, fun k k' h1 h2 e => ?_, rtIn, fun n n' m h1 h2 => ?_, hs0t, fun n hn hno => ?_, fun n n' h1 h2 e => ?_, hbackT⟩
  ·refine ⟨rbIn k k' hk, ?_, ?_⟩
   ·have := ok3 (k, k') (lookR_mem hk)
    simp only [Option.isSome_iff_ne_none] at this; exact this
   ·have := hcb2 k k' hk
    obtain ⟨b, hb⟩ := Option.ne_none_iff_exists'.1 this
    obtain ⟨k2, b', g1, g2, _⟩ := hcb k b hb
    rw [hk] at g1; cases g1
    rw [g2]; simp
  ·obtain ⟨k', b', g1, _⟩ := hcb k b hk
   exact ⟨k', g1⟩
  ·obtain ⟨b, hb⟩ := Option.ne_none_iff_exists'.1 hk
   have := (hfB (ρb k) (List.mem_map.2 ⟨(k, b), List.mem_filter.2 ⟨lookB_mem hb, by simp [hno]⟩, rfl⟩)).1
   by_cases hne : fzB (lookB s.B) acc.fb (ρb k) = none
   ·exact hne
   ·exact absurd this ((hboxF _).2 hne)
  ·rw [rbOut k h1, rbOut k' h2] at e; exact tokName_inj e
  ·obtain ⟨i, hi⟩ := List.mem_iff_getElem?.1 (lookR_mem h1)
   obtain ⟨i', hi'⟩ := List.mem_iff_getElem?.1 (lookR_mem h2)
   have := hinv.rt.2 i i' _ _ m hi hi' rfl rfl
   subst this
   rw [hi] at hi'; cases hi'; rfl
  ·obtain ⟨z, hz⟩ := Option.ne_none_iff_exists'.1 hn
   have hib : isBound acc n = false := by
    unfold isBound
    split
    ·rename_i m hm; exact absurd hm (hno m)
    ·rfl
   have := (hfT (ρt n) (List.mem_map.2 ⟨(n, some z), List.mem_filter.2 ⟨lookT_mem hz, by simp [hib]⟩, rfl⟩)).1
   by_cases hne : fzT (lookT s.T) acc.ft (ρt n) = none
   ·exact hne
   ·exact absurd this ((htokF _).2 hne)
  ·rw [rtOut n h1, rtOut n' h2] at e; exact tokName_inj e
 have hnb : ∀ x y, x ∈ s1.B → y ∈ s1.B → ρb x.1 = ρb y.1 → x.1 = y.1 := fun x y hx hy h => hBk.inj_b ((keysB x.1).2 (List.mem_map.2 ⟨x, hx, rfl⟩)) ((keysB y.1).2 (List.mem_map.2 ⟨y, hy, rfl⟩)) h
 have liveT : ∀ x, x ∈ s1.T → lookT s1.T x.1 ≠ none := fun x hx => by
  rw [lookT_nodup ok5 x.1 x.2 hx]
  intro hz
  have := ok7 x hx
  rw [hz] at this; cases this
 have hnt : ∀ x y, x ∈ s1.T → y ∈ s1.T → ρt x.1 = ρt y.1 → x.1 = y.1 := fun x y hx hy h => hBk.inj_t (liveT x hx) (liveT y hy) h
 obtain ⟨newB, hnewB⟩ : ∃ l : List (Nat × BS), l = s1.B.map fun x => (ρb x.1, (⟨x.2.fz, AV.renL ρb ρt x.2.cs⟩ : BS)) := ⟨_, rfl⟩
 obtain ⟨newT, hnewT⟩ : ∃ l : List (Nat × Option TS), l = s1.T.map fun x => (ρt x.1, x.2) := ⟨_, rfl⟩
 rw [← hnewB, ← hnewT] at he
 have ndB : (newB.map (·.1)).Nodup := by
  rw [hnewB, show (s1.B.map fun x => (ρb x.1, (⟨x.2.fz, AV.renL ρb ρt x.2.cs⟩ : BS))).map (·.1) = (s1.B.map (·.1)).map ρb from by simp]
  refine nodup_map (fun x y hx hy h => ?_) ok4
  obtain ⟨x', hx', rfl⟩ := List.mem_map.1 hx
  obtain ⟨y', hy', rfl⟩ := List.mem_map.1 hy
  exact hnb x' y' hx' hy' h
 have ndT : (newT.map (·.1)).Nodup := by
  rw [hnewT, show (s1.T.map fun x => (ρt x.1, x.2)).map (·.1) = (s1.T.map (·.1)).map ρt from by simp]
  refine nodup_map (fun x y hx hy h => ?_) ok5
  obtain ⟨x', hx', rfl⟩ := List.mem_map.1 hx
  obtain ⟨y', hy', rfl⟩ := List.mem_map.1 hy
  exact hnt x' y' hx' hy' h
 have hboxE : ∀ k, e.updB (lookB s.B) k = match lookB newB k with | some b => some b | none => fzB (lookB s.B) acc.fb k := fun k => by
  rw [he]
  simp only [Eff.updB, List.foldl_append]
  rw [jfh newB _ ndB]
  cases lookB newB k with
  | some b => rfl
  | none =>
   simp only
   rw [jhD B (lookB s.B) hB acc.fb _ (fun k hk => by have := ok1 k hk; simpa [Option.isSome_iff_ne_none] using this)]
   unfold fzB
   by_cases hin : k ∈ acc.fb
   ·rw [if_pos hin]; cases lookB s.B k <;> simp [hin]
   ·rw [if_neg hin]; cases lookB s.B k <;> simp [hin]
 have htokE : ∀ t, e.updT (lookT s.T) t = if t ∈ newT.map (·.1) then lookT newT t else if t ∈ acc.rt.filterMap (·.2) then some .spent else fzT (lookT s.T) acc.ft t := fun t => by
  rw [he]
  simp only [Eff.updT, List.foldl_append]
  rw [jfu newT _ ndT, jcB]
  by_cases h1 : t ∈ newT.map (·.1)
  ·rw [if_pos h1, if_pos h1]
  ·rw [if_neg h1, if_neg h1]
   unfold jd
   by_cases h2 : t ∈ acc.rt.filterMap (·.2)
   ·rw [if_pos h2, if_pos h2]
   ·rw [if_neg h2, if_neg h2, jil T (lookT s.T) hT acc.ft _ (fun n hn => ok2 n hn)]
    by_cases h3 : t ∈ acc.ft
    ·rw [if_pos h3]
    ·rw [if_neg h3]
     unfold fzT
     split
     ·rename_i tk htk; rw [htk]; simp [h3]
     ·rfl
 have keyB : ∀ k, k ∈ newB.map (·.1) → ∃ j, lookB s1.B j ≠ none ∧ ρb j = k := fun k hk => by
  rw [hnewB] at hk
  obtain ⟨y, hy, rfl⟩ := List.mem_map.1 hk
  obtain ⟨x, hx, rfl⟩ := List.mem_map.1 hy
  exact ⟨x.1, (keysB x.1).2 (List.mem_map.2 ⟨x, hx, rfl⟩), rfl⟩
 have keyT : ∀ k, k ∈ newT.map (·.1) → ∃ j, lookT s1.T j ≠ none ∧ ρt j = k := fun k hk => by
  rw [hnewT] at hk
  obtain ⟨y, hy, rfl⟩ := List.mem_map.1 hk
  obtain ⟨x, hx, rfl⟩ := List.mem_map.1 hy
  exact ⟨x.1, liveT x hx, rfl⟩
 obtain ⟨β2, τ2, F2, hM2, hLe, hBL, hTL, hnB, hnT⟩ := call_mem hM' hBk hC (e.updB (lookB s.B)) (e.updT (lookT s.T)) (fun k hk => by
   rw [hboxE, hnewB, jg1 (g := fun b => ⟨b.fz, AV.renL ρb ρt b.cs⟩) hnb ((keysB k).1 hk)]
   obtain ⟨b, hb⟩ := Option.ne_none_iff_exists'.1 hk
   rw [hb]; rfl) (fun k hno => by
   rw [hboxE, jlx (fun hk => by obtain ⟨j, h1, h2⟩ := keyB k hk; exact hno j h1 h2)]) (fun n hn => by
   have h1 := keysT n hn
   rw [htokE, if_pos (by rw [hnewT, show (s1.T.map fun x => (ρt x.1, x.2)).map (·.1) = (s1.T.map (·.1)).map ρt from by simp]; exact List.mem_map.2 ⟨n, h1, rfl⟩), hnewT, jfA hnt h1]) (fun t hno hb => by
   obtain ⟨n, hb⟩ := hb
   rw [htokE, if_neg (fun hk => by obtain ⟨j, h1, h2⟩ := keyT t hk; exact hno j h1 h2), if_pos (jgI.2 ⟨n, lookR_mem hb⟩)]) (fun t hno hb => by
   rw [htokE, if_neg (fun hk => by obtain ⟨j, h1, h2⟩ := keyT t hk; exact hno j h1 h2), if_neg (fun hk => by obtain ⟨n, h1⟩ := jgI.1 hk; exact hb ⟨n, lookR_nodup hinv.rt.1 n _ h1⟩)]) (fun k hk hno => by
   obtain ⟨b, hb⟩ := Option.ne_none_iff_exists'.1 hk
   exact hR0.bn (hfB (ρb k) (List.mem_map.2 ⟨(k, b), List.mem_filter.2 ⟨lookB_mem hb, by simp [hno]⟩, rfl⟩)).2) (fun n hn hno => by
   obtain ⟨z, hz⟩ := Option.ne_none_iff_exists'.1 hn
   have hib : isBound acc n = false := by
    unfold isBound
    split
    ·rename_i m hm; exact absurd hm (hno m)
    ·rfl
   exact hR0.tn (hfT (ρt n) (List.mem_map.2 ⟨(n, some z), List.mem_filter.2 ⟨lookT_mem hz, by simp [hib]⟩, rfl⟩)).2) (fun n m h1 _ => hct2 n _ (lookR_mem h1)) hcb2 (by rw [hs1]; exact jdc _ _) (fun k hk => by
   obtain ⟨b, hb⟩ := Option.ne_none_iff_exists'.1 hk
   have := ok8 (k, b) (lookB_mem hb)
   rw [hρb]
   simpa using this)
 have hs1' : ∀ i, V3 ⟨w1, S1, fun k => e.updB (lookB s.B) k ≠ none, β2, e.updT (lookT s.T), τ2⟩ (getA s.L i) (a.tmps.getD i undef) := fun i => by
  have h1 := V3.mono (c := s.ctx w S β τ) (c' := ⟨w, S', fun k => fzB (lookB s.B) acc.fb k ≠ none, β, fzT (lookT s.T) acc.ft, τ⟩) ⟨hSS, fun _ _ _ => rfl⟩ (fun k hk => ⟨(hboxF k).1 hk, rfl⟩) (fun t ht => by
   obtain ⟨h1, h2⟩ := fzT_le (w := w) (S := S) (S' := S') (live := fun _ => True) (β := β) (τ := τ) (lookT s.T) acc.ft t ht
   exact ⟨h1, h2⟩) (hsl i)
  exact V3.mono hLe hBL hTL h1
 refine hK _ _ (rel_put (s := s) (e := e) hM2 hn hdf hs1' o.dst ?_)
 cases hd : o.dst with
 | none => exact .inl rfl
 | some d =>
  right
  have hv : e.val = v0.ren ρb ρt := by rw [he]; simp [hd]
  rw [hv]
  exact ren3 (c := s1.ctx w1 S1 β1 τ1) (c' := ⟨w1, S1, fun k => e.updB (lookB s.B) k ≠ none, β2, e.updT (lookT s.T), τ2⟩) rfl rfl (fun k hk => hnB k hk) (fun n hn => hnT n hn) (fun k hk => by
   obtain ⟨b, hb⟩ := Option.ne_none_iff_exists'.1 hk
   have := ok8 (k, b) (lookB_mem hb)
   rw [hρb]
   simpa using this) hvx
end
end Go.Proofs.YtcjbjmbialienaaGreatDoor
