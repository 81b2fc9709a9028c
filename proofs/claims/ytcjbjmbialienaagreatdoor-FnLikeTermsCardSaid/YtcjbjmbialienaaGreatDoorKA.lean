/- The engine: calls that only read what they are handed; what they give may be written. -/
import Derived.Test.YtcjbjmbialienaaGreatDoorK18
set_option linter.unusedSimpArgs false
set_option linter.unusedVariables false
namespace Go.Proofs.YtcjbjmbialienaaGreatDoor
open Go.RowKit
theorem jj8 {p : PV} (h : p.isLit = true) : (litOf p).oneCell' = true := by
 cases p <;> first | rfl | cases h
theorem Deep.one {w : World} {F : Nat → Prop} {v : Value} {c : AV} (h : Deep w F v c) : v.oneCell' = true := by
 cases h with
 | lit _ _ t x p he hl hv => rw [hv]; exact jj8 hl
 | nil _ r => rfl
 | sl _ cap r xs u b q vs T hb hg hz hc hx hu hq hd hr => rfl
theorem Deep.tree {w : World} {F : Nat → Prop} {v : Value} {r : Tp} {xs : List r.D} (h : Deep w F v (.pv (.sl r) xs)) : Tree w F v r xs [] := by
 cases h with
 | lit _ _ _ _ p he hl hv => cases he; cases hl
 | nil _ _ => exact .inl rfl
 | sl _ cap _ _ u b q vs T hb hg hz hc hx hu hq hd hr =>
  refine .inr ⟨b, cap, q, rfl, hq, hd, fun i j x c h1 h2 => ⟨u i j, ?_, (hr i j x c h1 h2).one, fun _ => hr i j x c h1 h2⟩⟩
  rw [cell_of_row w b _ vs T (0, 0) hg]
  exact hu i j x c h1 h2
theorem TokOk.toTree {Fr Fr' : Nat → Prop} {w : World} {S S' : Stab} {tk : Tok} {v : Value} {F : Nat → Prop} (h : TokOk Fr w S' tk v F) (hd : tk.deep = true) (hp : tk.tr = none) (hF : ∀ b, F b → Fr' b) (hS : ∀ b, F b → ∀ o, ¬ S b o) : TokOk Fr' w S (treeTok tk) v F := by
 have hdp := h.deepOf hp hd
 obtain ⟨h1, h2, _⟩ := h
 refine ⟨fun b hb => ⟨hF b hb, (h1 b hb).2⟩, ?_, ?_⟩
 ·rcases h2 with h2 | ⟨b, cap, vs, T, e, hb, hg, hz, hn, hm, hst, hwr, hc⟩
  ·exact .inl h2
  ·refine .inr ⟨b, cap, vs, T, e, hb, hg, hz, hn, hm, (fun h => by cases h), fun _ o => hS b hb o, fun i j x p hx hp' => ?_⟩
   obtain ⟨u, k1, k2, _⟩ := hc i j x p hx hp'
   refine ⟨u, k1, fun ht => ?_, fun h => by cases h⟩
   simp only [treeTok] at ht
   cases hf : tk.t.flatB with
   | false => rw [hf] at ht; cases ht
   | true => exact jdQ (k2 hp) (flat_isLit tk.t x hf p (List.mem_of_getElem? hp'))
 ·unfold Once
  simp only [treeTok]
  cases hf : tk.t.flatB with
  | true => exact fun _ => hdp
  | false => exact ⟨trivial, trivial, hS, hdp.tree⟩
theorem treeTok_whole (tk : Tok) : (treeTok tk).whole = true := by
 unfold treeTok Tok.whole
 cases tk.t.flatB <;> rfl
structure NT where
 n : Nat
 tk : Tok
 v : Value
 G : Nat → Prop
def addT (tok : Nat → Option TS) (l : List NT) : Nat → Option TS := l.foldl (fun f x => updT f x.n (some (.live x.tk))) tok
theorem Mem.newToks {R : Root} {w : World} {S : Stab} {box : Nat → Option BS} {β : Nat → Nat} : ∀ (l : List NT) {tok : Nat → Option TS} {τ : Nat → Value} {F : Nat → Nat → Prop} (hM : Mem R box tok β τ F S w) (hn : (l.map (·.n)).Nodup)
  (hl : ∀ x, x ∈ l → tok x.n = none ∧ R.tn x.n = none ∧ TokOk R.fr w S x.tk x.v x.G ∧ x.tk.whole = true ∧ (∀ t tk b, tok t = some (.live tk) → x.G b → ¬ F t b) ∧ ∀ k b, box k = some b → ¬ x.G (β k))
  (hd : ∀ (i j : Nat) (x y : NT) (b : Nat), l[i]? = some x → l[j]? = some y → x.G b → y.G b → i = j),
  ∃ τ' F', Mem R box (addT tok l) β τ' F' S w ∧ (∀ t, tok t ≠ none → addT tok l t = tok t ∧ τ' t = τ t) ∧ ∀ x, x ∈ l → addT tok l x.n = some (.live x.tk) ∧ τ' x.n = x.v
 | [], tok, τ, F, hM, _, _, _ => ⟨τ, F, hM, fun _ _ => ⟨rfl, rfl⟩, fun x h => by cases h⟩
 | x :: l, tok, τ, F, hM, hn, hl, hd => by
  obtain ⟨g1, g2, g3, g4, g5, g6⟩ := hl x List.mem_cons_self
  simp only [List.map_cons, List.nodup_cons] at hn
  have hne : ∀ y, y ∈ l → y.n ≠ x.n := fun y hy e => hn.1 (List.mem_map.2 ⟨y, hy, e⟩)
  have hM1 := hM.newTok x.n g1 g2 x.tk x.v x.G g3 g4 (fun t tk b ht hb => g5 t tk b ht hb) g6
  obtain ⟨τ', F', h1, h2, h3⟩ := Mem.newToks l hM1 hn.2 (fun y hy => by
   obtain ⟨k1, k2, k3, k4, k5, k6⟩ := hl y (List.mem_cons_of_mem _ hy)
   refine ⟨by simp only [updT, hne y hy, if_false]; exact k1, k2, k3, k4, fun t tk b ht hb => ?_, k6⟩
   by_cases e : t = x.n
   ·simp only [e, if_true]
    intro hx
    obtain ⟨i, hi⟩ := List.mem_iff_getElem?.1 hy
    have := hd 0 (i + 1) x y b rfl (by simpa using hi) hx hb
    omega
   ·simp only [updT, e, if_false] at ht ⊢
    exact k5 t tk b ht hb) (fun i j y z b hi hj hy hz => by
   have := hd (i + 1) (j + 1) y z b (by simpa using hi) (by simpa using hj) hy hz
   omega)
  refine ⟨τ', F', h1, fun t ht => ?_, fun y hy => ?_⟩
  ·have e : t ≠ x.n := fun e => ht (e ▸ g1)
   obtain ⟨k1, k2⟩ := h2 t (by simp only [updT, e, if_false]; exact ht)
   simp only [updT, e, if_false] at k1 k2
   exact ⟨k1, k2⟩
  ·rcases List.mem_cons.1 hy with rfl | hy
   ·obtain ⟨k1, k2⟩ := h2 y.n (by simp [updT])
    simp only [updT, if_true] at k1 k2
    exact ⟨k1, k2⟩
   ·exact h3 y hy
section
variable {c c' : Ctx} {ρ : Nat → Nat} (ht : ∀ n, c.tok n ≠ none → (∃ tk, c.tok n = some (.live tk)) ∧ c'.tok (ρ n) ≠ none ∧ c'.τ (ρ n) = c.τ n)
include ht
theorem toM0 {x : AV} {v : Value} (hc : x.clean = true) (hb : x.base = true) (hx : V0 c x v) : V0 c' (x.toM ρ) v := by
 cases x with
 | dead => exact True.intro
 | pv t y =>
  obtain ⟨p, h1, h2⟩ := hx
  have hl := flat_isLit t y hc p (by rw [h1]; simp)
  exact ⟨p, h1, by rw [rep_litV h2 hl]; exact Rep.ofLit hl⟩
 | nils => exact hx
 | own n t xs =>
  obtain ⟨h1, h2, h3⟩ := hx
  obtain ⟨⟨tk, g1⟩, g2, g3⟩ := ht n h2
  exact ⟨h1.one, g2, fun _ _ => by rw [g3]; exact (h3 tk g1).2.1⟩
 | agg _ => cases hb
 | tup _ => cases hb
 | nilp => cases hc
 | box k o => cases hc
 | ptr t y o => cases hc
 | mtk n => cases hc
 | mptr n i o => cases hc
 | gmap g => cases hc
 | clo _ _ => cases hc
theorem toM1 {x : AV} {v : Value} (hc : x.clean = true) (hb : x.base = true) (hx : V1 c x v) : V1 c' (x.toM ρ) v := by
 have h0 : V0 c x v := by cases x <;> first | exact hx | cases hb | cases hc
 have := toM0 (ρ := ρ) ht hc hb h0
 exact V1_of_V0 this
theorem toML1 : ∀ {xs : List AV} {vs : List Value}, AV.cleanL xs = true → All2 (V1c c) xs vs → All2 (V1c c') (AV.toML ρ xs) vs
 | [], [], _, _ => True.intro
 | x :: xs, _ :: vs, hc, h => by
  simp only [AV.cleanL, Bool.and_eq_true] at hc
  refine ⟨⟨?_, h.1.2⟩, toML1 hc.2 h.2⟩
  cases hb : x.base with
  | true => exact toM1 ht hc.1 hb h.1.1
  | false =>
   cases x with
   | agg _ => exact h.1.1.elim
   | tup _ => exact h.1.1.elim
   | clo _ _ => cases hc.1
   | _ => cases hb
 | [], _ :: _, _, h => h.elim
 | _ :: _, [], _, h => h.elim
theorem toM2 {x : AV} {v : Value} (hc : x.clean = true) (hx : V2 c x v) : V2 c' (x.toM ρ) v := by
 cases hb : x.base with
 | true =>
  have h1 : V1 c x v := by cases x <;> first | exact hx | cases hb
  exact V2_of_V1 (toM1 ht hc hb h1)
 | false =>
  cases x with
  | agg cs => obtain ⟨us, e, ha⟩ := hx; exact ⟨us, e, toML1 ht hc ha⟩
  | tup _ => exact hx.elim
  | clo _ _ => cases hc
  | _ => cases hb
theorem toML2 : ∀ {xs : List AV} {vs : List Value}, AV.cleanL xs = true → All2 (V2 c) xs vs → All2 (V2 c') (AV.toML ρ xs) vs
 | [], [], _, _ => True.intro
 | x :: xs, _ :: vs, hc, h => by
  simp only [AV.cleanL, Bool.and_eq_true] at hc
  exact ⟨toM2 ht hc.1 h.1, toML2 hc.2 h.2⟩
 | [], _ :: _, _, h => h.elim
 | _ :: _, [], _, h => h.elim
theorem toM3 {x : AV} {v : Value} (hc : x.clean = true) (hx : V3 c x v) : V3 c' (x.toM ρ) v := by
 by_cases hb : ∃ cs, x = .tup cs
 ·obtain ⟨cs, rfl⟩ := hb
  obtain ⟨us, e, ha⟩ := hx
  exact ⟨us, e, toML2 ht hc ha⟩
 ·have h2 : V2 c x v := by cases x <;> first | exact hx | exact absurd ⟨_, rfl⟩ hb
  exact V3_of_V2 (toM2 ht hc h2)
end
section
variable {E : Env} {o : Oper} {s : LSt} {e : Eff} {fp : FP}
def tkOf (x : Nat × Option TS) : Tok := match x.2 with
 | some (.live tk) => tk
 | _ => ⟨.unit, [], 0, false, false, none⟩
theorem sim_lend (hE : EnvOk E) (c : Call) (ho : o.op = .call c) (g : Operand) (hc : c.callee = .value g) (f : FuncId) (cs : List AV) (hg : s.ev g = .clo f cs) (h : (lendRD E f o.dst (c.args.toList.map s.ev ++ cs)).R s [] [] e fp) : Sim E o s e := by
 unfold lendRD at h
 obtain ⟨B, rb1, hB, h⟩ := readB_R _ _ _ _ _ h (fun k b h => by cases h)
 obtain ⟨T, rt1, hT, h⟩ := readT_R _ _ _ _ _ h (fun k b h => by cases h)
 obtain ⟨m, a0, acc, hm, hcv, h⟩ := pickM_R _ h
 split at h
 case isFalse => exact h.elim
 rename_i hcond
 obtain ⟨hrt, hrb, hbx⟩ := hcond
 obtain ⟨r, hr, h⟩ := h
 unfold lendRet at h
 simp only at h
 split at h
 case isFalse => exact h.elim
 rename_i hok
 obtain ⟨cB, cT, cN, cL⟩ := hok
 obtain ⟨hfT, rt2, h⟩ := freshT_R _ _ _ _ h
 split at h
 case h_1 => exact h.elim
 rename_i v0 vl hL
 obtain ⟨he, _⟩ := h
 obtain ⟨s1, hs1⟩ : ∃ s1, s1 = m.ret.mk' r := ⟨_, rfl⟩
 rw [← hs1] at hfT hL he cB cT cN cL
 have hMod := hE.fn f m hm
 obtain ⟨⟨fn, hfn, hname, hbody⟩, hrunm⟩ := hMod
 have hfc := hrunm a0 r hr
 rw [← hs1] at hfc
 obtain ⟨s0, hs0⟩ : ∃ s0, s0 = m.arg.mk' a0 := ⟨_, rfl⟩
 rw [← hs0] at hfc
 rintro R a w hR0 ⟨β, τ, F, S, hM, hn, hdf, hsl⟩ K Q hK
 have hev := V3_ev hsl
 obtain ⟨us, hgv, hus⟩ := v3_clo (hg ▸ hev g)
 have hvals : All2 (V3 (s.ctx w S β τ)) (c.args.toList.map s.ev ++ cs) (c.args.toList.map a.eval ++ us) := (all2_map hev _).append (all2_v0 hus)
 obtain ⟨hinv, S', hSS, hM', hcb, hct, hct2, hcb2, hMB, hv0⟩ := conv_mem hM hB hT hcv hvals
 rw [← hs0] at hcb hct hct2 hcb2 hMB hv0
 have noB : ∀ k b, lookB s0.B k ≠ some b := fun k b hk => by
  obtain ⟨k', b', g1, _⟩ := hcb k b hk
  have : acc.rb = [] := List.isEmpty_iff.1 hrb
  rw [this] at g1; cases g1
 have noT : ∀ n tk, lookT s0.T n ≠ some (.live tk) := fun n tk hk => by
  obtain ⟨n', g1, _⟩ := hct n tk hk
  have : acc.rt = [] := List.isEmpty_iff.1 hrt
  rw [this] at g1; cases g1
 have hMc : Mem (lentRoot s0 (shβ acc β) (shτ acc τ) (shF acc F) S' w) (lookB s0.B) (lookT s0.T) (shβ acc β) (shτ acc τ) (shF acc F) S' w := by
  obtain ⟨g1, g2, g3, g4, g5⟩ := hMB (lentRoot s0 (shβ acc β) (shτ acc τ) (shF acc F) S' w).fr (fun k b hk => .inr (.inl ⟨k, b, hk, rfl⟩)) (fun t tk b ht hb => .inr (.inr ⟨t, tk, ht, hb⟩))
  exact ⟨Upd.refl _ _, fun _ _ h => h, fun _ _ h => .inl h, fun _ _ _ => rfl, hM'.lt, g1, g2, g3, g4, g5, (fun k b hb hk => by
   obtain ⟨b', hb'⟩ := Option.ne_none_iff_exists'.1 hk
   exact absurd hb' (noB k b')), fun t v tk hv ht => absurd ht (noT t tk), fun n tk hs i o d hn htr hin => absurd hn (noT n tk)⟩
 have hgl : GlobOk w (lent s0 (shβ acc β) (shF acc F)) S' := hR0.2.2.later hM hSS fun b hb => by
  rcases hb with ⟨k, x, hk, _⟩ | ⟨t, tk, ht, _⟩
  ·exact absurd hk (noB k x)
  ·exact absurd ht (noT t tk)
 have hcall := hfc w S' (shβ acc β) (shτ acc τ) (shF acc F) _ hgl hMc hv0
 have hrun : (execOp a.eval o).run E.P w = .ok (.enter f (c.args.toList.map a.eval ++ us).toArray) w := by
  have hb' : ¬ fn.body = none := fun e => by rw [e] at hbody; cases hbody
  have ea : (c.args.toList.map a.eval ++ us).toArray = #[] ++ c.args.map a.eval ++ us.toArray := by apply Array.ext'; simp
  rw [ea]
  simp [execOp, ho, resolve, hc, hgv, Deferred.ofValue, invoke, callFunc, hfn, hname, hb']
 unfold Oper.wp
 rw [hrun, Oper.upon_enter]
 refine hcall.mono fun e' w1 he' => ?_
 obtain ⟨v, β1, τ1, F1, S1, rfl, hC, x, hx, hvx⟩ := he'
 rw [hL] at hx
 simp only [List.head?_cons, Option.some.injEq] at hx
 subst hx
 simp only
 have hlent : ∀ b, ¬ lent s0 (shβ acc β) (shF acc F) b := fun b hb => by
  rcases hb with ⟨k, x, hk, _⟩ | ⟨t, tk, ht, _⟩
  ·exact noB k x hk
  ·exact noT t tk ht
 have hup : Upd (fun _ => False) w w1 := ⟨hC.upd.os, hC.upd.tape, hC.upd.output, hC.upd.size, fun i hi _ => hC.upd.block i hi (hlent i)⟩
 have hstep : Step (fun _ => False) S S w w1 := ⟨hup, fun b o hb => World.cell?_of_block (w := w) (hup.block b (hM.lt b o hb) (fun h => h)), fun _ _ h => h, fun _ _ h => .inl h, fun b o hb => Nat.lt_of_lt_of_le (hM.lt b o hb) hup.size⟩
 have hM1 := hM.step hstep (fun _ h => h.elim) (fun _ _ _ h => h) (fun _ _ _ _ _ h => h)
 obtain ⟨ρ, hρ⟩ : ∃ ρ, ρ = tokName (o.dst.getD 0) := ⟨_, rfl⟩
 rw [← hρ] at hfT he
 have live1 : ∀ x, x ∈ s1.T → ∃ tk, x.2 = some (.live tk) ∧ tk.deep = true ∧ tk.wr = false ∧ tk.tr = none ∧ lookT s1.T x.1 = some (.live tk) := fun x hx => by
  have h1 := List.all_eq_true.1 cT x hx
  unfold ownDeep at h1
  split at h1
  ·rename_i tk htk
   simp only [Bool.and_eq_true, Bool.not_eq_true', Option.isNone_iff_eq_none] at h1
   refine ⟨tk, htk, h1.1.1, h1.1.2, h1.2, ?_⟩
   obtain ⟨n, z⟩ := x
   simp only at htk
   subst htk
   exact lookT_nodup cN n _ hx
  ·cases h1
 obtain ⟨l, hl⟩ : ∃ l : List NT, l = s1.T.map fun x => ⟨ρ x.1, treeTok (tkOf x), τ1 x.1, F1 x.1⟩ := ⟨_, rfl⟩
 have hmemT : ∀ n, lookT s1.T n ≠ none → ∃ x, x ∈ s1.T ∧ x.1 = n := fun n h => by
  obtain ⟨z, hz⟩ := Option.ne_none_iff_exists'.1 h
  exact ⟨(n, some z), lookT_mem hz, rfl⟩
 have hρi : ∀ {i j}, ρ i = ρ j → i = j := fun h => by rw [hρ] at h; exact tokName_inj h
 obtain ⟨τ2, F2, hM2, hold, hnew⟩ := hM1.newToks l (by
   rw [hl, List.map_map]
   have : (s1.T.map ((fun x : NT => x.n) ∘ fun x => (⟨ρ x.1, treeTok (tkOf x), τ1 x.1, F1 x.1⟩ : NT))) = (s1.T.map (·.1)).map ρ := by rw [List.map_map]; rfl
   rw [this]
   exact nodup_map (fun x y _ _ h => hρi h) cN) (fun y hy => by
   rw [hl] at hy
   obtain ⟨x, hx, rfl⟩ := List.mem_map.1 hy
   obtain ⟨tk, e1, e2, e3, e4, e5⟩ := live1 x hx
   have etk : tkOf x = tk := by unfold tkOf; rw [e1]
   obtain ⟨f1, f2⟩ := hfT (ρ x.1) (List.mem_map.2 ⟨x, hx, rfl⟩)
   have hk := hC.toks x.1 tk e5
   have hge : ∀ b, F1 x.1 b → w.heap.size ≤ b := fun b hb => by
    rcases (hk.1 b hb).1 with h | h
    ·exact h
    ·exact absurd h (hlent b)
   refine ⟨f1, hR0.tn f2, ?_, treeTok_whole _, fun t tk' b ht hb hF => ?_, fun k b hk' hb => ?_⟩
   ·show TokOk R.fr w1 S (treeTok (tkOf x)) (τ1 x.1) (F1 x.1)
    rw [etk]
    exact hk.toTree e2 e4 (fun b hb => .inl (Nat.le_trans hM.size (hge b hb))) (fun b hb o hS => by have := hM.lt b o hS; have := hge b hb; omega)
   ·have := ((hM.toks t tk' ht).1 b hF).2
    have := hge b hb
    omega
   ·have := hM.blt hk'
    have := hge _ hb
    omega) (fun i j x y b hi hj hx hy => by
   rw [hl, List.getElem?_map] at hi hj
   obtain ⟨x', hx', rfl⟩ := Option.map_eq_some_iff.1 hi
   obtain ⟨y', hy', rfl⟩ := Option.map_eq_some_iff.1 hj
   obtain ⟨tk, _, _, _, _, e5⟩ := live1 x' (List.mem_of_getElem? hx')
   obtain ⟨tk2, _, _, _, _, e6⟩ := live1 y' (List.mem_of_getElem? hy')
   have hnn := hC.tdis x'.1 y'.1 tk tk2 b e5 e6 hx hy
   rw [List.nodup_iff_pairwise_ne, List.pairwise_iff_getElem] at cN
   obtain ⟨hi1, hi2⟩ := List.getElem?_eq_some_iff.1 hx'
   obtain ⟨hj1, hj2⟩ := List.getElem?_eq_some_iff.1 hy'
   rcases Nat.lt_trichotomy i j with h | h | h
   ·have := cN i j (by simpa using hi1) (by simpa using hj1) h
    simp only [List.getElem_map, hi2, hj2] at this
    exact absurd hnn this
   ·exact h
   ·have := cN j i (by simpa using hj1) (by simpa using hi1) h
    simp only [List.getElem_map, hi2, hj2] at this
    exact absurd hnn.symm this)
 have htokE : e.updT (lookT s.T) = addT (lookT s.T) l := by
  rw [he, hl]
  unfold Eff.updT addT
  simp only
  rw [List.foldl_map, List.foldl_map]
  have key : ∀ (ts : List (Nat × Option TS)) (f : Nat → Option TS), (∀ x, x ∈ ts → ∃ tk, x.2 = some (.live tk)) → ts.foldl (fun f x => updT f (treeOf ρ x).1 (treeOf ρ x).2) f = ts.foldl (fun f x => updT f (ρ x.1) (some (.live (treeTok (tkOf x))))) f := fun ts => by
   induction ts with
   | nil => intro f _; rfl
   | cons x ts ih =>
    intro f hx
    obtain ⟨tk, e1⟩ := hx x List.mem_cons_self
    simp only [List.foldl_cons]
    rw [show treeOf ρ x = (ρ x.1, some (.live (treeTok (tkOf x)))) from by unfold treeOf tkOf; rw [e1]]
    exact ih _ fun y hy => hx y (List.mem_cons_of_mem _ hy)
  exact key s1.T _ fun x hx => by obtain ⟨tk, e1, _⟩ := live1 x hx; exact ⟨tk, e1⟩
 have hboxE : e.updB (lookB s.B) = lookB s.B := by rw [he]; rfl
 have hs1' : ∀ i, V3 ⟨w1, S, fun k => e.updB (lookB s.B) k ≠ none, β, e.updT (lookT s.T), τ2⟩ (getA s.L i) (a.tmps.getD i undef) := fun i => by
  rw [htokE, hboxE]
  exact V3.mono (c := s.ctx w S β τ) (c' := ⟨w1, S, fun k => lookB s.B k ≠ none, β, addT (lookT s.T) l, τ2⟩) ⟨fun _ _ h => h, hstep.cell⟩ (BoxLe.refl rfl rfl) (fun t ht => by
   obtain ⟨k1, k2⟩ := hold t ht
   exact ⟨by show addT _ _ t ≠ none; rw [k1]; exact ht, fun tk' htk => ⟨tk', k1.symm.trans htk, k2, rfl, fun h => ⟨h, rfl⟩⟩⟩) (hsl i)
 refine hK _ _ (rel_put (s := s) (e := e) (by rw [hboxE, htokE]; exact hM2) hn hdf hs1' o.dst ?_)
 cases hd : o.dst with
 | none => exact .inl rfl
 | some d =>
  right
  have hv : e.val = v0.toM ρ := by rw [he]; simp [hd]
  rw [hv, htokE, hboxE]
  have hcl : v0.clean = true := by
   rw [hL] at cL
   simp only [AV.cleanL, Bool.and_eq_true] at cL
   exact cL.1
  refine toM3 (c := s1.ctx w1 S1 β1 τ1) (c' := ⟨w1, S, fun k => lookB s.B k ≠ none, β, addT (lookT s.T) l, τ2⟩) (fun n hn => ?_) hcl hvx
  obtain ⟨x, hx, rfl⟩ := hmemT n hn
  obtain ⟨tk, _, _, _, _, e5⟩ := live1 x hx
  obtain ⟨k1, k2⟩ := hnew ⟨ρ x.1, treeTok (tkOf x), τ1 x.1, F1 x.1⟩ (by rw [hl]; exact List.mem_map.2 ⟨x, hx, rfl⟩)
  exact ⟨⟨tk, e5⟩, by show addT _ _ (ρ x.1) ≠ none; rw [k1]; simp, k2⟩
theorem sim_call (hE : EnvOk E) (c : Call) (ho : o.op = .call c) (g : Operand) (hc : c.callee = .value g) (h : (opRD E o.op o.dst s.ev).R s [] [] e fp) : Sim E o s e := by
 rw [ho] at h
 simp only [opRD, hc] at h
 split at h
 case h_2 => exact h.elim
 rename_i f cs hg
 cases hd : lends E o.dst with
 | true => rw [hd] at h; exact sim_lend hE c ho g hc f cs hg h
 | false => rw [hd] at h; exact sim_callN hE c ho g hc f cs hg h
end
end Go.Proofs.YtcjbjmbialienaaGreatDoor
