/- The engine: trees that are laid as literals, and trees behind trees. -/
import Derived.Test.YtcjbjmbialienaaGreatDoorKM
set_option linter.unusedSimpArgs false
set_option linter.unusedVariables false
namespace Go.Proofs.YtcjbjmbialienaaGreatDoor
open Go.RowKit
section
variable {E : Env} {o : Oper} {s : LSt} {e : Eff} {fp : FP}
theorem jhX {d : Nat} {r : Tp} {xs : List r.D} {e' : TypeId} {es : List (Nat × Option TS)} {rb rt : List Nat} (h : (newTree E d r xs e' es).R s rb rt e fp) :
  lookT s.T d = none ∧ (∀ y, y ∈ es → y.1 ≠ d) ∧ E.res d = false ∧ E.wr d = true ∧ r.flatB = false ∧ e = ⟨jD d ⟨r, xs, e', true, true, some []⟩, [], es ++ [(d, some (.live ⟨r, xs, e', true, true, some []⟩))]⟩ := by
 unfold newTree at h
 simp only [RD.R] at h
 split at h
 ·exact h.elim
 ·rename_i hd
  split at h
  ·exact h.elim
  ·rename_i hc
   simp only [Bool.or_eq_true, not_or, Bool.not_eq_true] at hc
   split at h
   case isFalse => exact h.elim
   rename_i hw
   refine ⟨hd, fun y hy e => ?_, hc.2, hw.1, hw.2, h.1⟩
   have := List.any_eq_false.1 hc.1 y hy
   simp [e] at this
theorem jqa {w : World} {S : Stab} (X : Nat → Prop) (hS : ∀ b o, S b o → b < w.heap.size) (β : Nat → Nat) (τ : Nat → Value) (F : Nat → Nat → Prop) :
  Mem ⟨w, X, S, fun _ => none, fun _ => none⟩ (fun _ => none) (fun _ => none) β τ F S w where
 upd := Upd.refl _ _
 old := fun _ _ h => h
 new := fun _ _ h => .inl h
 keep := fun _ _ _ => rfl
 lt := hS
 boxes := fun _ _ h => by cases h
 binj := fun _ _ _ _ h => by cases h
 toks := fun _ _ h => by cases h
 tdis := fun _ _ _ _ _ h => by cases h
 tbox := fun _ _ _ _ h => by cases h
 bfix := fun _ _ h => by cases h
 tfix := fun _ _ _ h => by cases h
 hol := fun _ _ _ _ _ _ h => by cases h
theorem jq5 (hE : EnvOk E) (c : Call) (ho : o.op = .call c) (hc : c.callee = .builtin .append) (d : Nat) (x y : Operand) (T : TypeId) (ty : Ty) (e' : TypeId) (r : Tp) (by' t : Nat) (tk : Tok)
  (hdst : o.dst = some d) (hx : c.args.toList = [x, y]) (hT : c.argTypes.toList = [T, T]) (hty : E.ty T = some ty) (he : ty.elem = some (e', r, by')) (hxv : s.ev x = .mtk t) (htk : lookT s.T t = some (.live tk)) (er : tk.t = r ∧ tk.tr = some []) (ee : tk.e = e')
  (h : (appendTree E d e' r by' t (er.1 ▸ tk.xs) (s.ev y)).R s [] [t] e fp) : Sim E o s e := by
 obtain ⟨er, etr⟩ := er
 subst er
 unfold appendTree at h
 split at h
 case h_2 => exact h.elim
 rename_i n hy
 simp only [RD.R] at h
 split at h
 case h_2 => exact h.elim
 rename_i tk2 htk2
 split at h
 case isFalse => exact h.elim
 rename_i e2
 obtain ⟨e2, e2r⟩ := e2
 split at h
 ·exact h.elim
 rename_i hnt
 have hnt : n ≠ t := by simpa using hnt
 obtain ⟨⟨hbytes, h63⟩, h⟩ := h
 obtain ⟨hd, hfr, hres, hwr, hfl, rfl⟩ := jhX h
 rintro R a w hR0 ⟨β, τ, F, S, hM, hn, hdf, hsl⟩ K Q hK
 have hev := V3_ev hsl
 obtain ⟨hu, hpos, ie, z, hie, hsz, hby, hz, hzs⟩ := (hE.ty T ty hty).elem _ _ _ he
 have ea : c.args = #[x, y] := by apply Array.ext'; simpa using hx
 have eT : c.argTypes = #[T, T] := by apply Array.ext'; simpa using hT
 have h1 := hev x; rw [hxv] at h1
 have h2 := hev y; rw [hy] at h2
 have vx : a.eval x = τ t := (v3_mtk h1).2.2 tk htk
 have vy : a.eval y = τ n := (v3_mtk h2).2.2 tk2 htk2
 have ok1 := hM.toks t tk htk
 have ok2 := hM.toks n tk2 htk2
 have w1 : tk.whole = true := by unfold Tok.whole; rw [etr]
 have w2 : tk2.whole = true := by unfold Tok.whole; rw [e2r]
 have d1 := (ok1.tree etr).2
 have d2 := (ok2.tree e2r).2
 have D2 := ok2.deepTree e2r
 obtain ⟨S1, hM1, hS1, k1⟩ := hM.freezeTok t tk htk w1
 obtain ⟨S2, hM2, hS2, k2⟩ := hM1.freezeTok n tk2 (by simp only [updT, if_neg hnt]; exact htk2) w2
 have k1' := hM2.toks t tk.fz0 (by simp only [updT, if_neg (Ne.symm hnt), if_true])
 obtain ⟨X, hX⟩ : ∃ X : Nat → Prop, X = fun b => F t b ∨ F n b := ⟨_, rfl⟩
 have hdis : ∀ b, F n b → ¬ F t b := fun b g1 g2 => hnt (hM.tdis n t tk2 tk b htk2 htk g1 g2)
 obtain ⟨t2, xs2, et2, wr2, dp2, tr2⟩ := tk2
 simp only at e2 e2r d2
 subst e2
 subst e2r
 subst d2
 have hb : TokOk (Root.fr ⟨w, X, S2, fun _ => none, fun _ => none⟩) w S2 ⟨tk.t, tk.xs, e', false, true, none⟩ (τ t) (F t) := by
  have := k1'.fr (Fr' := Root.fr ⟨w, X, S2, fun _ => none, fun _ => none⟩) (fun b hb => .inr (by rw [hX]; exact .inl hb))
  have e3 : tk.fz0 = ⟨tk.t, tk.xs, e', false, true, none⟩ := by unfold Tok.fz0; rw [← ee, ← d1]
  rw [e3] at this
  exact this
 obtain ⟨v', w', S', hrun, hM', hle, hTk⟩ := append_core (P := E.P) (jqa (S := S2) X hM2.lt β τ F) T o.type e' ie z tk.t by' hu hie hz hsz hby hzs hpos (τ t) (τ n) tk.xs xs2 false true true (F t) (F n) hb (Elems.of_tok k2 rfl) (fun _ => .inr ⟨D2, hdis⟩)
  (fun b hb => ⟨.inr (by rw [hX]; exact .inr hb), (ok2.1 b hb).2⟩) (fun _ _ _ h => by cases h) (fun _ _ h => by cases h) hbytes h63
 have hr : (execOp a.eval o).run E.P w = .ok (.value v') w' := by
  simp only [execOp, ho, resolve, hc, invoke, builtin, Sem.run_bind, Sem.run_pure, Result.andThen_ok, ea, eT, List.map_toArray, List.map_cons, List.map_nil, vx, vy, hrun]
 have D3 := hTk.deepOf rfl rfl
 have hstep : Step X S S w w' := by
  have hcells : ∀ b o, S b o → w'.cell? ⟨b, o, none⟩ = w.cell? ⟨b, o, none⟩ := fun b o hb => hM'.keep b o (hS2 b o (hS1 b o hb))
  exact ⟨hM'.upd, hcells, fun _ _ h => h, fun _ _ h => .inl h, fun b o hb => Nat.lt_of_lt_of_le (hM.lt b o hb) hM'.size⟩
 have hMs := (hM.drop (tok' := jd (lookT s.T) [t, n]) (fun t ht => jQ ht) (fun t tk h => (jo h).2)).step hstep
  (fun k hk => by rw [hX] at hk; rcases hk with hk | hk; exact (ok1.1 k hk).1; exact (ok2.1 k hk).1)
  (fun k b hk hb => by rw [hX] at hb; rcases hb with hb | hb; exact hM.tbox t tk k b htk hk hb; exact hM.tbox n _ k b htk2 hk hb)
  (fun t' tk' ht' k hk hb => by
   obtain ⟨g1, g2⟩ := jo ht'
   rw [hX] at hb
   rcases hb with hb | hb
   ·exact g1 (by rw [hM.tdis t' t tk' tk k g2 htk hk hb]; simp)
   ·exact g1 (by rw [hM.tdis t' n tk' _ k g2 htk2 hk hb]; simp))
 have hnew : ∀ b, w.heap.size ≤ b → R.fr b := fun b hb => .inl (Nat.le_trans hM.size hb)
 have hTT : TokOk R.fr w' S ⟨tk.t, tk.xs ++ xs2, e', true, true, some []⟩ v' (fun b => (F t b ∨ F n b ∨ w.heap.size ≤ b) ∧ b < w'.heap.size) := by
  have := TokOk.ofDeep (Fr := R.fr) (S := S) D3 (fun b hb => ⟨by rcases hb.1 with h | h | h; exact (ok1.1 b h).1; exact (ok2.1 b h).1; exact hnew b h, hb.2⟩) (fun b hb o hS => by
   rcases hb.1 with h | h | h
   ·exact ok1.noS etr b h o hS
   ·exact ok2.noS rfl b h o hS
   ·have := hM.lt b o hS; omega) e'
  rw [hfl] at this
  exact this
 refine wp_value hr (hK _ _ (jak (s := s) [t, n] hMs hn hdf hsl (fun live tok' live' β' τ' => ⟨fun _ _ h => h, hstep.cell⟩) d hd (hR0.tn hres) ⟨tk.t, tk.xs ++ xs2, e', true, true, some []⟩ v' _ hTT rfl (fun t' tk' b htl ht hb hF => ?_) (fun k b hk hb => ?_) o.dst (fun hin => ?_) _ rfl))
 ·rcases hb.1 with h | h | h
  ·exact htl (by rw [hM.tdis t' t tk' tk b ht htk hF h]; simp)
  ·exact htl (by rw [hM.tdis t' n tk' _ b ht htk2 hF h]; simp)
  ·have := ((hM.toks t' tk' ht).1 b hF).2; omega
 ·rcases hb.1 with h | h | h
  ·exact hM.tbox t tk k b htk hk h
  ·exact hM.tbox n _ k b htk2 hk h
  ·have := hM.blt hk; omega
 ·simp only [List.mem_cons, List.not_mem_nil, or_false] at hin
  rcases hin with rfl | rfl
  ·rw [htk] at hd; cases hd
  ·rw [htk2] at hd; cases hd
theorem jgf {y : AV} : ∀ {l : List AV}, zeroDeep l = true → y ∈ l → zeroDeep [y] = true
 | [], _, h => by cases h
 | x :: l, hz, h => by
  have key : zeroDeep [x] = true ∧ zeroDeep l = true := by
   cases x with
   | pv t y => simp only [zeroDeep, Bool.and_eq_true, and_true] at hz ⊢; exact hz
   | nils => simp only [zeroDeep] at hz ⊢; exact ⟨trivial, hz⟩
   | _ => cases hz
  rcases List.mem_cons.1 h with rfl | h
  ·exact key.1
  ·exact jgf key.2 h
theorem jr6 (hE : EnvOk E) (T : TypeId) (len : Nat) (parts : Array (Nat × Operand)) (ho : o.op = .buildSlice T len parts) (d : Nat) (ty : Ty) (e' : TypeId) (r : Tp) (by' : Nat) (cs : List AV) (xs : List r.D)
  (hdst : o.dst = some d) (hty : E.ty T = some ty) (he : ty.elem = some (e', r, by')) (hcs : partCells r.w 0 (parts.toList.map fun q => (q.1, s.ev q.2)) = some cs) (hxs : mkRows r len cs = some xs) (hlen : len = parts.toList.length) (hsmall : len * r.w ≤ 16777216) (hzd : zeroDeep cs = true)
  (h : (newTree E d r xs e' []).R s [] [] e fp) : Sim E o s e := by
 have hT := hE.ty T ty hty
 obtain ⟨hd, _, hres, hwr, hfl, rfl⟩ := jhX h
 rintro R a w hR0 ⟨β, τ, F, S, hM, hn, hdf, hsl⟩ K Q hK
 have hev := V3_ev hsl
 obtain ⟨hu, hpos, ie, z, hie, hsz, hby, hz, hzs⟩ := hT.elem _ _ _ he
 obtain ⟨p1, p2, p3, p4⟩ := jdC hev r.w parts.toList 0 cs hcs
 obtain ⟨hxl, hxt⟩ := jc8 r len cs xs hxs
 obtain ⟨vals, hvals⟩ : ∃ vals, vals = parts.toList.map fun q => a.eval q.2 := ⟨_, rfl⟩
 have hvl : vals.length = len := by rw [hvals, hlen]; simp
 have hrun0 := jjq (P := E.P) w T e' (parts.toList.map fun q => (q.1, a.eval q.2)) len r.w ie z hu hie hz hsz hzs hpos hsmall vals (by rw [p1, ← hvals]) hvl (by rw [hvals]; exact p2)
 obtain ⟨us, hus⟩ : ∃ us, us = (vals.map fun v => v.cells.toList).flatten := ⟨_, rfl⟩
 have hcu : All2 (V1c (s.ctx w S β τ)) cs us := by
  rw [hus, hvals, List.map_map]; exact p3
 have hul : us.length = len * r.w := by rw [← hcu.len, p4, ← hlen]
 rw [← hus] at hrun0
 have hrun : (execOp a.eval o).run E.P w = .ok (.value (.slice (some ⟨w.heap.size, 0, none⟩) len len)) (w.alloc (.cells us.toArray e')) := by
  have ep : (parts.map fun (i, x) => (i, a.eval x)) = (parts.toList.map fun q => (q.1, a.eval q.2)).toArray := by apply Array.ext'; simp
  simp only [execOp, ho, Sem.run_bind, ep, hrun0, Result.andThen_ok, Sem.run_pure]
 obtain ⟨w', hw'⟩ : ∃ w', w' = w.alloc (.cells us.toArray e') := ⟨_, rfl⟩
 rw [← hw'] at hrun
 have hb : Below w.heap.size w w' := by rw [hw']; exact (Below.refl _ _).alloc (Nat.le_refl _) _
 have hnew : w'.heap[w.heap.size]? = some (.cells us.toArray e' (0, 0)) := by rw [hw']; exact heap_alloc_new w _
 have hsz' : w'.heap.size = w.heap.size + 1 := by rw [hw']; simp
 have hM1 := (hM.drop (tok' := jd (lookT s.T) []) (fun t ht => jQ ht) (fun t tk h => (jo h).2)).grow hb (fun _ _ h => h) (fun _ _ h => .inl h) (fun b q hq => by have := hM.lt b q hq; omega)
 have hlm : len ≤ maxLen := by
  have : len ≤ len * r.w := Nat.le_mul_of_pos_right _ hpos
  simp only [maxLen]; omega
 have hrow' : ∀ (i j : Nat) (x : r.D) (c : AV), xs[i]? = some x → (cellsOf r x)[j]? = some c → ∃ u, us[i * r.w + j]? = some u ∧ Deep w' (fun _ => False) u c := fun i j x c hx hc => by
  have hj : j < r.w := cells_lt hc
  have ha := hxt i x hx
  have hal := ha.len
  rw [cells_len] at hal
  obtain ⟨y, hy⟩ : ∃ y, ((cs.drop (i * r.w)).take r.w)[j]? = some y := ⟨_, List.getElem?_eq_getElem (by rw [hal]; exact hj)⟩
  have hyc := ha.get' j y c hy hc
  rw [List.getElem?_take, if_pos hj, List.getElem?_drop] at hy
  obtain ⟨u, hu1, hu2⟩ := hcu.get _ _ hy
  exact ⟨u, hu1, (jee [y] [c] [u] (jgf hzd (List.mem_of_getElem? hy)) ⟨hyc, True.intro⟩ ⟨hu2, True.intro⟩).1⟩
 have hD : Deep w' (fun b => b = w.heap.size) (.slice (some ⟨w.heap.size, 0, none⟩) len len) (.pv (.sl r) xs) := by
  have := Deep.sl (w := w') (fun b => b = w.heap.size) len r xs (fun i j => (us[i * r.w + j]?).getD undef) w.heap.size (fun _ _ _ => False) us.toArray e' rfl hnew (by simpa using hul) (by rw [hxl]; exact Nat.le_refl _) hlm
   (fun i j x c hx hc => ?_) (fun _ _ _ h => h.elim) (fun _ _ _ _ _ h => h.elim) (fun i j x c hx hc => ?_)
  ·rwa [hxl] at this
  ·obtain ⟨u, h1, _⟩ := hrow' i j x c hx hc
   simp only [List.getElem?_toArray, h1, Option.getD_some]
  ·obtain ⟨u, h1, h2⟩ := hrow' i j x c hx hc
   simp only [h1, Option.getD_some]
   exact h2
 have hTk : TokOk R.fr w' S ⟨r, xs, e', true, true, some []⟩ (.slice (some ⟨w.heap.size, 0, none⟩) len len) (fun b => b = w.heap.size) := by
  have := TokOk.ofDeep (Fr := R.fr) (S := S) hD (fun b hb => by subst hb; exact ⟨.inl hM.size, by omega⟩) (fun b hb o hS => by subst hb; have := hM.lt _ o hS; omega) e'
  rw [hfl] at this
  exact this
 exact wp_value hrun (hK _ _ (jak (s := s) [] hM1 hn hdf hsl (fun _ _ _ _ _ => ⟨fun _ _ h => h, fun b q hq => (bcell hb).1 b q (hM.lt b q hq)⟩) d hd (hR0.tn hres) ⟨r, xs, e', true, true, some []⟩ _ _ hTk rfl
  (fun t tk' b htl ht hb' hF => by have := ((hM.toks t tk' ht).1 _ hF).2; omega) (fun k b hk hb' => by have := hM.blt hk; omega) o.dst (by simp) _ rfl))
theorem Mem.thaw {R : Root} {w : World} {S : Stab} {box : Nat → Option BS} {tok : Nat → Option TS} {β : Nat → Nat} {τ : Nat → Value} {F : Nat → Nat → Prop} (hM : Mem R box tok β τ F S w) (n : Nat) (tk : Tok) (htk : tok n = some (.live tk)) (htr : tk.tr = some []) :
  ∃ S', Mem R box (updT tok n (some (.live tk.thaw))) β τ F S' w ∧ (∀ b o, S b o → S' b o) := by
 have hk := hM.toks n tk htk
 have hns := hk.noS htr
 obtain ⟨hw, _⟩ := hk.tree htr
 obtain ⟨hF, hk1, hon⟩ := hk
 obtain ⟨S', hS'⟩ : ∃ S' : Stab, S' = fun b o => S b o ∨ (F n b ∧ ∀ l cap, τ n ≠ .slice (some ⟨b, 0, none⟩) l cap) := ⟨_, rfl⟩
 have hSo : ∀ b o, S b o → S' b o := fun b o h => by rw [hS']; exact .inl h
 have hstep : Step (fun b => F n b) S S' w w := ⟨Upd.refl _ _, fun _ _ _ => rfl, hSo, fun b o h => by
  rw [hS'] at h
  rcases h with h | h
  ·exact .inl h
  ·exact .inr (.inr h.1), fun b o h => by
  rw [hS'] at h
  rcases h with h | h
  ·exact hM.lt b o h
  ·exact (hF b h.1).2⟩
 have hTk : TokOk R.fr w S' tk.thaw (τ n) (F n) := by
  refine ⟨hF, ?_, (fun h => by cases h)⟩
  rcases hk1 with ⟨e1, e2⟩ | ⟨b, cap, vs, T, e1, h1, hg, hz, hn, hm, hst, hwr, hc⟩
  ·exact .inl ⟨e1, e2⟩
  ·refine .inr ⟨b, cap, vs, T, e1, h1, hg, hz, hn, hm, (fun h => by have h : tk.wr = false := h; rw [hw] at h; cases h), fun _ o ho => ?_, fun i j x p hx hp => ?_⟩
   ·rw [hS'] at ho
    rcases ho with ho | ho
    ·exact hns b h1 o ho
    ·exact ho.2 _ _ e1
   ·obtain ⟨u, k1, _⟩ := hc i j x p hx hp
    have hj : j < tk.t.w := by have := (List.getElem?_eq_some_iff.1 hp).1; rwa [enc_len] at this
    refine ⟨u, k1, fun _ => ?_, fun h => by have h : tk.wr = false := h; rw [hw] at h; cases h⟩
    unfold Once at hon
    rw [htr] at hon
    obtain ⟨_, _, hFS, hT⟩ := hon
    rcases hT with hT | ⟨b', cap', q, e', hq, hd, hcc⟩
    ·rw [hT] at e1; cases e1
    ·rw [e'] at e1; cases e1
     obtain ⟨c, hc'⟩ := cells_at (r := tk.t) x hj
     obtain ⟨u', g1, g2, g3⟩ := hcc i j x c hx hc'
     rw [cell_of_row w b _ vs T (0, 0) hg] at g1
     have k1 : vs[i * tk.t.w + j]? = some u := k1
     rw [k1] at g1
     cases g1
     obtain ⟨t0, x0, p0, h4, h5, h6⟩ := (g3 (fun d => by simp)).rep (S := S') (fun k o hk => by
      rw [hS']
      refine .inr ⟨(hq i j k hk).1, fun l cap' e2 => ?_⟩
      rw [e'] at e2; cases e2
      exact absurd rfl (hq i j b hk).2)
     obtain ⟨t1, x1, h7, h8⟩ := (cells_enc tk.t x).get' j c p hc' hp
     rw [h7] at h4; cases h4
     rw [h8] at h5; cases h5
     exact h6
 exact ⟨S', hM.setTok n tk tk.thaw htk _ hstep (fun _ h => h) hTk rfl (fun h => by rw [hw] at h; cases h) rfl, hSo⟩
theorem jsy (y : AV) (k : Nat) (hs : Sim E o s ⟨y, [], []⟩) (h : (thawRD y).R s [k] [] e fp) : Sim E o s e := by
 unfold thawRD at h
 split at h
 case h_2 => exact h.elim
 rename_i n
 simp only [RD.R] at h
 split at h
 case h_2 => exact h.elim
 rename_i tk htk
 split at h
 case isFalse => exact h.elim
 rename_i htr
 obtain ⟨rfl, _⟩ := h
 intro R a w hR0 hrel K Q hK
 refine hs R a w hR0 hrel K Q fun a' w' h1 => hK a' w' ?_
 obtain ⟨β, τ, F, S, hM, hn, hdf, hv⟩ := h1
 have eT : lookT (s.app o.dst ⟨.mtk n, [], [(n, some (.live tk.thaw))]⟩).T = updT (lookT (s.app o.dst ⟨.mtk n, [], []⟩).T) n (some (.live tk.thaw)) := by
  rw [app_T, app_T]; rfl
 have eL : (s.app o.dst ⟨.mtk n, [], [(n, some (.live tk.thaw))]⟩).L = (s.app o.dst ⟨.mtk n, [], []⟩).L := by cases o.dst <;> rfl
 have eB : (s.app o.dst ⟨.mtk n, [], [(n, some (.live tk.thaw))]⟩).B = (s.app o.dst ⟨.mtk n, [], []⟩).B := by cases o.dst <;> rfl
 have htk' : lookT (s.app o.dst ⟨.mtk n, [], []⟩).T n = some (.live tk) := by rw [app_T]; exact htk
 obtain ⟨hw, _⟩ := (hM.toks n tk htk').tree htr
 obtain ⟨S', hM', hSo⟩ := hM.thaw n tk htk' htr
 refine ⟨β, τ, F, S', by rw [eB, eT]; exact hM', by rw [eL]; exact hn, hdf, fun i => ?_⟩
 rw [eL]
 unfold LSt.ctx
 rw [eB, eT]
 exact V3.mono (c := (s.app o.dst ⟨.mtk n, [], []⟩).ctx w' S β τ) (c' := ⟨w', S', fun k => lookB (s.app o.dst ⟨.mtk n, [], []⟩).B k ≠ none, β, updT (lookT (s.app o.dst ⟨.mtk n, [], []⟩).T) n (some (.live tk.thaw)), τ⟩) ⟨hSo, fun _ _ _ => rfl⟩ (BoxLe.refl rfl rfl) (fun t ht => by
  by_cases e : t = n
  ·subst e
   refine ⟨by simp [updT], fun tk' h => ?_⟩
   simp only [updT, if_true, Option.some.injEq, TS.live.injEq] at h
   subst h
   exact ⟨tk, htk', rfl, rfl, fun h => by rw [hw] at h; cases h⟩
  ·refine ⟨by simp only [updT, if_neg e]; exact ht, fun tk' h => ?_⟩
   simp only [updT, if_neg e] at h
   exact ⟨tk', h, rfl, rfl, fun h => ⟨h, rfl⟩⟩) (hv i)
theorem jn6 (hE : EnvOk E) (T : TypeId) (x : Operand) (f : Nat) (ho : o.op = .field T x f) (h : (opRD E o.op o.dst s.ev).R s [] [] e fp) : Sim E o s e := by
 rw [ho] at h
 simp only [opRD] at h
 split at h
 case h_2 => exact h.elim
 rename_i ty hty
 split at h
 case h_2 => exact h.elim
 rename_i ft off hf
 split at h
 case h_2 => exact h.elim
 rename_i tf htf
 split at h
 case h_2 => exact h.elim
 rename_i cs hx
 obtain ⟨fields, hu, hfs⟩ := (hE.ty T ty hty).fts (by intro e; rw [e] at hf; cases hf)
 obtain ⟨fd, hfd, e1, e2⟩ : ∃ fd, fields[f]? = some fd ∧ fd.type = ft ∧ fd.offset = off := by
  have : (fields.toList.map fun f => (f.type, f.offset))[f]? = some (ft, off) := by rw [hfs]; exact hf
  rw [List.getElem?_map] at this
  obtain ⟨fd, h1, h2⟩ := Option.map_eq_some_iff.1 this
  cases h2
  exact ⟨fd, by simpa using h1, rfl, rfl⟩
 subst e1
 subst e2
 obtain ⟨dd, hdd, hagg⟩ := (hE.ty _ tf htf).desc
 obtain ⟨inf, z, hi, hsz, _⟩ := (hE.ty _ tf htf).info
 have key : ∀ y, ((tf.agg = true ∧ fd.offset + tf.size ≤ cs.length ∧ y = .agg ((cs.drop fd.offset).take tf.size)) ∨ (tf.agg = false ∧ cs[fd.offset]? = some y)) → Sim E o s ⟨y, [], []⟩ := fun y hy => sim_val fun c a w hw hev => by
  have h1 := hev x
  rw [hx] at h1
  obtain ⟨vs, ev, ha⟩ := h1
  rcases hy with ⟨g1, g2, rfl⟩ | ⟨g1, g2⟩
  ·refine ⟨.agg ((vs.drop fd.offset).take tf.size).toArray, ?_, ⟨_, rfl, (ha.drop _).take _⟩⟩
   have ex : (vs.toArray.extract fd.offset (fd.offset + tf.size)) = ((vs.drop fd.offset).take tf.size).toArray := by
    apply Array.ext'
    simp [List.extract_eq_take_drop]
   simp [execOp, ho, Instr.field, run_underlying hu, hfd, ev, asAgg, Go.part, isAgg_run hdd, hagg, g1, sizeOf, typeInfo, hi, hsz, ex]
  ·obtain ⟨v, hv, hcv⟩ := ha.get _ y g2
   refine ⟨v, ?_, V3_of_V1 hcv.1⟩
   have hv' : vs.toArray[fd.offset]? = some v := by simpa using hv
   simp [execOp, ho, Instr.field, run_underlying hu, hfd, ev, asAgg, Go.part, isAgg_run hdd, hagg, g1, hv]
 split at h
 ·rename_i hg
  split at h
  ·cases val_R h; exact key _ (.inl ⟨hg, ‹_›, rfl⟩)
  ·exact h.elim
 ·rename_i hg
  split at h
  ·rename_i y hy
   cases val_R h; exact key _ (.inr ⟨by simpa using hg, hy⟩)
  ·exact h.elim
end
end Go.Proofs.YtcjbjmbialienaaGreatDoor
