/- The engine, eleventh part: parts of slices, elements that are written, literals of slices. -/
import Derived.Test.YthodbhjnfeahhaaK10
set_option linter.unusedSimpArgs false
set_option linter.unusedVariables false
namespace Go.Proofs.Ythodbhjnfeahhaa
open Go.RowKit
section
variable {E : Env} {o : Oper} {s : LSt} {e : Eff} {fp : FP}
/-- A row that stays from now on. -/
theorem Mem.freezeTok {R : Root} {w : World} {S : Stab} {box : Nat → Option BS} {tok : Nat → Option TS} {β : Nat → Nat} {τ : Nat → Value} {F : Nat → Nat → Prop} (hM : Mem R box tok β τ F S w) (n : Nat) (tk : Tok) (htk : tok n = some (.live tk)) :
    ∃ S', Mem R box (updT tok n (some (.live { tk with wr := false }))) β τ F S' w ∧ (∀ b o, S b o → S' b o) ∧ TokOk R.fr w S' { tk with wr := false } (τ n) (F n) := by
  have hk := hM.toks n tk htk
  cases hw : tk.wr with
  | false =>
    have e1 : { tk with wr := false } = tk := by cases tk; simp only at hw; rw [hw]
    refine ⟨S, ?_, fun _ _ h => h, by rw [e1]; exact hk⟩
    have : updT tok n (some (.live { tk with wr := false })) = tok := by
      funext j
      by_cases h : j = n
      · subst h; simp only [updT, if_true]; rw [e1]; exact htk.symm
      · simp only [updT, h, if_false]
    rw [this]; exact hM
  | true =>
    obtain ⟨hF, hk, hdp⟩ := hk
    -- which block, and how many cells
    obtain ⟨bb, m, hb1, hb2, hb3⟩ : ∃ bb m, (∀ o, o < m → F n bb ∧ bb < w.heap.size ∧ ∀ q, ¬ S bb q) ∧ m = tk.xs.length * tk.t.w ∧ ∀ b cap l, τ n = .slice (some ⟨b, 0, none⟩) l cap → b = bb ∨ m = 0 := by
      rcases hk with ⟨e1, e2⟩ | ⟨b, cap, vs, e1, h1, hg, hz, hn, hm, hst, hwr, hc⟩
      · exact ⟨0, 0, fun o ho => by omega, by rw [e2]; simp, fun b cap l h => .inr rfl⟩
      · exact ⟨b, _, fun o _ => ⟨h1, (hF b h1).2, hwr hw⟩, rfl, fun b' cap' l' h => by rw [e1] at h; cases h; exact .inl rfl⟩
    refine ⟨fun b o => S b o ∨ (b = bb ∧ o < m), ?_, fun _ _ h => .inl h, ?_⟩
    case refine_2 =>
      refine ⟨hF, ?_, hdp⟩
      rcases hk with ⟨e1, e2⟩ | ⟨b, cap, vs, e1, h1, hg, hz, hn, hm, hst, hwr, hc⟩
      · exact .inl ⟨e1, e2⟩
      · refine .inr ⟨b, cap, vs, e1, h1, hg, hz, hn, hm, fun _ o ho => ?_, (fun h => by cases h), fun i j x p hx hp => ?_⟩
        · rcases ho with ho | ⟨_, ho⟩
          · exact absurd ho (hwr hw o)
          · rw [hb2] at ho; exact ho
        · obtain ⟨u, k1, k2, _⟩ := hc i j x p hx hp
          refine ⟨u, k1, k2.mono (fun _ _ h => .inl h) (fun _ _ _ => rfl), fun _ => .inr ?_⟩
          have hi : i < tk.xs.length := (List.getElem?_eq_some_iff.1 hx).1
          have hj : j < tk.t.w := by have := (List.getElem?_eq_some_iff.1 hp).1; rwa [enc_len] at this
          have hlt : i * tk.t.w + j < m := by
            have : (i + 1) * tk.t.w ≤ tk.xs.length * tk.t.w := Nat.mul_le_mul_right _ hi
            rw [Nat.add_mul] at this; omega
          rcases hb3 b cap _ e1 with h | h
          · exact ⟨h, hlt⟩
          · omega
    have hstep : Step (fun b => F n b) S (fun b o => S b o ∨ (b = bb ∧ o < m)) w w := ⟨Upd.refl _ _, fun _ _ _ => rfl, fun _ _ h => .inl h, fun b o h => by
      rcases h with h | ⟨rfl, h⟩
      · exact .inl h
      · exact .inr (.inr (hb1 o h).1), fun b o h => by
      rcases h with h | ⟨rfl, h⟩
      · exact hM.lt b o h
      · exact (hb1 o h).2.1⟩
    -- first without the row, then with it again
    have hM1 := hM.drop (tok' := spend tok [n]) (fun t ht => spend_used ht) (fun t tk h => (spend_live h).2)
    have hM2 := hM1.step hstep (fun k hk => (hF k hk).1) (fun k b hk h => hM.tbox n tk k b htk hk h) (fun t tk' ht k hk hk' => (spend_live ht).1 (by simp [hM.tdis t n tk' tk k (spend_live ht).2 htk hk hk']))
    have hne : ∀ k b, box k = some b → ¬ F n (β k) := fun k b hk h => hM.tbox n tk k b htk hk h
    refine ⟨hM2.upd, hM2.old, hM2.new, hM2.keep, hM2.lt, fun k b hk => ?_, hM.binj, fun t tk' ht => ?_, fun t t' tk1 tk2 b h1 h2 => ?_, fun t tk' k b ht hk => ?_, hM.bfix, fun t v tk' hv ht => ?_⟩
    · obtain ⟨h1, h2, h2', vs, T, h3, h4⟩ := hM.boxes k b hk
      refine ⟨h1, fun hz q hq => ?_, fun hz q hq => .inl (h2' hz q hq), vs, T, h3, h4.imp fun x u hx => ⟨V1.mono (c := ⟨w, S, fun k => box k ≠ none, β, tok, τ⟩) (c' := ⟨w, fun b o => S b o ∨ (b = bb ∧ o < m), fun k => box k ≠ none, β, updT tok n (some (.live { tk with wr := false })), τ⟩) ⟨fun _ _ h => .inl h, fun _ _ _ => rfl⟩ (BoxLe.refl rfl rfl) (fun t ht => ?_) hx.1, hx.2⟩⟩
      · rcases hq with hq | ⟨hq1, hq2⟩
        · exact h2 hz q hq
        · exact hne k b hk (hq1 ▸ (hb1 q hq2).1)
      · by_cases e : t = n
        · subst e
          refine ⟨by simp [updT], fun tk' h => ?_⟩
          simp [updT] at h; subst h
          exact ⟨tk, htk, rfl, rfl, fun h => by rw [hw] at h; cases h⟩
        · simp only [updT, e, if_false]
          exact ⟨ht, fun tk' h => ⟨tk', h, trivial, rfl, fun h => ⟨h, rfl⟩⟩⟩
    · by_cases e : t = n
      · subst e
        simp [updT] at ht; subst ht
        refine ⟨hF, ?_, hdp⟩
        rcases hk with ⟨e1, e2⟩ | ⟨b, cap, vs, e1, h1, hg, hz, hn, hm, hst, hwr, hc⟩
        · exact .inl ⟨e1, e2⟩
        · refine .inr ⟨b, cap, vs, e1, h1, hg, hz, hn, hm, fun _ o ho => ?_, (fun h => by cases h), fun i j x p hx hp => ?_⟩
          · rcases ho with ho | ⟨_, ho⟩
            · exact absurd ho (hwr hw o)
            · rw [hb2] at ho; exact ho
          · obtain ⟨u, k1, k2, _⟩ := hc i j x p hx hp
            refine ⟨u, k1, k2.mono (fun _ _ h => .inl h) (fun _ _ _ => rfl), fun _ => .inr ?_⟩
            have hi : i < tk.xs.length := (List.getElem?_eq_some_iff.1 hx).1
            have hj : j < tk.t.w := by have := (List.getElem?_eq_some_iff.1 hp).1; rwa [enc_len] at this
            have hlt : i * tk.t.w + j < m := by
              have : (i + 1) * tk.t.w ≤ tk.xs.length * tk.t.w := Nat.mul_le_mul_right _ hi
              rw [Nat.add_mul] at this; omega
            rcases hb3 b cap _ e1 with h | h
            · exact ⟨h, hlt⟩
            · omega
      · simp only [updT, e, if_false] at ht
        exact (hM.toks t tk' ht).step hstep (fun k hk hk' => e (hM.tdis t n tk' tk k ht htk hk hk'))
    · have conv : ∀ {t tk'}, updT tok n (some (.live { tk with wr := false })) t = some (.live tk') → ∃ tk2, tok t = some (.live tk2) := fun {t tk'} h => by
        by_cases e : t = n
        · exact ⟨tk, e ▸ htk⟩
        · simp only [updT, e, if_false] at h; exact ⟨tk', h⟩
      obtain ⟨a1, g1⟩ := conv h1
      obtain ⟨a2, g2⟩ := conv h2
      exact hM.tdis t t' a1 a2 b g1 g2
    · by_cases e : t = n
      · exact e ▸ hne k b hk
      · simp only [updT, e, if_false] at ht; exact hM.tbox t tk' k b ht hk
    · by_cases e : t = n
      · subst e; exact hM.tfix t v tk hv htk
      · simp only [updT, e, if_false] at ht; exact hM.tfix t v tk' hv ht
theorem freezeTok_le {c : Ctx} {S' : Stab} {n : Nat} {tk : Tok} (htk : c.tok n = some (.live tk)) : TokLe c ⟨c.w, S', c.live, c.β, updT c.tok n (some (.live { tk with wr := false })), c.τ⟩ := fun t ht => by
  by_cases e : t = n
  · subst e
    refine ⟨by simp [updT], fun tk' h => ?_⟩
    simp [updT] at h; subst h
    exact ⟨tk, htk, rfl, rfl, fun h => ⟨rfl, rfl⟩⟩
  · simp only [updT, e, if_false]
    exact ⟨ht, fun tk' h => ⟨tk', h, trivial, rfl, fun h => ⟨h, rfl⟩⟩⟩
theorem sim_slice (hE : EnvOk E) (T : TypeId) (x : Operand) (lo hi : Option Operand) (ho : o.op = .slice T x lo hi none) (h : (opRD E o.op o.dst s.ev).R s [] [] e fp) : Sim E o s e := by
  rw [ho] at h
  simp only [opRD] at h
  split at h
  case h_2 => exact h.elim
  rename_i ty hty
  have hTy := hE.ty T ty hty
  split at h
  · rename_i b hx
    split at h
    case isFalse => exact h.elim
    rename_i hstr
    obtain ⟨l, h, hl⟩ := optInt_R h
    obtain ⟨q, h, hq⟩ := optInt_R h
    obtain ⟨y, hy, h⟩ := h
    cases val_R h
    obtain ⟨h0, h1, h2, rfl⟩ := cut_some hy
    refine sim_val fun c a w hw hev => ?_
    have hv : a.eval x = .string (bytes b) := v3_str (hx ▸ hev x)
    have hr := run_bounds (P := E.P) w a false b.length b.length lo hi l q (hl c a hev) (hq c a hev) h0 h1 h2 (Nat.le_refl _)
    refine ⟨.string ((bytes b).extract l.toNat q.toNat), ?_, ?_⟩
    · simp only [execOp, ho, Instr.sliceAt, Sem.run_bind, run_underlying (hTy.str hstr), Result.andThen_ok, Instr.slice, hv, Option.map_none, Option.isSome_none, Bool.false_eq_true, if_false, bytes_size, hr, Sem.run_pure]
    · have : (bytes b).extract l.toNat q.toNat = bytes ((b.take q.toNat).drop l.toNat) := by
        apply Go.WideShapes.bytes_inj
        rw [ByteArray.data_extract, Array.toList_extract]
        simp only [bytes, List.extract, List.drop_take]
      rw [this]; exact mk_str c _
  · split at h
    case h_2 => exact h.elim
    rename_i e' r by' he
    obtain ⟨hu, hpos, ie, z, hie, hsz, _⟩ := hTy.elem _ _ _ he
    split at h
    · rename_i n hx
      simp only [RD.R] at h
      split at h
      case h_2 => exact h.elim
      rename_i tk htk
      split at h
      case isFalse => exact h.elim
      rename_i et
      subst et
      obtain ⟨l, h, hl⟩ := optInt_R h
      obtain ⟨q, h, hq⟩ := optInt_R h
      obtain ⟨y, hy, h⟩ := h
      obtain ⟨rfl, _⟩ := h
      obtain ⟨h0, h1, h2, _⟩ := cut_some hy
      rintro R a w hR0 ⟨β, τ, F, S, hM, hn, hdf, hs⟩ K Q hK
      have hev := V3_ev hs
      have hxv := hev x; rw [hx] at hxv
      have ev := (v3_mtk hxv).2.2 tk htk
      obtain ⟨S', hM', hSS, hTk⟩ := hM.freezeTok n tk htk
      have hrep := hTk.rep rfl
      obtain ⟨ad, cap, b, q', m, hv, hcap, _⟩ := hrep.opened
      simp only [List.length_map] at hv hcap
      have hev' : a.eval x = .slice ad tk.xs.length cap := ev.trans hv
      have hrun := run_cut (E := E) T x lo hi ho e' ie hu hie a w ad tk.xs.length cap hev' l q (hl (s.ctx w S β τ) a hev) (hq (s.ctx w S β τ) a hev) h0 h1 h2 hcap
      rw [hsz] at hrun
      refine wp_value hrun (hK _ _ (rel_put (e := ⟨.pv (.sl tk.t) y, [], [(n, some (.live { tk with wr := false }))]⟩) hM' hn hdf ?_ o.dst (.inr ⟨_, rfl, ?_⟩)))
      · exact lift3 (c := s.ctx w S β τ) (c' := ⟨w, S', fun k => lookB s.B k ≠ none, β, updT (lookT s.T) n (some (.live { tk with wr := false })), τ⟩) ⟨hSS, fun _ _ _ => rfl⟩ (BoxLe.refl rfl rfl) (freezeTok_le htk) hs
      · exact cut_rep (by rw [← hv]; exact hrep) l q hy
    · split at h
      case h_2 => exact h.elim
      rename_i xs hxs
      obtain ⟨l, h, hl⟩ := optInt_R h
      obtain ⟨q, h, hq⟩ := optInt_R h
      obtain ⟨y, hy, h⟩ := h
      cases val_R h
      obtain ⟨h0, h1, h2, _⟩ := cut_some hy
      refine sim_val fun c a w hw hev => ?_
      have hrep := as_sl hxs (hev x)
      obtain ⟨ad, cap, b, q', m, hv, hcap, _⟩ := hrep.opened
      rw [List.length_map] at hv hcap
      have hrun := run_cut (E := E) T x lo hi ho e' ie hu hie a w ad xs.length cap hv l q (hl c a hev) (hq c a hev) h0 h1 h2 hcap
      rw [hsz] at hrun
      exact ⟨_, hrun, _, rfl, cut_rep (by rw [← hv]; exact hrep) l q hy⟩
/-- A row that is turned in its place. -/
theorem Mem.setTok {R : Root} {w w' : World} {S S' : Stab} {box : Nat → Option BS} {tok : Nat → Option TS} {β : Nat → Nat} {τ : Nat → Value} {F : Nat → Nat → Prop} (hM : Mem R box tok β τ F S w) (n : Nat) (tk tk' : Tok) (htk : tok n = some (.live tk)) (X : Nat → Prop) (hstep : Step X S S' w w') (hX : ∀ k, X k → F n k)
    (hk' : TokOk R.fr w' S' tk' (τ n) (F n)) (ht : tk'.t = tk.t) (hc : tk.wr = false → tk'.wr = false ∧ (⟨tk'.t, tk'.xs⟩ : (t : Tp) × List t.D) = ⟨tk.t, tk.xs⟩) : Mem R box (updT tok n (some (.live tk'))) β τ F S' w' := by
  have hF := (hM.toks n tk htk).1
  have hne : ∀ k b, box k = some b → ¬ F n (β k) := fun k b hk h => hM.tbox n tk k b htk hk h
  have hM1 := hM.drop (tok' := spend tok [n]) (fun t ht => spend_used ht) (fun t tk h => (spend_live h).2)
  have hM2 := hM1.step hstep (fun k hk => (hF k (hX k hk)).1) (fun k b hk h => hne k b hk (hX _ h)) (fun t tk' ht k hk hk' => (spend_live ht).1 (by simp [hM.tdis t n tk' tk k (spend_live ht).2 htk hk (hX k hk')]))
  refine ⟨hM2.upd, hM2.old, hM2.new, hM2.keep, hM2.lt, fun k b hk => ?_, hM.binj, fun t tk1 ht1 => ?_, fun t t' tk1 tk2 b h1 h2 => ?_, fun t tk1 k b ht1 hk => ?_, hM.bfix, fun t v tk1 hv ht1 => ?_⟩
  · obtain ⟨h1, h2, h2', vs, T, h3, h4⟩ := hM.boxes k b hk
    obtain ⟨k1, k2, k3, _⟩ := hM2.boxes k b hk
    refine ⟨k1, k2, k3, vs, T, (hstep.upd.block _ (hM.blt hk) (fun h => hne k b hk (hX _ h))).trans h3, h4.imp fun x u hx => ⟨V1.mono (c := ⟨w, S, fun k => box k ≠ none, β, tok, τ⟩) (c' := ⟨w', S', fun k => box k ≠ none, β, updT tok n (some (.live tk')), τ⟩) ⟨hstep.old, hstep.cell⟩ (BoxLe.refl rfl rfl) (fun t ht1 => ?_) hx.1, hx.2⟩⟩
    by_cases e : t = n
    · subst e
      refine ⟨by simp [updT], fun tk1 h => ?_⟩
      simp [updT] at h; subst h
      exact ⟨tk, htk, rfl, ht, hc⟩
    · simp only [updT, e, if_false]
      exact ⟨ht1, fun tk' h => ⟨tk', h, trivial, rfl, fun h => ⟨h, rfl⟩⟩⟩
  · by_cases e : t = n
    · subst e
      simp [updT] at ht1; subst ht1
      exact hk'
    · simp only [updT, e, if_false] at ht1
      exact (hM.toks t tk1 ht1).step hstep (fun k hk hk' => e (hM.tdis t n tk1 tk k ht1 htk hk (hX k hk')))
  · have conv : ∀ {t tk1}, updT tok n (some (.live tk')) t = some (.live tk1) → ∃ tk2, tok t = some (.live tk2) := fun {t tk1} h => by
      by_cases e : t = n
      · exact ⟨tk, e ▸ htk⟩
      · simp only [updT, e, if_false] at h; exact ⟨tk1, h⟩
    obtain ⟨a1, g1⟩ := conv h1
    obtain ⟨a2, g2⟩ := conv h2
    exact hM.tdis t t' a1 a2 b g1 g2
  · by_cases e : t = n
    · exact e ▸ hne k b hk
    · simp only [updT, e, if_false] at ht1; exact hM.tbox t tk1 k b ht1 hk
  · by_cases e : t = n
    · subst e; exact hM.tfix t v tk hv htk
    · simp only [updT, e, if_false] at ht1; exact hM.tfix t v tk1 hv ht1
theorem setTok_le {c : Ctx} {w' : World} {S' : Stab} {n : Nat} {tk tk' : Tok} (htk : c.tok n = some (.live tk)) (ht : tk'.t = tk.t) (hc : tk.wr = false → tk'.wr = false ∧ (⟨tk'.t, tk'.xs⟩ : (t : Tp) × List t.D) = ⟨tk.t, tk.xs⟩) : TokLe c ⟨w', S', c.live, c.β, updT c.tok n (some (.live tk')), c.τ⟩ := fun t ht1 => by
  by_cases e : t = n
  · subst e
    refine ⟨by simp [updT], fun tk1 h => ?_⟩
    simp [updT] at h; subst h
    exact ⟨tk, htk, rfl, ht, hc⟩
  · simp only [updT, e, if_false]
    exact ⟨ht1, fun tk' h => ⟨tk', h, trivial, rfl, fun h => ⟨h, rfl⟩⟩⟩
/-- Cells that make a row, in memory. -/
theorem mkRow_rep {c : Ctx} : ∀ (t : Tp) (cs : List AV) (y : t.D) (vs : List Value), mkRow t cs = some y → All2 (V1c c) cs vs → All2 (fun v p => Rep c.w c.S v p) vs (enc t y) := by
  have leaf : ∀ (t : Tp) (cs : List AV) (y : t.D) (vs : List Value), one t cs = some y → All2 (V1c c) cs vs → All2 (fun v p => Rep c.w c.S v p) vs (enc t y) := fun t cs y vs h hv => by
    match cs, vs, h, hv with
    | [a], [v], h, hv =>
      obtain ⟨p, e, hr⟩ := as_rep (c := c) (show a.as t = some y from h) (V3_of_V1 hv.1.1)
      rw [e]; exact ⟨hr, True.intro⟩
  intro t
  induction t with
  | bool => exact leaf .bool
  | int k => exact leaf (.int k)
  | str => exact leaf .str
  | sl r _ => exact leaf (.sl r)
  | opt r _ => exact leaf (.opt r)
  | unit =>
    intro cs y vs h hv
    match cs, vs, h, hv with
    | [], [], _, _ => exact True.intro
  | pair a b iha ihb =>
    intro cs y vs h hv
    simp only [mkRow] at h
    split at h
    · rename_i x1 x2 h1 h2
      cases h
      have e1 := iha _ _ _ h1 (hv.take a.w)
      have e2 := ihb _ _ _ h2 (hv.drop a.w)
      have := e1.append e2
      rwa [List.take_append_drop] at this
    · cases h
  | q =>
    intro cs y vs h hv
    simp only [mkRow] at h
    match cs, vs, h, hv with
    | [k, f, ws, a, b, kids], [v1, v2, v3, v4, v5, v6], h, hv =>
      simp only [mkQ] at h
      split at h
      · rename_i k' f' ws' a' b' kids' g1 g2 g3 g4 g5 g6
        cases h
        obtain ⟨i1, i2, i3, i4, i5, i6, _⟩ := hv
        obtain ⟨p1, e1, r1⟩ := as_rep (c := c) g1 (V3_of_V1 i1.1)
        obtain ⟨p2, e2, r2⟩ := as_rep (c := c) g2 (V3_of_V1 i2.1)
        obtain ⟨p3, e3, r3⟩ := as_rep (c := c) g3 (V3_of_V1 i3.1)
        obtain ⟨p4, e4, r4⟩ := as_rep (c := c) g4 (V3_of_V1 i4.1)
        obtain ⟨p5, e5, r5⟩ := as_rep (c := c) g5 (V3_of_V1 i5.1)
        obtain ⟨p6, e6, r6⟩ := as_rep (c := c) g6 (V3_of_V1 i6.1)
        simp only [enc, List.cons.injEq, and_true] at e1 e2 e3 e4 e5 e6
        refine ⟨e1 ▸ r1, e2 ▸ r2, ?_, e4 ▸ r4, e5 ▸ r5, ?_, True.intro⟩
        · rw [← e3] at r3; exact r3
        · rw [encQs_eq]; rw [← e6] at r6; exact r6
      · cases h
/-- An element that is written. -/
theorem sim_storeElem (hE : EnvOk E) (T : TypeId) (x y : Operand) (ho : o.op = .store T x y) (ty : Ty) (hty : E.ty T = some ty) (n i q : Nat) (hx : s.ev x = .mptr n i q) (ys : List AV) (hy : (s.ev y).cells? = some ys) (hn : ys.length = ty.size) (tk : Tok) (htk : lookT s.T n = some (.live tk)) (hwr : tk.wr = true) (hfl : tk.t.flatB = true) (hqw : q + ty.size ≤ tk.t.w)
    (old : tk.t.D) (hold : tk.xs[i]? = some old) (y' : tk.t.D) (hrow : mkRow tk.t ((cellsOf tk.t old).take q ++ ys ++ (cellsOf tk.t old).drop (q + ty.size)) = some y') (hdst : o.dst = none) :
    Sim E o s ⟨.tup [], [], [(n, some (.live { tk with xs := tk.xs.set i y' }))]⟩ := by
  rintro R a w hR0 ⟨β, τ, F, S, hM, hsz, hdf, hs⟩ K Q hK
  have hev := V3_ev hs
  have h := hev x
  rw [hx] at h
  obtain ⟨b', l, cap', ev, hil, hp⟩ := (v3_mptr h).2.2 tk htk
  rw [show (s.ctx w S β τ).τ n = τ n from rfl] at ev
  have hc := cells_of hy (hev y)
  obtain ⟨hF, hk, hdp⟩ := hM.toks n tk htk
  rcases hk with ⟨e1, e2⟩ | ⟨b2, cap2, vs, e1, hFb, hg, hz, hnc, hm, hst, hw, hcon⟩
  · rw [e2] at hold; simp at hold
  rw [e1] at ev; cases ev
  obtain ⟨ti, z, hi, hisz, _⟩ := (hE.ty T ty hty).info
  have hl := hc.len
  have hixs : i < tk.xs.length := (List.getElem?_eq_some_iff.1 hold).1
  -- the row's cells
  obtain ⟨rv, hrv1, hrv2⟩ := row_vals (c := s.ctx w S β τ) (b := b') (q := i * tk.t.w) old (fun j p hp => by
    obtain ⟨u, k1, k2, _⟩ := hcon i j old p hold hp
    exact ⟨u, by show w.cell? _ = _; rw [cell_of_row w b' _ vs tk.e (0, 0) hg]; exact k1, k2⟩)
  have hrvl := hrv1.len
  rw [cells_len] at hrvl
  have hlen := (mkRow_rep (c := s.ctx w S β τ) tk.t _ y' _ hrow (((hrv1.take q).append hc).append (hrv1.drop (q + ty.size))))
  have hlen2 := hlen.len
  rw [enc_len] at hlen2
  have hcl : (a.eval y).cells.toList.length = ty.size := by rw [← hl, hn]
  simp only [List.length_append, List.length_take, List.length_drop, hcl] at hlen2
  have hbase : i * tk.t.w + tk.t.w ≤ tk.xs.length * tk.t.w := by
    have : (i + 1) * tk.t.w ≤ tk.xs.length * tk.t.w := Nat.mul_le_mul_right _ hixs
    rwa [Nat.add_mul, Nat.one_mul] at this
  have hxsz : tk.xs.length * tk.t.w ≤ vs.size := by rw [hz]; exact Nat.mul_le_mul_right _ hnc
  have hone : ∀ v ∈ (a.eval y).cells.toList, v.oneCell' = true := fun v hv => by
    obtain ⟨j, hj, rfl⟩ := List.mem_iff_getElem.1 hv
    exact (hc.get' j (ys[j]'(by omega)) _ (by simp) (by simp)).2
  have hst' := run_storeCells_at E.P b' (i * tk.t.w + q) tk.e (a.eval y).cells.toList 0 vs w hg (by omega) hone
  obtain ⟨vs', hvs'⟩ : ∃ vs' : Array Value, vs' = (vs.toList.take (i * tk.t.w + q) ++ (a.eval y).cells.toList ++ vs.toList.drop (i * tk.t.w + q + (a.eval y).cells.toList.length)).toArray := ⟨_, rfl⟩
  have hr : (execOp a.eval o).run E.P w = .ok .skip (w.setRow b' vs') := by
    have hz' : (a.eval y).cells.size = ti.size := by rw [hisz, ← hn, hl]; simp
    simp only [Nat.add_zero] at hst'
    simp only [execOp, ho, Instr.storeAt, hp, Instr.sureAddr, storeVar, sizeOf, typeInfo, hi, Sem.run_bind, Sem.run_pure, Result.andThen_ok, run_program]
    simp [hi, hz', hst', hvs']
  have hvsl : vs'.toList = vs.toList.take (i * tk.t.w + q) ++ (a.eval y).cells.toList ++ vs.toList.drop (i * tk.t.w + q + (a.eval y).cells.toList.length) := by rw [hvs']
  have hget : ∀ k, vs'[k]? = if i * tk.t.w + q ≤ k ∧ k < i * tk.t.w + q + ty.size then (a.eval y).cells.toList[k - (i * tk.t.w + q)]? else vs[k]? := fun k => by
    rw [← Array.getElem?_toList, hvsl, splice_get _ _ _ (by rw [hcl, Array.length_toList]; omega), hcl]
    simp
  have hsize : vs'.size = vs.size := by
    rw [← Array.length_toList, hvsl]
    simp only [List.length_append, List.length_take, List.length_drop, hcl, Array.length_toList]
    omega
  have hother : ∀ k, k ≠ b' → (w.setRow b' vs').heap[k]? = w.heap[k]? := fun k hk => setRow_other w b' k _ hk
  have hhs : (w.setRow b' vs').heap.size = w.heap.size := by simp [World.setRow]
  have hcell : ∀ b o, S b o → (w.setRow b' vs').cell? ⟨b, o, none⟩ = w.cell? ⟨b, o, none⟩ := fun b o hb => World.cell?_of_block (w := w) (hother b (fun e => hw hwr o (e ▸ hb)))
  have hstep : Step (fun k => k = b') S S w (w.setRow b' vs') := ⟨⟨rfl, rfl, rfl, by rw [hhs]; exact Nat.le_refl _, fun k _ hk => hother k hk⟩, hcell, fun _ _ h => h, fun _ _ h => .inl h, fun b o h => by rw [hhs]; exact hM.lt b o h⟩
  have hheap : (w.setRow b' vs').heap[b']? = some (.cells vs' tk.e (0, 0)) := setRow_heap w b' vs _ tk.e (0, 0) hg
  have hcon' : ∀ (i2 j : Nat) (x : tk.t.D) (p : PV), (tk.xs.set i y')[i2]? = some x → (enc tk.t x)[j]? = some p → ∃ u, vs'[i2 * tk.t.w + j]? = some u ∧ Rep (w.setRow b' vs') S u p := fun i2 j x p hx hp => by
    have hj : j < tk.t.w := by have := (List.getElem?_eq_some_iff.1 hp).1; rwa [enc_len] at this
    by_cases e : i2 = i
    · subst e
      rw [List.getElem?_set_self hixs] at hx
      cases hx
      have hjl : j < ((rv.take q) ++ (a.eval y).cells.toList ++ rv.drop (q + ty.size)).length := by rw [hlen.len]; exact (List.getElem?_eq_some_iff.1 hp).1
      have hrep := hlen.get' j _ p (List.getElem?_eq_getElem hjl) hp
      have hsp := splice_get rv (a.eval y).cells.toList q (by rw [← hrvl, hcl]; exact hqw) j
      rw [hcl] at hsp
      refine ⟨_, ?_, hrep.mono (fun _ _ h => h) hcell⟩
      rw [hget, ← List.getElem?_eq_getElem hjl, hsp]
      by_cases hjq : q ≤ j ∧ j < q + ty.size
      · rw [if_pos ⟨by omega, by omega⟩, if_pos hjq]
        congr 1; omega
      · rw [if_neg (by omega), if_neg hjq]
        have hjr : j < rv.length := by rw [← hrvl]; exact hj
        have h5 := hrv2 j rv[j] (List.getElem?_eq_getElem hjr)
        rw [show (s.ctx w S β τ).w = w from rfl, cell_of_row w b' _ vs tk.e (0, 0) hg] at h5
        rw [h5, List.getElem?_eq_getElem hjr]
    · rw [List.getElem?_set_ne (Ne.symm e)] at hx
      obtain ⟨u, k1, k2, _⟩ := hcon i2 j x p hx hp
      refine ⟨u, ?_, k2.mono (fun _ _ h => h) hcell⟩
      rw [hget, if_neg ?_]
      · exact k1
      · rintro ⟨g1, g2⟩
        rcases Nat.lt_or_gt_of_ne e with hlt | hlt
        · have : (i2 + 1) * tk.t.w ≤ i * tk.t.w := Nat.mul_le_mul_right _ hlt
          rw [Nat.add_mul] at this; omega
        · have : (i + 1) * tk.t.w ≤ i2 * tk.t.w := Nat.mul_le_mul_right _ hlt
          rw [Nat.add_mul] at this; omega
  have hM' := hM.setTok n tk { tk with xs := tk.xs.set i y' } htk (fun k => k = b') hstep (fun k hk => hk ▸ hFb) ⟨fun b hb => by rw [hhs]; exact hF b hb, .inr ⟨b', cap', vs', ?_, hFb, hheap, by rw [hsize]; exact hz, by simpa using hnc, hm, (fun h => by simp only at h; rw [hwr] at h; cases h), fun h => hw h, fun i2 j x p hx hp => ?_⟩, fun hd => ?_⟩ rfl (fun h => by rw [hwr] at h; cases h)
  · refine wp_skip' hr (hK _ _ (rel_put (e := ⟨.tup [], [], [(n, some (.live { tk with xs := tk.xs.set i y' }))]⟩) hM' hsz hdf ?_ o.dst (.inl hdst)))
    exact lift3 (c := s.ctx w S β τ) (c' := ⟨w.setRow b' vs', S, fun k => lookB s.B k ≠ none, β, updT (lookT s.T) n (some (.live { tk with xs := tk.xs.set i y' })), τ⟩) ⟨fun _ _ h => h, hcell⟩ (BoxLe.refl rfl rfl) (setTok_le htk rfl (fun h => by rw [hwr] at h; cases h)) hs
  · rw [e1]; simp
  · obtain ⟨u, k1, k2⟩ := hcon' i2 j x p hx hp
    exact ⟨u, k1, k2, fun h => by simp only at h; rw [hwr] at h; cases h⟩
  · -- met once: its cells lead nowhere
    rw [e1, show tk.xs.length = ((tk.xs.set i y').map (enc tk.t)).length from by simp]
    refine .sl _ _ cap' _ (fun i2 j => (vs'[i2 * tk.t.w + j]?).getD undef) b' 0 tk.t.w (fun _ _ _ => False) rfl hFb (by rw [hhs]; exact (hF b' hFb).2) (fun j => frozen_of_row _ b' j vs' tk.e hheap) (fun i2 row hr => rows_w _ row (List.mem_of_getElem? hr)) (fun i2 j row c hr hcc => ?_) (fun _ _ _ h => h.elim) (fun _ _ _ _ _ h => h.elim) (fun i2 j row c hr hcc => ?_)
    · rw [List.getElem?_map] at hr
      obtain ⟨x, hx, rfl⟩ := Option.map_eq_some_iff.1 hr
      obtain ⟨u, k1, _⟩ := hcon' i2 j x c hx hcc
      rw [Nat.zero_add, cell_of_row _ b' _ vs' tk.e (0, 0) hheap, k1]; rfl
    · rw [List.getElem?_map] at hr
      obtain ⟨x, hx, rfl⟩ := Option.map_eq_some_iff.1 hr
      exact .leaf (flat_enc tk.t x hfl c (List.mem_of_getElem? hcc))
theorem sim_store (hE : EnvOk E) (T : TypeId) (x y : Operand) (ho : o.op = .store T x y) (h : (opRD E o.op o.dst s.ev).R s [] [] e fp) : Sim E o s e := by
  rw [ho] at h
  simp only [opRD] at h
  split at h
  case h_2 => exact h.elim
  rename_i ty ys hty hy hdst
  split at h
  case isFalse => exact h.elim
  rename_i hn
  split at h
  · rename_i k q hx
    simp only [RD.R] at h
    split at h
    case h_2 => exact h.elim
    rename_i cs hk
    split at h
    case isFalse => exact h.elim
    rename_i hq
    obtain ⟨rfl, _⟩ := h
    exact sim_storeBox hE T x y ho ty hty k q hx cs ys hk hy hn hq hdst
  · rename_i n i q hx
    simp only [RD.R] at h
    split at h
    case h_2 => exact h.elim
    rename_i tk htk
    split at h
    case isFalse => exact h.elim
    rename_i hw
    obtain ⟨old, hold, h⟩ := h
    simp only at h
    split at h
    case h_2 => exact h.elim
    rename_i y' hrow
    obtain ⟨rfl, _⟩ := h
    exact sim_storeElem hE T x y ho ty hty n i q hx ys hy hn tk htk hw.1 hw.2.1 hw.2.2 old hold y' hrow hdst
  · exact h.elim
end
end Go.Proofs.Ythodbhjnfeahhaa
