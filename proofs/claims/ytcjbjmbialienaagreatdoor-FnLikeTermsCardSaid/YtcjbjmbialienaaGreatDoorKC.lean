/- The engine: what was taken out of trees, put back; cells of trees that are written; slices that are made. -/
import Derived.Test.YtcjbjmbialienaaGreatDoorKB
set_option linter.unusedSimpArgs false
set_option linter.unusedVariables false
namespace Go.Proofs.YtcjbjmbialienaaGreatDoor
open Go.RowKit
theorem jcW {a b : Nat} (h : Nat.blt a b = true) : a < b := Eq.mp Nat.blt_eq h
theorem jj1 {a b : Nat} (h : a < b) : Nat.blt a b = true := Eq.mpr Nat.blt_eq h
theorem jcx : ∀ (t : Tp) (x : t.D) (o : Nat) (r : Tp) (ys : List r.D), cellTp t o = some (.sl r) → cellsOf t (setCell t x o r ys) = (cellsOf t x).set o (.pv (.sl r) ys)
 | .pair a b, x, o, r, ys, h => by
  simp only [cellTp] at h
  simp only [setCell, cellsOf]
  cases hb : Nat.blt o a.w with
  | true =>
   rw [hb] at h
   have hlt : o < a.w := jcW hb
   simp only [cond] at h ⊢
   rw [jcx a x.1 o r ys h, List.set_append_left _ _ (by rw [cells_len]; exact hlt)]
  | false =>
   rw [hb] at h
   have hge : a.w ≤ o := by
    rcases Nat.lt_or_ge o a.w with h1 | h1
    ·rw [jj1 h1] at hb; cases hb
    ·exact h1
   simp only [cond] at h ⊢
   rw [jcx b x.2 (o - a.w) r ys h, List.set_append_right _ _ (by rw [cells_len]; exact hge), cells_len]
 | .sl r', x, o, r, ys, h => by
  match o, h with
  | 0, h =>
   simp only [cellTp, Option.some.injEq, Tp.sl.injEq] at h
   subst h
   simp only [setCell, cellsOf, List.set_cons_zero]
   rfl
  | o + 1, h => simp [cellTp] at h
 | .q, x, o, r, ys, h => by
  match o, h with
  | 0, h => simp [cellTp] at h
  | 1, h => simp [cellTp] at h
  | 2, h =>
   simp only [cellTp, Option.some.injEq, Tp.sl.injEq] at h
   subst h
   rfl
  | 3, h => simp [cellTp] at h
  | 4, h => simp [cellTp] at h
  | 5, h =>
   simp only [cellTp, Option.some.injEq, Tp.sl.injEq] at h
   subst h
   rfl
  | o + 6, h => simp [cellTp] at h
 | .unit, _, _, _, _, h => by simp [cellTp] at h
 | .bool, _, o, _, _, h => by cases o <;> simp [cellTp] at h
 | .int _, _, o, _, _, h => by cases o <;> simp [cellTp] at h
 | .str, _, o, _, _, h => by cases o <;> simp [cellTp] at h
 | .opt _, _, o, _, _, h => by cases o <;> simp [cellTp] at h
theorem jpW (tok : Nat → Option TS) (d : Nat) : jd tok [d] = updT tok d (some .spent) := by
 funext t
 simp only [jd, updT, List.mem_singleton]
theorem Mem.plug {R : Root} {w : World} {S : Stab} {box : Nat → Option BS} {tok : Nat → Option TS} {β : Nat → Nat} {τ : Nat → Value} {F : Nat → Nat → Prop} (hM : Mem R box tok β τ F S w) (n : Nat) (tk : Tok) (i o d : Nat) (hs : List (Nat × Nat × Nat)) (htk : tok n = some (.live tk)) (htr : tk.tr = some ((i, o, d) :: hs))
  (td : Tok) (htd : tok d = some (.live td)) (hwh : td.whole = true) (hwr : td.wr = true) (hdp : td.deep = true) (hfl : td.tr = none → td.t.flatB = true) (hdn : d ≠ n) (hct : cellTp tk.t o = some (.sl td.t)) :
  ∃ F', Mem R box (updT (updT tok d (some .spent)) n (some (.live { tk with xs := tk.xs.modify i fun y => setCell tk.t y o td.t td.xs, tr := some hs }))) β τ F' S w ∧
   TokLe ⟨w, S, fun k => box k ≠ none, β, tok, τ⟩ ⟨w, S, fun k => box k ≠ none, β, updT (updT tok d (some .spent)) n (some (.live { tk with xs := tk.xs.modify i fun y => setCell tk.t y o td.t td.xs, tr := some hs })), τ⟩ := by
 have hk := hM.toks n tk htk
 obtain ⟨Gd, hG1, hG2, hGD⟩ := (hM.toks d td htd).given hwh hwr hdp hfl
 have hwrn := (hk.tree htr).1
 obtain ⟨tk', htk'⟩ : ∃ tk' : Tok, tk' = { tk with xs := tk.xs.modify i fun y => setCell tk.t y o td.t td.xs, tr := some hs } := ⟨_, rfl⟩
 have hstep : Step (fun _ => False) S S w w := ⟨Upd.refl _ _, fun _ _ _ => rfl, fun _ _ h => h, fun _ _ h => .inl h, hM.lt⟩
 have hlen : (tk.xs.modify i fun y => setCell tk.t y o td.t td.xs).length = tk.xs.length := by simp
 have hGd : ∀ b, Gd b → R.fr b ∧ b < w.heap.size := fun b hb => (hM.toks d td htd).1 b (hG1 b hb)
 have hTk : TokOk R.fr w S tk' (τ n) (fun b => F n b ∨ Gd b) := by
  rw [htk']
  refine ⟨fun b hb => hb.elim (hk.1 b) (hGd b), ?_, ?_⟩
  ·rcases hk.2.1 with ⟨e1, e2⟩ | ⟨b, cap, vs, T, e1, h1, hg, hz, hn, hm, hst, hwr', hc⟩
   ·exact .inl ⟨e1, by show tk.xs.modify i _ = []; rw [e2]; simp⟩
   ·refine .inr ⟨b, cap, vs, T, by rw [hlen]; exact e1, .inl h1, hg, hz, by rw [hlen]; exact hn, hm, (fun h => by rw [show tk.wr = true from hwrn] at h; cases h), hwr', fun i2 j x p hx hp => ?_⟩
    have hi2 : i2 < tk.xs.length := by have := (List.getElem?_eq_some_iff.1 hx).1; simpa using this
    have hj : j < tk.t.w := by have := (List.getElem?_eq_some_iff.1 hp).1; rwa [enc_len] at this
    obtain ⟨u, k1, _⟩ := hc i2 j tk.xs[i2] ((enc tk.t tk.xs[i2])[j]'(by rw [enc_len]; exact hj)) (List.getElem?_eq_getElem hi2) (List.getElem?_eq_getElem _)
    exact ⟨u, k1, (fun h => by cases h), fun h => by rw [hwrn] at h; cases h⟩
  ·have h3 := hk.2.2
   unfold Once at h3 ⊢
   rw [htr] at h3
   obtain ⟨g1, g2, g3, hT⟩ := h3
   refine ⟨g1, g2, fun b hb => hb.elim (g3 b) (hG2 b), ?_⟩
   rcases hT with hT | ⟨b, cap, q, e', hq, hd, hcc⟩
   ·exact .inl hT
   ·have hbF : F n b := hk.block e'
    have hGF : ∀ k, Gd k → ¬ F n k := fun k h1 h2 => hdn (hM.tdis d n td tk k htd htk (hG1 k h1) h2)
    refine .inr ⟨b, cap, fun i2 j2 k => if i2 = i ∧ j2 = o then Gd k else q i2 j2 k, by rw [hlen]; exact e', fun i2 j2 k hk' => ?_, fun i2 j2 i3 j3 k h1 h2 => ?_, fun i2 j2 x c hx hc => ?_⟩
    ·simp only at hk'
     split at hk'
     ·exact ⟨.inr hk', fun e => hGF k hk' (e ▸ hbF)⟩
     ·exact ⟨.inl (hq i2 j2 k hk').1, (hq i2 j2 k hk').2⟩
    ·simp only at h1 h2
     split at h1 <;> split at h2
     ·rename_i h3 h4; exact ⟨h3.1.trans h4.1.symm, h3.2.trans h4.2.symm⟩
     ·exact absurd (hq i3 j3 k h2).1 (hGF k h1)
     ·exact absurd (hq i2 j2 k h1).1 (hGF k h2)
     ·exact hd i2 j2 i3 j3 k h1 h2
    ·have hi2 : i2 < tk.xs.length := by have := (List.getElem?_eq_some_iff.1 hx).1; simpa using this
     have hj : j2 < tk.t.w := cells_lt hc
     obtain ⟨c0, hc0⟩ := cells_at tk.xs[i2] hj
     obtain ⟨u, k1, k2, k3⟩ := hcc i2 j2 tk.xs[i2] c0 (List.getElem?_eq_getElem hi2) hc0
     refine ⟨u, k1, k2, fun hnot => ?_⟩
     rw [List.getElem?_modify, List.getElem?_eq_getElem hi2] at hx
     simp only [Option.map_eq_map, Option.map_some, Option.some.injEq] at hx
     by_cases hio : i2 = i ∧ j2 = o
     ·have eF : (fun k => if i2 = i ∧ j2 = o then Gd k else q i2 j2 k) = Gd := by funext k; rw [if_pos hio]
      show Deep w (fun k => if i2 = i ∧ j2 = o then Gd k else q i2 j2 k) u c
      rw [eF]
      obtain ⟨e1, e2⟩ := hio
      subst e1; subst e2
      rw [if_pos rfl] at hx
      rw [← hx, jcx tk.t _ j2 td.t td.xs hct, List.getElem?_set_self (by rw [cells_len]; exact hj)] at hc
      cases hc
      obtain ⟨b2, l2, cap2, e3, e4⟩ := (hM.hol n tk _ i2 j2 d htk htr List.mem_cons_self).2 td htd
      rw [e'] at e3; cases e3
      rw [k1] at e4
      cases e4
      exact hGD
     ·have eF : (fun k => if i2 = i ∧ j2 = o then Gd k else q i2 j2 k) = q i2 j2 := by funext k; rw [if_neg hio]
      show Deep w (fun k => if i2 = i ∧ j2 = o then Gd k else q i2 j2 k) u c
      rw [eF]
      have hsame : c = c0 := by
       by_cases hi3 : i2 = i
       ·subst hi3
        rw [if_pos rfl] at hx
        rw [← hx, jcx tk.t _ o td.t td.xs hct, List.getElem?_set_ne (fun e => hio ⟨rfl, e.symm⟩), hc0] at hc
        cases hc; rfl
       ·rw [if_neg (Ne.symm hi3)] at hx
        rw [← hx, hc0] at hc
        cases hc; rfl
      rw [hsame]
      refine k3 fun d' hin => ?_
      rcases List.mem_cons.1 hin with h1 | h1
      ·cases h1; exact hio ⟨rfl, rfl⟩
      ·exact hnot d' h1
 obtain ⟨h1, h2⟩ := hM.turn n tk tk' htk [d] (by simp [Ne.symm hdn]) (fun _ => False) hstep (fun _ h => h.elim) (fun b => F n b ∨ Gd b) (fun b hb => hb.imp id fun h => ⟨d, td, by simp, htd, hG1 b h⟩) hTk (by rw [htk']) (fun h => by rw [hwrn] at h; cases h)
  (fun hs' i' o' d' he hin => by
   rw [htk'] at he
   simp only [Option.some.injEq] at he
   subst he
   exact ⟨_, htr, List.mem_cons_of_mem _ hin, fun _ _ _ _ => rfl⟩)
 rw [jpW, htk'] at h1 h2
 exact ⟨_, h1, h2⟩
theorem jr9 {R : Root} {s : LSt} {a : Act} {w : World} (n : Nat) (h : Rel R s a w) : Rel R { s with T := plugAt s.T n } a w := by
 unfold plugAt
 split
 case h_2 => exact h
 rename_i tk htk
 split
 case h_2 => exact h
 rename_i i o d hs htr
 split
 case h_2 => exact h
 rename_i td htd
 split
 case isFalse => exact h
 rename_i hc
 obtain ⟨c1, c2, c3, c4, c5, c6⟩ := hc
 obtain ⟨β, τ, F, S, hM, hn, hdf, hs'⟩ := h
 obtain ⟨F', hM', hle⟩ := hM.plug n tk i o d hs htk htr td htd c1 c2 c3 c4 c5 c6
 refine ⟨β, τ, F', S, by simp only [lookT_setT]; exact hM', hn, hdf, fun k => ?_⟩
 have := V3.mono (c := s.ctx w S β τ) (c' := ⟨w, S, fun k => lookB s.B k ≠ none, β, updT (updT (lookT s.T) d (some .spent)) n (some (.live { tk with xs := tk.xs.modify i fun y => setCell tk.t y o td.t td.xs, tr := some hs })), τ⟩) ⟨fun _ _ h => h, fun _ _ _ => rfl⟩ (BoxLe.refl rfl rfl) hle (hs' k)
 unfold LSt.ctx
 simp only [lookT_setT]
 exact this
theorem jie {R : Root} {a : Act} {w : World} : ∀ (k : Nat) (ns : List Nat) (s : LSt), Rel R s a w → Rel R { s with T := plugs k ns s.T } a w
 | 0, _, s, h => h
 | k + 1, ns, s, h => by
  have key : ∀ (l : List Nat) (s : LSt), Rel R s a w → Rel R { s with T := l.foldl plugAt s.T } a w := fun l => by
   induction l with
   | nil => exact fun s h => h
   | cons n l ih => exact fun s h => ih { s with T := plugAt s.T n } (jr9 n h)
  exact jie k ns { s with T := ns.foldl plugAt s.T } (key ns s h)
theorem jfP {R : Root} {s : LSt} {a : Act} {w : World} (h : Rel R s a w) : Rel R { s with T := plugAll s.T } a w := by
 unfold plugAll
 cases s.T.any isOpen with
 | true => exact jie 8 _ s h
 | false => exact h
section
variable {E : Env} {o : Oper} {s : LSt} {e : Eff} {fp : FP}
inductive Gives (s : LSt) : AV → AV → List Nat → Prop
 | tok (t : Nat) (tk : Tok) (h : lookT s.T t = some (.live tk)) (h1 : tk.whole = true) (h2 : tk.wr = true) (h3 : tk.deep = true) (h4 : tk.tr = none → tk.t.flatB = true) : Gives s (.mtk t) (.pv (.sl tk.t) tk.xs) [t]
 | flat (t : Tp) (x : t.D) (h : t.flatB = true) : Gives s (.pv t x) (.pv t x) []
 | nil : Gives s .nils .nils []
inductive GivesL (s : LSt) : List AV → List AV → List Nat → Prop
 | nil : GivesL s [] [] []
 | cons {c c' : AV} {n : List Nat} {l l' : List AV} {ns : List Nat} (h : Gives s c c' n) (hl : GivesL s l l' ns) (hd : ∀ t, t ∈ n → t ∉ ns) : GivesL s (c :: l) (c' :: l') (n ++ ns)
theorem jbB : ∀ (l : List AV) (f : List AV → List (Nat × Option TS) → RD) (rb rt : List Nat), (giveTree l f).R s rb rt e fp → ∃ cs ns rt', GivesL s l cs ns ∧ (f cs (ns.map fun t => (t, some TS.spent))).R s rb rt' e fp
 | [], f, rb, rt, h => ⟨[], [], rt, .nil, h⟩
 | c :: l, f, rb, rt, h => by
  unfold giveTree at h
  split at h
  ·rename_i t
   simp only [RD.R] at h
   split at h
   case h_2 => exact h.elim
   rename_i tk htk
   split at h
   case isFalse => exact h.elim
   rename_i hc
   obtain ⟨c1, c2, c3, c4⟩ := hc
   obtain ⟨cs, ns, rt', h1, h2⟩ := jbB l _ _ _ h
   split at h2
   ·exact h2.elim
   rename_i hany
   refine ⟨_, [t] ++ ns, rt', .cons (.tok t tk htk c1 c2 c3 c4) h1 (fun t' ht' => ?_), h2⟩
   simp only [List.mem_singleton] at ht'
   subst ht'
   exact jcg (Bool.eq_false_iff.2 hany)
  ·rename_i t x
   split at h
   case isFalse => exact h.elim
   rename_i hf
   obtain ⟨cs, ns, rt', h1, h2⟩ := jbB l _ _ _ h
   exact ⟨_, [] ++ ns, rt', .cons (.flat t x hf) h1 (fun t' ht' => by cases ht'), h2⟩
  ·obtain ⟨cs, ns, rt', h1, h2⟩ := jbB l _ _ _ h
   exact ⟨_, [] ++ ns, rt', .cons .nil h1 (fun t' ht' => by cases ht'), h2⟩
  ·exact h.elim
theorem GivesL.len {l cs : List AV} {ns : List Nat} (h : GivesL s l cs ns) : cs.length = l.length := by
 induction h with
 | nil => rfl
 | cons h hl hd ih => simp [ih]
theorem GivesL.mem {R : Root} {w : World} {S : Stab} {β : Nat → Nat} {τ : Nat → Value} {F : Nat → Nat → Prop} (hM : Mem R (lookB s.B) (lookT s.T) β τ F S w) {l cs : List AV} {ns : List Nat} (h : GivesL s l cs ns) : ∀ (vals : List Value), All2 (V1c (s.ctx w S β τ)) l vals →
  ∃ g : Nat → Nat → Prop, (∀ k b, g k b → (∃ t tk, t ∈ ns ∧ lookT s.T t = some (.live tk) ∧ F t b) ∧ ∀ o, ¬ S b o) ∧ (∀ k k' b, g k b → g k' b → k = k') ∧ ∀ (k : Nat) (c c' : AV) (v : Value), cs[k]? = some c → AsAV c c' → vals[k]? = some v → Deep w (g k) v c' := by
 induction h with
 | nil => exact fun vals _ => ⟨fun _ _ => False, fun _ _ h => h.elim, fun _ _ _ h => h.elim, fun k c c' v h => by simp at h⟩
 | @cons c0 c1 n l l' ns h hl hd ih =>
  intro vals hv
  match vals, hv with
  | v0 :: vals, hv =>
  obtain ⟨g, k1, k2, k3⟩ := ih vals hv.2
  obtain ⟨G, h1, h2⟩ : ∃ G : Nat → Prop, (∀ b, G b → (∃ t tk, t ∈ n ∧ lookT s.T t = some (.live tk) ∧ F t b) ∧ ∀ o, ¬ S b o) ∧ ∀ c', AsAV c1 c' → Deep w G v0 c' := by
   cases h with
   | tok t tk h h1 h2 h3 h4 =>
    obtain ⟨G, g1, g2, g3⟩ := (hM.toks t tk h).given h1 h2 h3 h4
    refine ⟨G, fun b hb => ⟨⟨t, tk, by simp, h, g1 b hb⟩, g2 b hb⟩, fun c' ha => ?_⟩
    obtain ⟨t0, y0, e1, rfl⟩ := ha
    simp only [AV.as] at e1
    split at e1
    ·rename_i et
     subst et
     cases e1
     have : v0 = τ t := (v3_mtk (V3_of_V1 hv.1.1)).2.2 tk h
     rw [this]; exact g3
    ·cases e1
   | flat t x h =>
    refine ⟨fun _ => False, fun _ h => h.elim, fun c' ha => ?_⟩
    obtain ⟨t0, y0, e1, rfl⟩ := ha
    simp only [AV.as] at e1
    split at e1
    ·rename_i et
     subst et
     cases e1
     obtain ⟨p, he, hr⟩ := v3_pv (V3_of_V1 hv.1.1)
     have hl := flat_isLit _ _ h p (by rw [he]; simp)
     exact .lit _ _ _ _ p he hl (rep_litV hr hl)
    ·cases e1
   | nil =>
    refine ⟨fun _ => False, fun _ h => h.elim, fun c' ha => ?_⟩
    obtain ⟨t0, y0, e1, rfl⟩ := ha
    cases t0 with
    | sl r0 =>
     cases e1
     have e : v0 = .slice none 0 0 := hv.1.1
     rw [e]
     exact .nil _ _
    | _ => cases e1
  refine ⟨fun k => match k with | 0 => G | k + 1 => g k, fun k b hb => ?_, fun k k' b hb hb' => ?_, fun k c c' v hc ha hv' => ?_⟩
  ·match k, hb with
   | 0, hb =>
    obtain ⟨⟨t, tk, e1, e2, e3⟩, e4⟩ := h1 b hb
    exact ⟨⟨t, tk, List.mem_append_left _ e1, e2, e3⟩, e4⟩
   | k + 1, hb =>
    obtain ⟨⟨t, tk, e1, e2, e3⟩, e4⟩ := k1 k b hb
    exact ⟨⟨t, tk, List.mem_append_right _ e1, e2, e3⟩, e4⟩
  ·have cross : ∀ k b, G b → g k b → False := fun k b hb hb' => by
    obtain ⟨⟨t, tk, e1, e2, e3⟩, _⟩ := h1 b hb
    obtain ⟨⟨t', tk', f1, f2, f3⟩, _⟩ := k1 k b hb'
    have := hM.tdis t t' tk tk' b e2 f2 e3 f3
    subst this
    exact hd t e1 f1
   match k, k', hb, hb' with
   | 0, 0, _, _ => rfl
   | 0, k' + 1, hb, hb' => exact (cross k' b hb hb').elim
   | k + 1, 0, hb, hb' => exact (cross k b hb' hb).elim
   | k + 1, k' + 1, hb, hb' => rw [k2 k k' b hb hb']
  ·match k, hc, hv' with
   | 0, hc, hv' =>
    simp at hc hv'
    subst hc; subst hv'
    exact h2 c' ha
   | k + 1, hc, hv' => exact k3 k c c' v (by simpa using hc) ha (by simpa using hv')
theorem jd1 {i q size : Nat} : ∀ (hs : List (Nat × Nat × Nat)) (f : List (Nat × Nat × Nat) → RD) (rb rt : List Nat), (dropHoles i q size hs f).R s rb rt e fp → ∃ hs', (f hs').R s rb rt e fp ∧ (∀ x, x ∈ hs' → x ∈ hs ∧ ¬ (q ≤ x.2.1 ∧ x.2.1 < q + size)) ∧ ∀ x, x ∈ hs → x ∈ hs' ∨ (x.1 = i ∧ q ≤ x.2.1 ∧ x.2.1 < q + size)
 | [], f, rb, rt, h => ⟨[], h, (fun x hx => by cases hx), (fun x hx => by cases hx)⟩
 | y :: hs, f, rb, rt, h => by
  simp only [dropHoles] at h
  cases hb : (Nat.ble q y.2.1 && Nat.blt y.2.1 (q + size)) with
  | true =>
   rw [hb] at h
   simp only [Bool.and_eq_true] at hb
   have b1 := Nat.le_of_ble_eq_true hb.1
   have b2 := jcW hb.2
   obtain ⟨hi, h⟩ := h
   obtain ⟨hs', h1, h2, h3⟩ := jd1 hs f rb rt h
   refine ⟨hs', h1, fun x hx => ⟨List.mem_cons_of_mem _ (h2 x hx).1, (h2 x hx).2⟩, fun x hx => ?_⟩
   rcases List.mem_cons.1 hx with rfl | hx
   ·exact .inr ⟨hi, b1, b2⟩
   ·exact h3 x hx
  | false =>
   rw [hb] at h
   obtain ⟨hs', h1, h2, h3⟩ := jd1 hs _ rb rt h
   refine ⟨y :: hs', h1, fun x hx => ?_, fun x hx => ?_⟩
   ·rcases List.mem_cons.1 hx with rfl | hx
    ·refine ⟨List.mem_cons_self, fun ⟨c1, c2⟩ => ?_⟩
     rw [Bool.and_eq_false_iff] at hb
     rcases hb with hb | hb
     ·rw [Nat.ble_eq_true_of_le c1] at hb; cases hb
     ·rw [jj1 c2] at hb; cases hb
    ·exact ⟨List.mem_cons_of_mem _ (h2 x hx).1, (h2 x hx).2⟩
   ·rcases List.mem_cons.1 hx with rfl | hx
    ·exact .inl List.mem_cons_self
    ·exact (h3 x hx).imp (List.mem_cons_of_mem _) id
end
end Go.Proofs.YtcjbjmbialienaaGreatDoor
