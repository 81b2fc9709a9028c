/- The engine, eleventh part: parts of slices, elements that are written, literals of slices. -/
import Derived.Test.YtcjbjmbialienaaGreatDoorK10
set_option linter.unusedSimpArgs false
set_option linter.unusedVariables false
namespace Go.Proofs.YtcjbjmbialienaaGreatDoor
open Go.RowKit
section
variable {E : Env} {o : Oper} {s : LSt} {e : Eff} {fp : FP}
theorem TokOk.deepTree {Fr : Nat → Prop} {w : World} {S : Stab} {tk : Tok} {v : Value} {F : Nat → Prop} (h : TokOk Fr w S tk v F) (htr : tk.tr = some []) : Deep w F v (.pv (.sl tk.t) tk.xs) := by
 obtain ⟨hF, hk, hon⟩ := h
 unfold Once at hon
 rw [htr] at hon
 obtain ⟨_, _, _, hT⟩ := hon
 rcases hk with ⟨e1, e2⟩ | ⟨b, cap, vs, T, e1, h1, hg, hz, hn, hm, hst, hwr, hc⟩
 ·rw [e1, e2]; exact .nil _ _
 ·rcases hT with hT | ⟨b', cap', q, e', hq, hd, hcc⟩
  ·rw [hT] at e1; cases e1
  ·rw [e'] at e1; cases e1
   rw [e']
   have key : ∀ (i j : Nat) (x : tk.t.D) (c : AV), tk.xs[i]? = some x → (cellsOf tk.t x)[j]? = some c → ∃ u, vs[i * tk.t.w + j]? = some u ∧ Deep w (q i j) u c := fun i j x c hx hc' => by
    obtain ⟨u, g1, g2, g3⟩ := hcc i j x c hx hc'
    rw [cell_of_row w b _ vs T (0, 0) hg] at g1
    exact ⟨u, g1, g3 (fun d => by simp)⟩
   refine .sl F cap tk.t tk.xs (fun i j => (vs[i * tk.t.w + j]?).getD undef) b q vs T h1 hg hz hn hm (fun i j x c hx hc' => ?_) hq hd (fun i j x c hx hc' => ?_)
   ·obtain ⟨u, k1, _⟩ := key i j x c hx hc'
    rw [k1]; rfl
   ·obtain ⟨u, k1, k2⟩ := key i j x c hx hc'
    simp only [k1, Option.getD_some]
    exact k2
theorem Mem.turn {R : Root} {w w' : World} {S S' : Stab} {box : Nat → Option BS} {tok : Nat → Option TS} {β : Nat → Nat} {τ : Nat → Value} {F : Nat → Nat → Prop} (hM : Mem R box tok β τ F S w) (n : Nat) (tk tk' : Tok) (htk : tok n = some (.live tk)) (l : List Nat) (hnl : n ∉ l) (X : Nat → Prop) (hstep : Step X S S' w w') (hX : ∀ k, X k → F n k)
  (G : Nat → Prop) (hG : ∀ b, G b → F n b ∨ ∃ t tk1, t ∈ l ∧ tok t = some (.live tk1) ∧ F t b) (hk' : TokOk R.fr w' S' tk' (τ n) G) (ht : tk'.t = tk.t) (hc : tk.wr = false → tk'.wr = false ∧ (⟨tk'.t, tk'.xs⟩ : (t : Tp) × List t.D) = ⟨tk.t, tk.xs⟩)
  (hh : ∀ hs' i o d, tk'.tr = some hs' → (i, o, d) ∈ hs' → ∃ hs, tk.tr = some hs ∧ (i, o, d) ∈ hs ∧ ∀ b l cap, τ n = .slice (some ⟨b, 0, none⟩) l cap → w'.cell? ⟨b, i * tk.t.w + o, none⟩ = w.cell? ⟨b, i * tk.t.w + o, none⟩) :
  Mem R box (updT (jd tok l) n (some (.live tk'))) β τ (fun t => if t = n then G else F t) S' w' ∧ TokLe ⟨w, S, fun k => box k ≠ none, β, tok, τ⟩ ⟨w', S', fun k => box k ≠ none, β, updT (jd tok l) n (some (.live tk')), τ⟩ := by
 have hF := (hM.toks n tk htk).1
 have hne : ∀ k b, box k = some b → ¬ F n (β k) := fun k b hk h => hM.tbox n tk k b htk hk h
 have hM1 := hM.drop (tok' := jd tok (n :: l)) (fun t ht => jQ ht) (fun t tk h => (jo h).2)
 have hM2 := hM1.step hstep (fun k hk => (hF k (hX k hk)).1) (fun k b hk h => hne k b hk (hX _ h)) (fun t tk' ht k hk hk' => (jo ht).1 (by simp [hM.tdis t n tk' tk k (jo ht).2 htk hk (hX k hk')]))
 have old : ∀ {t tk1}, t ≠ n → updT (jd tok l) n (some (TS.live tk')) t = some (.live tk1) → t ∉ l ∧ tok t = some (.live tk1) := fun {t tk1} e h => by
  simp only [updT, e, if_false] at h
  exact jo h
 have old' : ∀ {t tk1}, updT (jd tok l) n (some (TS.live tk')) t = some (.live tk1) → ∃ tk2, tok t = some (.live tk2) := fun {t tk1} h => by
  by_cases e : t = n
  ·exact ⟨tk, e ▸ htk⟩
  ·exact ⟨tk1, (old e h).2⟩
 have used : ∀ {t}, tok t ≠ none → updT (jd tok l) n (some (TS.live tk')) t ≠ none := fun {t} h => by
  by_cases e : t = n
  ·subst e; simp [updT]
  ·simp only [updT, e, if_false]; exact jQ h
 have hle : TokLe ⟨w, S, fun k => box k ≠ none, β, tok, τ⟩ ⟨w', S', fun k => box k ≠ none, β, updT (jd tok l) n (some (.live tk')), τ⟩ := fun t ht1 => ⟨used ht1, fun tk1 h1 => by
  have h1 : updT (jd tok l) n (some (TS.live tk')) t = some (.live tk1) := h1
  by_cases e : t = n
  ·subst e
   simp [updT] at h1; subst h1
   exact ⟨tk, htk, rfl, ht, hc⟩
  ·exact ⟨tk1, (old e h1).2, rfl, rfl, fun h => ⟨h, rfl⟩⟩⟩
 refine ⟨⟨hM2.upd, hM2.old, hM2.new, hM2.keep, hM2.lt, fun k b hk => ?_, hM.binj, fun t tk1 ht1 => ?_, fun t t' tk1 tk2 b h1 h2 f1 f2 => ?_, fun t tk1 k b ht1 hk f1 => ?_, hM.bfix, fun t v tk1 hv ht1 => ?_, fun m tkm hs i o d hm htr hin => ?_⟩, hle⟩
 ·obtain ⟨h1, h2, h2', hB⟩ := hM.boxes k b hk
  obtain ⟨k1, k2, k3, _⟩ := hM2.boxes k b hk
  exact ⟨k1, k2, k3, hB.imp (hstep.upd.block _ (hM.blt hk) (fun h => hne k b hk (hX _ h))) fun x u hx => ⟨V1.mono (c := ⟨w, S, fun k => box k ≠ none, β, tok, τ⟩) (c' := ⟨w', S', fun k => box k ≠ none, β, updT (jd tok l) n (some (.live tk')), τ⟩) ⟨hstep.old, hstep.cell⟩ (BoxLe.refl rfl rfl) hle hx.1, hx.2⟩⟩
 ·by_cases e : t = n
  ·subst e
   simp [updT] at ht1; subst ht1
   simpa using hk'
  ·have h1 := old e ht1
   have := (hM.toks t tk1 h1.2).step hstep (fun k hk hk' => e (hM.tdis t n tk1 tk k h1.2 htk hk (hX k hk')))
   simpa [e] using this
 ·by_cases e1 : t = n <;> by_cases e2 : t' = n
  ·rw [e1, e2]
  ·simp only [e1, if_true] at f1
   simp only [e2, if_false] at f2
   have h2 := old e2 h2
   rcases hG b f1 with g | ⟨t1, tk3, g1, g2, g3⟩
   ·exact absurd (hM.tdis t' n tk2 tk b h2.2 htk f2 g) e2
   ·exact absurd (hM.tdis t' t1 tk2 tk3 b h2.2 g2 f2 g3 ▸ g1) h2.1
  ·simp only [e1, if_false] at f1
   simp only [e2, if_true] at f2
   have h1 := old e1 h1
   rcases hG b f2 with g | ⟨t1, tk3, g1, g2, g3⟩
   ·exact absurd (hM.tdis t n tk1 tk b h1.2 htk f1 g) e1
   ·exact absurd (hM.tdis t t1 tk1 tk3 b h1.2 g2 f1 g3 ▸ g1) h1.1
  ·simp only [e1, if_false] at f1
   simp only [e2, if_false] at f2
   exact hM.tdis t t' tk1 tk2 b (old e1 h1).2 (old e2 h2).2 f1 f2
 ·by_cases e : t = n
  ·simp only [e, if_true] at f1
   rcases hG _ f1 with g | ⟨t1, tk3, g1, g2, g3⟩
   ·exact hne k b hk g
   ·exact hM.tbox t1 tk3 k b g2 hk g3
  ·simp only [e, if_false] at f1
   exact hM.tbox t tk1 k b (old e ht1).2 hk f1
 ·obtain ⟨tk2, h2⟩ := old' ht1
  exact hM.tfix t v tk2 hv h2
 ·by_cases e : m = n
  ·subst e
   simp [updT] at hm; subst hm
   obtain ⟨hs0, g1, g2, g3⟩ := hh hs i o d htr hin
   obtain ⟨k1, k2⟩ := hM.hol m tk hs0 i o d htk g1 g2
   refine ⟨used k1, fun td hd => ?_⟩
   obtain ⟨td2, hd2⟩ := old' hd
   obtain ⟨b, l, cap, e1, e2⟩ := k2 td2 hd2
   exact ⟨b, l, cap, e1, by rw [ht]; exact (g3 b l cap e1).trans e2⟩
  ·have h1 := old e hm
   obtain ⟨k1, k2⟩ := hM.hol m tkm hs i o d h1.2 htr hin
   refine ⟨used k1, fun td hd => ?_⟩
   obtain ⟨td2, hd2⟩ := old' hd
   obtain ⟨b, l, cap, e1, e2⟩ := k2 td2 hd2
   have hF' := (hM.toks m tkm h1.2).block e1
   exact ⟨b, l, cap, e1, (World.cell?_of_block (w := w) (hstep.upd.block b ((hM.toks m tkm h1.2).1 b hF').2 (fun hx => e (hM.tdis m n tkm tk b h1.2 htk hF' (hX b hx))))).trans e2⟩
theorem Mem.setTok {R : Root} {w w' : World} {S S' : Stab} {box : Nat → Option BS} {tok : Nat → Option TS} {β : Nat → Nat} {τ : Nat → Value} {F : Nat → Nat → Prop} (hM : Mem R box tok β τ F S w) (n : Nat) (tk tk' : Tok) (htk : tok n = some (.live tk)) (X : Nat → Prop) (hstep : Step X S S' w w') (hX : ∀ k, X k → F n k)
  (hk' : TokOk R.fr w' S' tk' (τ n) (F n)) (ht : tk'.t = tk.t) (hc : tk.wr = false → tk'.wr = false ∧ (⟨tk'.t, tk'.xs⟩ : (t : Tp) × List t.D) = ⟨tk.t, tk.xs⟩) (hp : tk'.tr = none) : Mem R box (updT tok n (some (.live tk'))) β τ F S' w' := by
 have h := (hM.turn n tk tk' htk [] (by simp) X hstep hX (F n) (fun b hb => .inl hb) hk' ht hc (fun hs' i o d h => by rw [hp] at h; cases h)).1
 have e1 : jd tok [] = tok := by funext t; simp [jd]
 have e2 : (fun t => if t = n then F n else F t) = F := by
  funext t
  by_cases e : t = n
  ·rw [if_pos e, e]
  ·rw [if_neg e]
 rw [e1, e2] at h
 exact h
theorem jdQ {w : World} {S S' : Stab} {v : Value} {p : PV} (h : Rep w S v p) (hp : p.isLit = true) : Rep w S' v p := by
 rw [rep_litV h hp]; exact Rep.ofLit hp
theorem Mem.freezeTok {R : Root} {w : World} {S : Stab} {box : Nat → Option BS} {tok : Nat → Option TS} {β : Nat → Nat} {τ : Nat → Value} {F : Nat → Nat → Prop} (hM : Mem R box tok β τ F S w) (n : Nat) (tk : Tok) (htk : tok n = some (.live tk)) (hwh : tk.whole = true) :
  ∃ S', Mem R box (updT tok n (some (.live tk.fz0))) β τ F S' w ∧ (∀ b o, S b o → S' b o) ∧ TokOk R.fr w S' tk.fz0 (τ n) (F n) := by
 have hk := hM.toks n tk htk
 cases hw : tk.wr with
 | false =>
  have hp := hk.plain hw
  have e1 : tk.fz0 = tk := by cases tk; simp only at hw hp; simp only [Tok.fz0, hw, hp]
  refine ⟨S, ?_, fun _ _ h => h, by rw [e1]; exact hk⟩
  have : updT tok n (some (.live tk.fz0)) = tok := by
   funext j
   by_cases h : j = n
   ·subst h; simp only [updT, if_true]; rw [e1]; exact htk.symm
   ·simp only [updT, h, if_false]
  rw [this]; exact hM
 | true =>
  have hk0 := hk
  obtain ⟨hF, hk, hon⟩ := hk
  obtain ⟨S', hS'⟩ : ∃ S' : Stab, S' = fun b o => S b o ∨ (F n b ∧ ((∀ l cap, τ n = .slice (some ⟨b, 0, none⟩) l cap → o < tk.xs.length * tk.t.w) ∧ (tk.tr ≠ none ∨ ∃ l cap, τ n = .slice (some ⟨b, 0, none⟩) l cap))) := ⟨_, rfl⟩
  have hSo : ∀ b o, S b o → S' b o := fun b o h => by rw [hS']; exact .inl h
  have hstep : Step (fun b => F n b) S S' w w := ⟨Upd.refl _ _, fun _ _ _ => rfl, hSo, fun b o h => by
   rw [hS'] at h
   rcases h with h | h
   ·exact .inl h
   ·exact .inr (.inr h.1), fun b o h => by
   rw [hS'] at h
   rcases h with h | h
   ·exact hM.lt b o h
   ·exact (hF b h.1).2⟩
  have hTk : TokOk R.fr w S' tk.fz0 (τ n) (F n) := by
   refine ⟨hF, ?_, ?_⟩
   ·rcases hk with ⟨e1, e2⟩ | ⟨b, cap, vs, T, e1, h1, hg, hz, hn, hm, hst, hwr, hc⟩
    ·exact .inl ⟨e1, e2⟩
    ·refine .inr ⟨b, cap, vs, T, e1, h1, hg, hz, hn, hm, fun _ o ho => ?_, (fun h => by cases h), fun i j x p hx hp => ?_⟩
     ·rw [hS'] at ho
      rcases ho with ho | ho
      ·exact absurd ho (hwr hw o)
      ·exact ho.2.1 _ _ e1
     ·obtain ⟨u, k1, k2, _⟩ := hc i j x p hx hp
      have hi : i < tk.xs.length := (List.getElem?_eq_some_iff.1 hx).1
      have hj : j < tk.t.w := by have := (List.getElem?_eq_some_iff.1 hp).1; rwa [enc_len] at this
      have hlt : i * tk.t.w + j < tk.xs.length * tk.t.w := by
       have : (i + 1) * tk.t.w ≤ tk.xs.length * tk.t.w := Nat.mul_le_mul_right _ hi
       rw [Nat.add_mul] at this; omega
      refine ⟨u, k1, fun _ => ?_, fun _ => ?_⟩
      ·
       cases htr : tk.tr with
       | none => exact (k2 htr).mono hSo (fun _ _ _ => rfl)
       | some hs =>
        have hs0 : hs = [] := by
         unfold Tok.whole at hwh
         rw [htr] at hwh
         cases hs with
         | nil => rfl
         | cons _ _ => cases hwh
        subst hs0
        unfold Once at hon
        rw [htr] at hon
        obtain ⟨_, _, hFS, hT⟩ := hon
        rcases hT with hT | ⟨b', cap', q, e', hq, hd, hcc⟩
        ·rw [hT] at e1; cases e1
        ·rw [e'] at e1; cases e1
         obtain ⟨c, hc'⟩ := cells_at (r := tk.t) x hj
         obtain ⟨u', g1, g2, g3⟩ := hcc i j x c hx hc'
         rw [cell_of_row w b _ vs T (0, 0) hg] at g1
         have k1 : vs[i * tk.t.w + j]? = some u := k1
         rw [k1] at g1
         cases g1
         obtain ⟨t0, x0, p0, h4, h5, h6⟩ := (g3 (fun d => by simp)).rep (S := S') (fun k o hk => by
          rw [hS']
          refine .inr ⟨(hq i j k hk).1, fun l cap' e2 => ?_, .inl (by rw [htr]; simp)⟩
          rw [e'] at e2; cases e2
          exact absurd rfl (hq i j b hk).2)
         obtain ⟨t1, x1, h7, h8⟩ := (cells_enc tk.t x).get' j c p hc' hp
         rw [h7] at h4; cases h4
         rw [h8] at h5; cases h5
         exact h6
      ·rw [hS']
       exact .inr ⟨h1, fun l cap' e2 => hlt, .inr ⟨_, _, e1⟩⟩
   ·unfold Once
    show (tk.deep = true → Deep w (F n) (τ n) (.pv (.sl tk.t) tk.xs))
    intro hd
    unfold Once at hon
    cases htr : tk.tr with
    | none => rw [htr] at hon; exact hon hd
    | some hs =>
     have hs0 : hs = [] := by
      unfold Tok.whole at hwh
      rw [htr] at hwh
      cases hs with
      | nil => rfl
      | cons _ _ => cases hwh
     subst hs0
     rw [htr] at hon
     exact hk0.deepTree htr
  exact ⟨S', hM.setTok n tk tk.fz0 htk _ hstep (fun _ h => h) hTk rfl (fun h => by rw [hw] at h; cases h) rfl, hSo, hTk⟩
theorem jtk {c : Ctx} {S' : Stab} {n : Nat} {tk : Tok} (htk : c.tok n = some (.live tk)) (hpl : tk.wr = false → tk.tr = none) : TokLe c ⟨c.w, S', c.live, c.β, updT c.tok n (some (.live tk.fz0)), c.τ⟩ := fun t ht => by
 by_cases e : t = n
 ·subst e
  refine ⟨by simp [updT], fun tk' h => ?_⟩
  simp [updT] at h; subst h
  exact ⟨tk, htk, rfl, rfl, fun h => ⟨rfl, rfl⟩⟩
 ·simp only [updT, e, if_false]
  exact ⟨ht, fun tk' h => ⟨tk', h, trivial, rfl, fun h => ⟨h, rfl⟩⟩⟩
theorem Deep.head {w : World} {F : Nat → Prop} {b cap : Nat} {r : Tp} {xs : List r.D} (h : Deep w F (.slice (some ⟨b, 0, none⟩) xs.length cap) (.pv (.sl r) xs)) (k : Nat) (hk : k ≤ xs.length) : Deep w F (.slice (some ⟨b, 0, none⟩) k cap) (.pv (.sl r) (xs.take k)) := by
 obtain ⟨v, hv⟩ : ∃ v, v = Value.slice (some ⟨b, 0, none⟩) xs.length cap := ⟨_, rfl⟩
 rw [← hv] at h
 cases h with
 | lit _ _ _ _ p he hl hv' => cases he; cases hl
 | nil _ _ => cases hv
 | sl _ cap' _ _ u b' q vs T hb hg hz hc hx hu hq hd hr =>
  cases hv
  have hl : (xs.take k).length = k := by simp; omega
  have get : ∀ {i : Nat} {x : r.D}, (xs.take k)[i]? = some x → xs[i]? = some x := fun {i x} h => by
   rw [List.getElem?_take] at h
   split at h
   ·exact h
   ·cases h
  have := Deep.sl F cap r (xs.take k) u b q vs T hb hg hz (by omega) hx (fun i j x c h1 h2 => hu i j x c (get h1) h2) hq hd (fun i j x c h1 h2 => hr i j x c (get h1) h2)
  rwa [hl] at this
theorem TokOk.head {Fr : Nat → Prop} {w : World} {S : Stab} {tk : Tok} {v : Value} {F : Nat → Prop} (h : TokOk Fr w S tk v F) (hw : tk.wr = true) (ht : tk.tr = none) (k : Nat) (hk : k ≤ tk.xs.length) {ad : Option Addr} {cap m : Nat} (hv : v = .slice ad tk.xs.length cap) :
  TokOk Fr w S ⟨tk.t, tk.xs.take k, tk.e, true, tk.deep, none⟩ (.slice (jC ad cap 0 m) k (cap - 0)) F := by
 have hdp := fun hd => h.deepOf ht hd
 obtain ⟨h1, h2, _⟩ := h
 rcases h2 with ⟨e1, e2⟩ | ⟨b, cap', vs, T, e1, hb, hg, hz, hn, hm, hst, hwr, hc⟩
 ·rw [e1, show tk.xs.length = 0 by rw [e2]; rfl] at hv
  cases hv
  have hk0 : k = 0 := by rw [e2] at hk; simpa using hk
  subst hk0
  refine ⟨h1, .inl ⟨?_, by simp⟩, ?_⟩
  ·simp [jC]
  ·show (tk.deep = true → Deep w F _ (.pv (.sl tk.t) (tk.xs.take 0)))
   intro _
   have : (.slice (jC none 0 0 m) 0 (0 - 0) : Value) = .slice none 0 0 := by simp [jC]
   rw [this]
   exact .nil _ _
 ·rw [e1] at hv
  cases hv
  have ea : jC (some ⟨b, 0, none⟩) cap 0 m = some ⟨b, 0, none⟩ := by
   unfold jC
   split
   ·rfl
   ·simp [add_ptr]
  have get : ∀ {i : Nat} {x : tk.t.D}, (tk.xs.take k)[i]? = some x → tk.xs[i]? = some x := fun {i x} h => by
   rw [List.getElem?_take] at h
   split at h
   ·exact h
   ·cases h
  rw [ea, Nat.sub_zero]
  refine ⟨h1, .inr ⟨b, cap, vs, T, by simp; omega, hb, hg, hz, by simp; omega, hm, (fun h => by cases h), fun _ => hwr hw, fun i j x p hx hp => ?_⟩, ?_⟩
  ·obtain ⟨u, k1, k2, _⟩ := hc i j x p (get hx) hp
   exact ⟨u, k1, fun _ => k2 ht, fun h => by cases h⟩
  ·show (tk.deep = true → Deep w F _ (.pv (.sl tk.t) (tk.xs.take k)))
   intro hd
   have := hdp hd
   rw [e1] at this
   exact this.head k hk
theorem jkb {dst : Option Nat} {lo : Option Operand} {wr : Bool} {d : Nat} (h : keepName E dst lo wr = some d) : dst = some d ∧ lo = none ∧ E.wr d = true ∧ wr = true := by
 unfold keepName at h
 split at h
 ·split at h
  ·rename_i hc
   cases h
   simp only [Bool.and_eq_true] at hc
   exact ⟨rfl, rfl, hc.1, hc.2⟩
  ·cases h
 ·cases h
theorem js1 (hE : EnvOk E) (T : TypeId) (x : Operand) (lo hi : Option Operand) (ho : o.op = .slice T x lo hi none) (h : (opRD E o.op o.dst s.ev).R s [] [] e fp) : Sim E o s e := by
 rw [ho] at h
 simp only [opRD] at h
 split at h
 case h_2 => exact h.elim
 rename_i ty hty
 have hTy := hE.ty T ty hty
 split at h
 ·rename_i b hx
  split at h
  case isFalse => exact h.elim
  rename_i hstr
  obtain ⟨l, h, hl⟩ := jav h
  obtain ⟨q, h, hq⟩ := jav h
  obtain ⟨y, hy, h⟩ := h
  cases val_R h
  obtain ⟨h0, h1, h2, rfl⟩ := jcc hy
  refine sim_val fun c a w hw hev => ?_
  have hv : a.eval x = .string (bytes b) := v3_str (hx ▸ hev x)
  have hr := jeB (P := E.P) w a false b.length b.length lo hi l q (hl c a hev) (hq c a hev) h0 h1 h2 (Nat.le_refl _)
  refine ⟨.string ((bytes b).extract l.toNat q.toNat), ?_, ?_⟩
  ·simp only [execOp, ho, Instr.sliceAt, Sem.run_bind, run_underlying (hTy.str hstr), Result.andThen_ok, Instr.slice, hv, Option.map_none, Option.isSome_none, Bool.false_eq_true, if_false, bytes_size, hr, Sem.run_pure]
  ·have : (bytes b).extract l.toNat q.toNat = bytes ((b.take q.toNat).drop l.toNat) := by
    apply Go.WideShapes.bytes_inj
    rw [ByteArray.data_extract, Array.toList_extract]
    simp only [bytes, List.extract, List.drop_take]
   rw [this]; exact mk_str c _
 ·split at h
  case h_2 => exact h.elim
  rename_i e' r by' he
  obtain ⟨hu, hpos, ie, z, hie, hsz, _⟩ := hTy.elem _ _ _ he
  split at h
  ·rename_i n hx
   simp only [RD.R] at h
   split at h
   case h_2 => exact h.elim
   rename_i tk htk
   split at h
   case isFalse => exact h.elim
   rename_i et
   obtain ⟨et, etr⟩ := et
   subst et
   have hwh : tk.whole = true := by unfold Tok.whole; rw [etr]
   obtain ⟨l, h, hl⟩ := jav h
   obtain ⟨q, h, hq⟩ := jav h
   obtain ⟨y, hy, h⟩ := h
   obtain ⟨h0, h1, h2, hyy⟩ := jcc hy
   split at h
   ·rename_i d hkn
    obtain ⟨hdst, hlo, hwrd, hwr⟩ := jkb hkn
    obtain ⟨hd, hfr, hres, rfl⟩ := jds h
    rw [hwrd]
    rintro R a w hR0 ⟨β, τ, F, S, hM, hn, hdf, hs⟩ K Q hK
    have hev := V3_ev hs
    have hxv := hev x; rw [hx] at hxv
    have ev := (v3_mtk hxv).2.2 tk htk
    have hl0 : l = 0 := by
     rcases hl (s.ctx w S β τ) a hev with ⟨_, e⟩ | ⟨y', k, e, _⟩
     ·exact e
     ·rw [hlo] at e; cases e
    subst hl0
    have hk := hM.toks n tk htk
    obtain ⟨ad, cap, hv, hcap⟩ : ∃ ad cap, τ n = .slice ad tk.xs.length cap ∧ tk.xs.length ≤ cap := by
     rcases hk.2.1 with ⟨e1, e2⟩ | ⟨b, cap, vs, T', e1, _, _, _, hn, _⟩
     ·exact ⟨none, 0, by rw [e1, e2]; rfl, by rw [e2]; exact Nat.le_refl _⟩
     ·exact ⟨_, cap, e1, hn⟩
    have hrun := jdh (E := E) T x lo hi ho e' ie hu hie a w ad tk.xs.length cap (ev.trans hv) 0 q (hl (s.ctx w S β τ) a hev) (hq (s.ctx w S β τ) a hev) h0 h1 h2 hcap
    have hTk := hk.head hwr etr q.toNat (by omega) (m := ie.size) hv
    have hM1 := hM.drop (tok' := jd (lookT s.T) [n]) (fun t ht => jQ ht) (fun t tk h => (jo h).2)
    have hTk' : TokOk R.fr w S ⟨tk.t, y, tk.e, true, tk.deep, none⟩ (.slice (jC ad cap (0 : Int).toNat ie.size) (q.toNat - (0 : Int).toNat) (cap - (0 : Int).toNat)) (F n) := by
     rw [hyy]; exact hTk
    exact wp_value hrun (hK _ _ (jak (s := s) [n] hM1 hn hdf hs (fun _ _ _ _ _ => ⟨fun _ _ h => h, fun _ _ _ => rfl⟩) d hd (hR0.tn hres) ⟨tk.t, y, tk.e, true, tk.deep, none⟩ _ (F n) hTk' rfl
     (fun t tk' b htl ht hb hF => htl (by simp [hM.tdis t n tk' tk b ht htk hF hb])) (fun k b hk hb => hM.tbox n tk k b htk hk hb) o.dst (fun hin => by simp only [List.mem_singleton] at hin; rw [hin, htk] at hd; cases hd) _ rfl))
   obtain ⟨rfl, _⟩ := h
   rintro R a w hR0 ⟨β, τ, F, S, hM, hn, hdf, hs⟩ K Q hK
   have hev := V3_ev hs
   have hxv := hev x; rw [hx] at hxv
   have ev := (v3_mtk hxv).2.2 tk htk
   obtain ⟨S', hM', hSS, hTk⟩ := hM.freezeTok n tk htk hwh
   have hrep : Rep w S' (τ n) (.sl (tk.xs.map (enc tk.t))) := hTk.rep rfl
   obtain ⟨ad, cap, b, q', m, hv, hcap, _⟩ := hrep.opened
   simp only [List.length_map] at hv hcap
   have hev' : a.eval x = .slice ad tk.xs.length cap := ev.trans hv
   have hrun := jdh (E := E) T x lo hi ho e' ie hu hie a w ad tk.xs.length cap hev' l q (hl (s.ctx w S β τ) a hev) (hq (s.ctx w S β τ) a hev) h0 h1 h2 hcap
   rw [hsz] at hrun
   refine wp_value hrun (hK _ _ (rel_put (e := ⟨.pv (.sl tk.t) y, [], [(n, some (.live tk.fz0))]⟩) hM' hn hdf ?_ o.dst (.inr ⟨_, rfl, ?_⟩)))
   ·exact jy (c := s.ctx w S β τ) (c' := ⟨w, S', fun k => lookB s.B k ≠ none, β, updT (lookT s.T) n (some (.live tk.fz0)), τ⟩) ⟨hSS, fun _ _ _ => rfl⟩ (BoxLe.refl rfl rfl) (jtk htk (fun _ => etr)) hs
   ·exact jeW (by rw [← hv]; exact hrep) l q hy
  ·split at h
   case h_2 => exact h.elim
   rename_i xs hxs
   obtain ⟨l, h, hl⟩ := jav h
   obtain ⟨q, h, hq⟩ := jav h
   obtain ⟨y, hy, h⟩ := h
   cases val_R h
   obtain ⟨h0, h1, h2, _⟩ := jcc hy
   refine sim_val fun c a w hw hev => ?_
   have hrep := as_sl hxs (hev x)
   obtain ⟨ad, cap, b, q', m, hv, hcap, _⟩ := hrep.opened
   rw [List.length_map] at hv hcap
   have hrun := jdh (E := E) T x lo hi ho e' ie hu hie a w ad xs.length cap hv l q (hl c a hev) (hq c a hev) h0 h1 h2 hcap
   rw [hsz] at hrun
   exact ⟨_, hrun, _, rfl, jeW (by rw [← hv]; exact hrep) l q hy⟩
theorem jqX {c : Ctx} {w' : World} {S' : Stab} {n : Nat} {tk tk' : Tok} (htk : c.tok n = some (.live tk)) (ht : tk'.t = tk.t) (hc : tk.wr = false → tk'.wr = false ∧ (⟨tk'.t, tk'.xs⟩ : (t : Tp) × List t.D) = ⟨tk.t, tk.xs⟩) : TokLe c ⟨w', S', c.live, c.β, updT c.tok n (some (.live tk')), c.τ⟩ := fun t ht1 => by
 by_cases e : t = n
 ·subst e
  refine ⟨by simp [updT], fun tk1 h => ?_⟩
  simp [updT] at h; subst h
  exact ⟨tk, htk, rfl, ht, hc⟩
 ·simp only [updT, e, if_false]
  exact ⟨ht1, fun tk' h => ⟨tk', h, trivial, rfl, fun h => ⟨h, rfl⟩⟩⟩
theorem mkRow_rep {c : Ctx} : ∀ (t : Tp) (cs : List AV) (y : t.D) (vs : List Value), mkRow t cs = some y → All2 (V1c c) cs vs → All2 (fun v p => Rep c.w c.S v p) vs (enc t y) := by
 have leaf : ∀ (t : Tp) (cs : List AV) (y : t.D) (vs : List Value), one t cs = some y → All2 (V1c c) cs vs → All2 (fun v p => Rep c.w c.S v p) vs (enc t y) := fun t cs y vs h hv => by
  match cs, vs, h, hv with
  | [a], [v], h, hv =>
   obtain ⟨p, e, hr⟩ := jF (c := c) (show a.as t = some y from h) (V3_of_V1 hv.1.1)
   rw [e]; exact ⟨hr, True.intro⟩
 intro t
 induction t with
 | bool => exact leaf .bool
 | int k => exact leaf (.int k)
 | str => exact leaf .str
 | sl r _ => exact leaf (.sl r)
 | opt r _ => exact leaf (.opt r)
 | unit =>
  intro cs y vs h hv
  match cs, vs, h, hv with
  | [], [], _, _ => exact True.intro
 | pair a b iha ihb =>
  intro cs y vs h hv
  simp only [mkRow] at h
  split at h
  ·rename_i x1 x2 h1 h2
   cases h
   have e1 := iha _ _ _ h1 (hv.take a.w)
   have e2 := ihb _ _ _ h2 (hv.drop a.w)
   have := e1.append e2
   rwa [List.take_append_drop] at this
  ·cases h
 | q =>
  intro cs y vs h hv
  simp only [mkRow] at h
  match cs, vs, h, hv with
  | [k, f, ws, a, b, kids], [v1, v2, v3, v4, v5, v6], h, hv =>
   simp only [mkQ] at h
   split at h
   ·rename_i k' f' ws' a' b' kids' g1 g2 g3 g4 g5 g6
    cases h
    obtain ⟨i1, i2, i3, i4, i5, i6, _⟩ := hv
    obtain ⟨p1, e1, r1⟩ := jF (c := c) g1 (V3_of_V1 i1.1)
    obtain ⟨p2, e2, r2⟩ := jF (c := c) g2 (V3_of_V1 i2.1)
    obtain ⟨p3, e3, r3⟩ := jF (c := c) g3 (V3_of_V1 i3.1)
    obtain ⟨p4, e4, r4⟩ := jF (c := c) g4 (V3_of_V1 i4.1)
    obtain ⟨p5, e5, r5⟩ := jF (c := c) g5 (V3_of_V1 i5.1)
    obtain ⟨p6, e6, r6⟩ := jF (c := c) g6 (V3_of_V1 i6.1)
    simp only [enc, List.cons.injEq, and_true] at e1 e2 e3 e4 e5 e6
    refine ⟨e1 ▸ r1, e2 ▸ r2, ?_, e4 ▸ r4, e5 ▸ r5, ?_, True.intro⟩
    ·rw [← e3] at r3; exact r3
    ·rw [encQs_eq]; rw [← e6] at r6; exact r6
   ·cases h
theorem jtR (hE : EnvOk E) (T : TypeId) (x y : Operand) (ho : o.op = .store T x y) (ty : Ty) (hty : E.ty T = some ty) (n i q : Nat) (hx : s.ev x = .mptr n i q) (ys : List AV) (hy : (s.ev y).cells? = some ys) (hn : ys.length = ty.size) (tk : Tok) (htk : lookT s.T n = some (.live tk)) (hwr : tk.wr = true) (etr : tk.tr = none) (hfl' : tk.t.flatB = true ∨ tk.deep = false) (hqw : q + ty.size ≤ tk.t.w)
  (old : tk.t.D) (hold : tk.xs[i]? = some old) (y' : tk.t.D) (hrow : mkRow tk.t ((cellsOf tk.t old).take q ++ ys ++ (cellsOf tk.t old).drop (q + ty.size)) = some y') (hdst : o.dst = none) :
  Sim E o s ⟨.tup [], [], [(n, some (.live { tk with xs := tk.xs.set i y' }))]⟩ := by
 rintro R a w hR0 ⟨β, τ, F, S, hM, hsz, hdf, hs⟩ K Q hK
 have hev := V3_ev hs
 have h := hev x
 rw [hx] at h
 obtain ⟨b', l, cap', ev, hil, hp⟩ := (v3_mptr h).2.2 tk htk
 rw [show (s.ctx w S β τ).τ n = τ n from rfl] at ev
 have hc := cells_of hy (hev y)
 obtain ⟨hF, hk, hdp⟩ := hM.toks n tk htk
 rcases hk with ⟨e1, e2⟩ | ⟨b2, cap2, vs, T', e1, hFb, hg, hz, hnc, hm, hst, hw, hcon⟩
 ·rw [e2] at hold; simp at hold
 rw [e1] at ev; cases ev
 obtain ⟨ti, z, hi, hisz, _⟩ := (hE.ty T ty hty).info
 have hl := hc.len
 have hixs : i < tk.xs.length := (List.getElem?_eq_some_iff.1 hold).1
 obtain ⟨rv, hrv1, hrv2⟩ := row_vals (c := s.ctx w S β τ) (b := b') (q := i * tk.t.w) old (fun j p hp => by
  obtain ⟨u, k1, k2, _⟩ := hcon i j old p hold hp
  exact ⟨u, by show w.cell? _ = _; rw [cell_of_row w b' _ vs T' (0, 0) hg]; exact k1, k2 etr⟩)
 have hrvl := hrv1.len
 rw [cells_len] at hrvl
 have hlen := (mkRow_rep (c := s.ctx w S β τ) tk.t _ y' _ hrow (((hrv1.take q).append hc).append (hrv1.drop (q + ty.size))))
 have hlen2 := hlen.len
 rw [enc_len] at hlen2
 have hcl : (a.eval y).cells.toList.length = ty.size := by rw [← hl, hn]
 simp only [List.length_append, List.length_take, List.length_drop, hcl] at hlen2
 have hbase : i * tk.t.w + tk.t.w ≤ tk.xs.length * tk.t.w := by
  have : (i + 1) * tk.t.w ≤ tk.xs.length * tk.t.w := Nat.mul_le_mul_right _ hixs
  rwa [Nat.add_mul, Nat.one_mul] at this
 have hxsz : tk.xs.length * tk.t.w ≤ vs.size := by rw [hz]; exact Nat.mul_le_mul_right _ hnc
 have hone : ∀ v ∈ (a.eval y).cells.toList, v.oneCell' = true := fun v hv => by
  obtain ⟨j, hj, rfl⟩ := List.mem_iff_getElem.1 hv
  exact (hc.get' j (ys[j]'(by omega)) _ (by simp) (by simp)).2
 have hst' := run_storeCells_at E.P b' (i * tk.t.w + q) T' (a.eval y).cells.toList 0 vs w hg (by omega) hone
 obtain ⟨vs', hvs'⟩ : ∃ vs' : Array Value, vs' = (vs.toList.take (i * tk.t.w + q) ++ (a.eval y).cells.toList ++ vs.toList.drop (i * tk.t.w + q + (a.eval y).cells.toList.length)).toArray := ⟨_, rfl⟩
 have hr : (execOp a.eval o).run E.P w = .ok .skip (w.setRow b' vs') := by
  have hz' : (a.eval y).cells.size = ti.size := by rw [hisz, ← hn, hl]; simp
  simp only [Nat.add_zero] at hst'
  simp only [execOp, ho, Instr.storeAt, hp, Instr.sureAddr, storeVar, sizeOf, typeInfo, hi, Sem.run_bind, Sem.run_pure, Result.andThen_ok, run_program]
  simp [hi, hz', hst', hvs']
 have hvsl : vs'.toList = vs.toList.take (i * tk.t.w + q) ++ (a.eval y).cells.toList ++ vs.toList.drop (i * tk.t.w + q + (a.eval y).cells.toList.length) := by rw [hvs']
 have hget : ∀ k, vs'[k]? = if i * tk.t.w + q ≤ k ∧ k < i * tk.t.w + q + ty.size then (a.eval y).cells.toList[k - (i * tk.t.w + q)]? else vs[k]? := fun k => by
  rw [← Array.getElem?_toList, hvsl, jaV _ _ _ (by rw [hcl, Array.length_toList]; omega), hcl]
  simp
 have hsize : vs'.size = vs.size := by
  rw [← Array.length_toList, hvsl]
  simp only [List.length_append, List.length_take, List.length_drop, hcl, Array.length_toList]
  omega
 have hother : ∀ k, k ≠ b' → (w.setRow b' vs').heap[k]? = w.heap[k]? := fun k hk => setRow_other w b' k _ hk
 have hhs : (w.setRow b' vs').heap.size = w.heap.size := by simp [World.setRow]
 have hcell : ∀ b o, S b o → (w.setRow b' vs').cell? ⟨b, o, none⟩ = w.cell? ⟨b, o, none⟩ := fun b o hb => World.cell?_of_block (w := w) (hother b (fun e => hw hwr o (e ▸ hb)))
 have hstep : Step (fun k => k = b') S S w (w.setRow b' vs') := ⟨⟨rfl, rfl, rfl, by rw [hhs]; exact Nat.le_refl _, fun k _ hk => hother k hk⟩, hcell, fun _ _ h => h, fun _ _ h => .inl h, fun b o h => by rw [hhs]; exact hM.lt b o h⟩
 have hheap : (w.setRow b' vs').heap[b']? = some (.cells vs' T' (0, 0)) := setRow_heap w b' vs _ T' (0, 0) hg
 have hcon' : ∀ (i2 j : Nat) (x : tk.t.D) (p : PV), (tk.xs.set i y')[i2]? = some x → (enc tk.t x)[j]? = some p → ∃ u, vs'[i2 * tk.t.w + j]? = some u ∧ Rep (w.setRow b' vs') S u p := fun i2 j x p hx hp => by
  have hj : j < tk.t.w := by have := (List.getElem?_eq_some_iff.1 hp).1; rwa [enc_len] at this
  by_cases e : i2 = i
  ·subst e
   rw [List.getElem?_set_self hixs] at hx
   cases hx
   have hjl : j < ((rv.take q) ++ (a.eval y).cells.toList ++ rv.drop (q + ty.size)).length := by rw [hlen.len]; exact (List.getElem?_eq_some_iff.1 hp).1
   have hrep := hlen.get' j _ p (List.getElem?_eq_getElem hjl) hp
   have hsp := jaV rv (a.eval y).cells.toList q (by rw [← hrvl, hcl]; exact hqw) j
   rw [hcl] at hsp
   refine ⟨_, ?_, hrep.mono (fun _ _ h => h) hcell⟩
   rw [hget, ← List.getElem?_eq_getElem hjl, hsp]
   by_cases hjq : q ≤ j ∧ j < q + ty.size
   ·rw [if_pos ⟨by omega, by omega⟩, if_pos hjq]
    congr 1; omega
   ·rw [if_neg (by omega), if_neg hjq]
    have hjr : j < rv.length := by rw [← hrvl]; exact hj
    have h5 := hrv2 j rv[j] (List.getElem?_eq_getElem hjr)
    rw [show (s.ctx w S β τ).w = w from rfl, cell_of_row w b' _ vs T' (0, 0) hg] at h5
    rw [h5, List.getElem?_eq_getElem hjr]
  ·rw [List.getElem?_set_ne (Ne.symm e)] at hx
   obtain ⟨u, k1, k2, _⟩ := hcon i2 j x p hx hp
   refine ⟨u, ?_, (k2 etr).mono (fun _ _ h => h) hcell⟩
   rw [hget, if_neg ?_]
   ·exact k1
   ·rintro ⟨g1, g2⟩
    rcases Nat.lt_or_gt_of_ne e with hlt | hlt
    ·have : (i2 + 1) * tk.t.w ≤ i * tk.t.w := Nat.mul_le_mul_right _ hlt
     rw [Nat.add_mul] at this; omega
    ·have : (i + 1) * tk.t.w ≤ i2 * tk.t.w := Nat.mul_le_mul_right _ hlt
     rw [Nat.add_mul] at this; omega
 have hM' := hM.setTok n tk { tk with xs := tk.xs.set i y' } htk (fun k => k = b') hstep (fun k hk => hk ▸ hFb) ⟨fun b hb => by rw [hhs]; exact hF b hb, .inr ⟨b', cap', vs', T', ?_, hFb, hheap, by rw [hsize]; exact hz, by simpa using hnc, hm, (fun h => by simp only at h; rw [hwr] at h; cases h), fun h => hw h, fun i2 j x p hx hp => ?_⟩, ?_⟩ rfl (fun h => by rw [hwr] at h; cases h) etr
 ·refine wp_skip' hr (hK _ _ (rel_put (e := ⟨.tup [], [], [(n, some (.live { tk with xs := tk.xs.set i y' }))]⟩) hM' hsz hdf ?_ o.dst (.inl hdst)))
  exact jy (c := s.ctx w S β τ) (c' := ⟨w.setRow b' vs', S, fun k => lookB s.B k ≠ none, β, updT (lookT s.T) n (some (.live { tk with xs := tk.xs.set i y' })), τ⟩) ⟨fun _ _ h => h, hcell⟩ (BoxLe.refl rfl rfl) (jqX htk rfl (fun h => by rw [hwr] at h; cases h)) hs
 ·rw [e1]; simp
 ·obtain ⟨u, k1, k2⟩ := hcon' i2 j x p hx hp
  exact ⟨u, k1, fun _ => k2, fun h => by simp only at h; rw [hwr] at h; cases h⟩
 ·
  unfold Once
  simp only [etr]
  intro hdt
  have hfl : tk.t.flatB = true := hfl'.resolve_right (fun h => by rw [h] at hdt; cases hdt)
  rw [e1, show tk.xs.length = (tk.xs.set i y').length from by simp]
  have hu : ∀ (i2 j : Nat) (x : tk.t.D) (c : AV), (tk.xs.set i y')[i2]? = some x → (cellsOf tk.t x)[j]? = some c → ∃ u, vs'[i2 * tk.t.w + j]? = some u ∧ ∀ p, (enc tk.t x)[j]? = some p → Rep (w.setRow b' vs') S u p := fun i2 j x c hx hcc => by
   obtain ⟨p, hp⟩ : ∃ p, (enc tk.t x)[j]? = some p := ⟨_, List.getElem?_eq_getElem (by rw [enc_len]; exact cells_lt hcc)⟩
   obtain ⟨u, k1, k2⟩ := hcon' i2 j x p hx hp
   exact ⟨u, k1, fun p' hp' => by rw [hp] at hp'; cases hp'; exact k2⟩
  refine .sl _ cap' tk.t (tk.xs.set i y') (fun i2 j => (vs'[i2 * tk.t.w + j]?).getD undef) b' (fun _ _ _ => False) vs' T' hFb hheap (by rw [hsize]; exact hz) (by simpa using hnc) hm (fun i2 j x c hx hcc => ?_) (fun _ _ _ h => h.elim) (fun _ _ _ _ _ h => h.elim) (fun i2 j x c hx hcc => ?_)
  ·obtain ⟨u, k1, _⟩ := hu i2 j x c hx hcc
   rw [k1]; rfl
  ·obtain ⟨u, k1, k2⟩ := hu i2 j x c hx hcc
   simp only [k1, Option.getD_some]
   exact .leaf hfl hcc k2
theorem jl6 (hE : EnvOk E) (T : TypeId) (x y : Operand) (ho : o.op = .store T x y) (htree : ∀ ty n i q tk hs ys, E.ty T = some ty → s.ev x = .mptr n i q → lookT s.T n = some (.live tk) → tk.tr = some hs → (s.ev y).cells? = some ys → ys.length = ty.size → o.dst = none → (storeTree n i q ty.size ys tk hs).R s [] [n] e fp → Sim E o s e) (h : (opRD E o.op o.dst s.ev).R s [] [] e fp) : Sim E o s e := by
 rw [ho] at h
 simp only [opRD] at h
 split at h
 case h_2 => exact h.elim
 rename_i ty ys hty hy hdst
 split at h
 case isFalse => exact h.elim
 rename_i hn
 split at h
 ·rename_i k q hx
  split at h
  case isTrue => exact h.elim
  rename_i hmk
  simp only [RD.R] at h
  split at h
  case h_2 => exact h.elim
  rename_i cs hk
  split at h
  case isFalse => exact h.elim
  rename_i hq
  obtain ⟨rfl, _⟩ := h
  exact jsJ hE T x y ho ty hty k q (by simpa using hmk) hx cs ys hk hy hn hq hdst
 ·rename_i n i q hx
  simp only [RD.R] at h
  split at h
  case h_2 => exact h.elim
  rename_i tk htk
  split at h
  case h_2 => exact htree ty n i q tk _ ys hty hx htk ‹_› hy hn hdst h
  rename_i etr
  split at h
  case isFalse => exact h.elim
  rename_i hw
  obtain ⟨old, hold, h⟩ := h
  simp only at h
  split at h
  case h_2 => exact h.elim
  rename_i y' hrow
  obtain ⟨rfl, _⟩ := h
  exact jtR hE T x y ho ty hty n i q hx ys hy hn tk htk hw.1 etr hw.2.1 hw.2.2 old hold y' hrow hdst
 ·exact h.elim
end
end Go.Proofs.YtcjbjmbialienaaGreatDoor
