/- The engine, fourteenth part: values told by a shape. -/
import Derived.Test.YtcjbjmbialienaaGreatDoorK13
set_option linter.unusedSimpArgs false
set_option linter.unusedVariables false
namespace Go.Proofs.YtcjbjmbialienaaGreatDoor
open Go.RowKit
section
variable (B : List (Nat × BS)) (T : List (Nat × Option TS))
mutual
theorem joV : ∀ (v : VS) (x : AV) (a a' : Acc), conv B T v x a = some a' → Ext a a' ∧ (AccInv a → AccInv a')
 | .dead, x, a, a', h => by cases h; exact ⟨Ext.refl _, id⟩
 | .pv t, x, a, a', h => by
  simp only [conv] at h
  split at h
  ·split at h
   ·split at h
    ·cases h; exact ⟨⟨True.intro, ⟨[], by simp⟩, fun _ _ h => h, fun _ h => h, fun _ h => List.mem_append_left _ h, fun _ h => h, fun _ h => h⟩, fun hi => ⟨hi.rt, hi.rb⟩⟩
    ·cases h
   ·cases h
  ·split at h
   ·cases h; exact ⟨⟨True.intro, ⟨[], by simp⟩, fun _ _ h => h, fun _ h => h, fun _ h => h, fun _ h => h, fun _ h => h⟩, fun hi => ⟨hi.rt, hi.rb⟩⟩
   ·cases h
 | .nils, x, a, a', h => by
  simp only [conv] at h
  split at h
  ·cases h; exact ⟨Ext.refl _, id⟩
  ·cases h
 | .nilp, x, a, a', h => by
  simp only [conv] at h
  split at h
  ·cases h; exact ⟨Ext.refl _, id⟩
  ·cases h
 | .box k o, x, a, a', h => by
  simp only [conv] at h
  split at h
  ·split at h
   ·obtain ⟨h1, _, _, h4, _, _, _, _, h9, _⟩ := bindBox_spec h
    exact ⟨h1, fun hi => ⟨by rw [h4]; exact hi.rt, h9 hi.rb⟩⟩
   ·cases h
  ·cases h
 | .ptr t, x, a, a', h => by
  simp only [conv] at h
  split at h
  ·split at h
   ·cases h; exact ⟨⟨True.intro, ⟨[], by simp⟩, fun _ _ h => h, fun _ h => h, fun _ h => h, fun _ h => h, fun _ h => h⟩, fun hi => ⟨hi.rt, hi.rb⟩⟩
   ·cases h
  ·split at h
   ·split at h
    ·cases h; exact ⟨⟨True.intro, ⟨[], by simp⟩, fun _ _ h => h, fun _ h => List.mem_append_left _ h, fun _ h => h, fun _ h => h, fun _ h => h⟩, fun hi => ⟨hi.rt, hi.rb⟩⟩
    ·cases h
   ·cases h
  ·cases h
 | .own n t e deep, x, a, a', h => by
  simp only [conv] at h
  have fin : ∀ {n' p a1}, bindTok a n n' p = some a1 → Ext a a1 ∧ (AccInv a → AccInv a1) := fun {n' p a1} h => by
   obtain ⟨h1, _, h3, h4, _, _, _, _, h9, h10⟩ := bindTok_spec h
   exact ⟨h1, fun hi => ⟨by rw [h3]; exact hi.rt.snoc h9 h10, by rw [h4]; exact hi.rb⟩⟩
  split at h
  ·split at h
   ·split at h
    ·exact fin h
    ·cases h
   ·cases h
  ·split at h
   ·split at h
    ·obtain ⟨a1, h1, rfl⟩ := Option.map_eq_some_iff.1 h
     obtain ⟨h2, h3⟩ := fin h1
     exact ⟨h2.trans ⟨True.intro, ⟨[], by simp⟩, fun _ _ h => h, fun _ h => h, fun _ h => List.mem_append_left _ h, fun _ h => h, fun _ h => h⟩, fun hi => ⟨(h3 hi).rt, (h3 hi).rb⟩⟩
    ·cases h
   ·cases h
  ·exact fin h
  ·cases h
 | .mtk n t e deep, x, a, a', h => by
  simp only [conv] at h
  have fin : ∀ {n' p a1}, bindTok a n n' p = some a1 → Ext a a1 ∧ (AccInv a → AccInv a1) := fun {n' p a1} h => by
   obtain ⟨h1, _, h3, h4, _, _, _, _, h9, h10⟩ := bindTok_spec h
   exact ⟨h1, fun hi => ⟨by rw [h3]; exact hi.rt.snoc h9 h10, by rw [h4]; exact hi.rb⟩⟩
  split at h
  ·split at h
   ·split at h
    ·obtain ⟨a1, h1, rfl⟩ := Option.map_eq_some_iff.1 h
     obtain ⟨h2, h3⟩ := fin h1
     exact ⟨h2.trans ⟨True.intro, ⟨[], by simp⟩, fun _ _ h => h, fun _ h => h, fun _ h => h, fun _ h => List.mem_append_left _ h, fun _ h => h⟩, fun hi => ⟨(h3 hi).rt, (h3 hi).rb⟩⟩
    ·cases h
   ·cases h
  ·exact fin h
  ·cases h
 | .tre n t e, x, a, a', h => by
  simp only [conv] at h
  have fin : ∀ {n' p a1}, bindTok a n n' p = some a1 → Ext a a1 ∧ (AccInv a → AccInv a1) := fun {n' p a1} h => by
   obtain ⟨h1, _, h3, h4, _, _, _, _, h9, h10⟩ := bindTok_spec h
   exact ⟨h1, fun hi => ⟨by rw [h3]; exact hi.rt.snoc h9 h10, by rw [h4]; exact hi.rb⟩⟩
  split at h
  ·split at h
   ·split at h
    ·obtain ⟨a1, h1, rfl⟩ := Option.map_eq_some_iff.1 h
     obtain ⟨h2, h3⟩ := fin h1
     exact ⟨h2.trans ⟨True.intro, ⟨[], by simp⟩, fun _ _ h => h, fun _ h => h, fun _ h => h, fun _ h => List.mem_append_left _ h, fun _ h => h⟩, fun hi => ⟨(h3 hi).rt, (h3 hi).rb⟩⟩
    ·cases h
   ·cases h
  ·exact fin h
  ·cases h
 | .agg l, x, a, a', h => by
  simp only [conv] at h
  split at h
  ·exact convL_ext l _ _ _ h
  ·cases h
 | .tup l, x, a, a', h => by
  simp only [conv] at h
  split at h
  ·exact convL_ext l _ _ _ h
  ·cases h
 | .clo f l, x, a, a', h => by
  simp only [conv] at h
  split at h
  ·split at h
   ·split at h
    ·rename_i a1 h1
     split at h
     ·cases h
      obtain ⟨e1, e2⟩ := convL_ext l _ _ _ h1
      exact ⟨⟨True.intro, e1.rt, e1.rb, e1.fb, e1.ft, e1.mt, e1.ub⟩, fun hi => ⟨(e2 ⟨hi.rt, hi.rb⟩).rt, (e2 ⟨hi.rt, hi.rb⟩).rb⟩⟩
     ·cases h
    ·cases h
   ·cases h
  ·cases h
theorem convL_ext : ∀ (l : List VS) (xs : List AV) (a a' : Acc), convL B T l xs a = some a' → Ext a a' ∧ (AccInv a → AccInv a')
 | [], [], a, a', h => by simp only [convL] at h; cases h; exact ⟨Ext.refl _, id⟩
 | v :: l, x :: xs, a, a', h => by
  simp only [convL] at h
  obtain ⟨a1, h1, h2⟩ := Option.bind_eq_some_iff.1 h
  obtain ⟨e1, i1⟩ := joV v x a a1 h1
  obtain ⟨e2, i2⟩ := convL_ext l xs a1 a' h2
  exact ⟨e1.trans e2, fun hi => i2 (i1 hi)⟩
 | [], _ :: _, a, a', h => by simp only [convL] at h; cases h
 | _ :: _, [], a, a', h => by simp only [convL] at h; cases h
end
variable {B T} {fin : Acc} {Fr : Nat → Prop} {c c' : Ctx} {F : Nat → Nat → Prop}
theorem TokOk.tree {Fr : Nat → Prop} {w : World} {S : Stab} {tk : Tok} {v : Value} {F : Nat → Prop} (h : TokOk Fr w S tk v F) {hs : List (Nat × Nat × Nat)} (ht : tk.tr = some hs) : tk.wr = true ∧ tk.deep = true := by
 have := h.2.2
 unfold Once at this
 rw [ht] at this
 exact ⟨this.1, this.2.1⟩
theorem jab (hK : Known B T fin Fr c c' F) {a a1 a' : Acc} {n : Nat} {n' : Option Nat} {t : Tp} {xs : List t.D} {x : AV} {val : Value} {e : TypeId} {deep wr : Bool} {tr : Option (List (Nat × Nat × Nat))} {v : VS} (hx : x.base = true) (h : bindTok a n n' ⟨.sl t, xs⟩ = some a1) (hps : a'.ps = a1.ps) (hrt : a'.rt = a1.rt) (hfin : ∀ y, y ∈ a'.rt → y ∈ fin.rt)
  (hv : inst v = fun ps => match ps with | ⟨.sl r, xs⟩ :: ps => (if wr then .mtk n else .own n r xs, ps, [(n, some (.live ⟨r, xs, e, wr, deep, tr⟩))]) | _ => (.dead, [], []))
  (hm : match n' with
   | some m => ∃ tk0, c.tok m = some (.live tk0) ∧ (⟨t, xs⟩ : (t : Tp) × List t.D) = ⟨tk0.t, tk0.xs⟩ ∧ e = tk0.e ∧ wr = tk0.wr ∧ (deep = true → tk0.deep = true) ∧ val = c.τ m ∧ tr = tk0.tr ∧ (tr ≠ none → deep = true)
   | none => xs = [] ∧ val = .slice none 0 0 ∧ (tr = none ∨ (tr = some [] ∧ wr = true ∧ deep = true))) : ConvOk c c' v x a a' val := by
 obtain ⟨h1, h2, h3, _⟩ := bindTok_spec h
 refine ⟨[⟨.sl t, xs⟩], [(n, n')], if wr then .mtk n else .own n t xs, [(n, some (.live ⟨t, xs, e, wr, deep, tr⟩))], by rw [hps, h2], by rw [hrt, h3], fun rest => by rw [hv]; rfl, ⟨⟨rfl, _, rfl, ?_⟩, True.intro⟩, fun hts => VImp.of_base hx fun _ => ?_⟩
 ·cases n' with
  | none => exact ⟨hm.1, hm.2.2⟩
  | some m => obtain ⟨tk0, g1, g2, g3, g4, g5, _, g7, g8⟩ := hm; exact ⟨tk0, g1, g2, g3, g4, g5, g7, g8⟩
 ·have hts := hts n _ List.mem_cons_self
  have hτ := hK.τ n n' (hfin _ (by rw [hrt, h3]; simp))
  have hval : val = c'.τ n := by
   rw [hτ]
   cases n' with
   | none => exact hm.2.1
   | some m => obtain ⟨_, _, _, _, _, _, g, _⟩ := hm; exact g
  cases wr with
  | true =>
   refine ⟨?_, by rw [hts]; simp, fun tk _ => hval⟩
   cases n' with
   | none => rw [hm.2.1]; rfl
   | some m => obtain ⟨tk0, g1, _, _, _, _, g6, _⟩ := hm; rw [g6]; exact (hK.toks m tk0 g1).cell
  | false =>
   refine ⟨?_, by rw [hts]; simp, fun tk htk => ?_⟩
   ·rw [hK.w, hK.S]
    cases n' with
    | none => obtain ⟨rfl, rfl, _⟩ := hm; exact rep_nils
    | some m =>
     obtain ⟨tk0, g1, g2, _, g4, _, g6, _⟩ := hm
     rw [g6]
     have hrep := (hK.toks m tk0 g1).rep g4.symm
     have : ∀ p q : (t : Tp) × List t.D, p = q → Rep c.w c.S (c.τ m) (.sl (q.2.map (enc q.1))) → Rep c.w c.S (c.τ m) (.sl (p.2.map (enc p.1))) := fun p q h => by subst h; exact id
     exact this _ _ g2 hrep
   ·rw [hts] at htk
    cases htk
    exact ⟨rfl, hval, rfl⟩
mutual
theorem jow (hK : Known B T fin Fr c c' F) : ∀ (v : VS) (x : AV) (a a' : Acc) (val : Value), conv B T v x a = some a' → Ext a' fin → V3 c x val → ConvOk c c' v x a a' val
 | .dead, x, a, a', val, h, hf, hv => by cases h; exact ⟨[], [], .dead, [], by simp, by simp, fun rest => rfl, True.intro, fun _ => VImp.dead⟩
 | .pv t, x, a, a', val, h, hf, hv => by
  simp only [conv] at h
  split at h
  ·rename_i n
   split at h
   ·rename_i tk htk
    split at h
    ·rename_i et
     obtain ⟨et, ewh⟩ := et
     cases h
     subst et
     refine ⟨[⟨.sl tk.t, tk.xs⟩], [], .pv (.sl tk.t) tk.xs, [], rfl, by simp, fun rest => rfl, True.intro, fun _ => VImp.of_base rfl fun _ => ?_⟩
     have hin : n ∈ fin.ft := hf.ft n (by simp)
     have h1 := hK.tok n tk htk
     rw [if_pos hin] at h1
     rw [Tok.fz_eq ewh] at h1
     have h2 := hK.toks n _ h1
     have h3 := (v3_mtk hv).2.2 _ h1
     refine ⟨_, rfl, ?_⟩
     rw [hK.w, hK.S, h3]
     exact h2.rep rfl
    ·cases h
   ·cases h
  ·split at h
   ·rename_i hne y hy
    cases h
    refine ⟨[⟨t, y⟩], [], .pv t y, [], rfl, by simp, fun rest => rfl, True.intro, fun _ => VImp.of_base ?_ fun hv => ?_⟩
    ·cases x <;> first | rfl | cases hy
    ·obtain ⟨p, h1, h2⟩ := jF hy hv
     exact ⟨p, h1, by rw [hK.w, hK.S]; exact h2⟩
   ·cases h
 | .nils, x, a, a', val, h, hf, hv => by
  simp only [conv] at h
  split at h
  ·cases h; exact ⟨[], [], .nils, [], by simp, by simp, fun rest => rfl, True.intro, fun _ => VImp.of_base rfl fun h => h⟩
  ·cases h
 | .nilp, x, a, a', val, h, hf, hv => by
  simp only [conv] at h
  split at h
  ·cases h; exact ⟨[], [], .nilp, [], by simp, by simp, fun rest => rfl, True.intro, fun _ => VImp.of_base rfl fun h => h⟩
  ·cases h
 | .box k o, x, a, a', val, h, hf, hv => by
  simp only [conv] at h
  split at h
  ·rename_i k' o'
   split at h
   ·rename_i eo
    subst eo
    obtain ⟨h1, h2, h3, h4, _⟩ := bindBox_spec h
    refine ⟨[], [], .box k o', [], by simp [h3], by simp [h4], fun rest => rfl, True.intro, fun _ => VImp.of_base rfl fun hv => ?_⟩
    obtain ⟨g1, g2⟩ := v3_boxR hv
    obtain ⟨k1, k2⟩ := hK.live k k' (hf.rb _ _ h2)
    have k3 := hK.nm k k' (hf.rb _ _ h2)
    exact ⟨k1, by rw [k2]; unfold refV at g2 ⊢; rw [k3]; exact g2⟩
   ·cases h
  ·cases h
 | .ptr t, x, a, a', val, h, hf, hv => by
  simp only [conv] at h
  split at h
  ·rename_i t' y o
   split at h
   ·rename_i z hz
    cases h
    refine ⟨[⟨t, z⟩], [], .ptr t z 0, [], rfl, by simp, fun rest => rfl, True.intro, fun _ => VImp.of_base rfl fun hv => ?_⟩
    obtain ⟨b, s', e', hc⟩ := v3_ptr hv
    refine ⟨b, s' + o, by simpa using e', fun j p hp => ?_⟩
    rw [hK.w, hK.S]
    obtain ⟨vs, h1, h2⟩ := row_vals (c := c) y (b := b) (q := s') (fun j p hp => (hc j p hp).2)
    have h3 := mkRow_rep t _ z _ hz ((h1.drop o).take t.w)
    have hj : j < t.w := by have := (List.getElem?_eq_some_iff.1 hp).1; rwa [enc_len] at this
    have hl := h3.len
    rw [enc_len] at hl
    obtain ⟨u, hu⟩ : ∃ u, ((vs.drop o).take t.w)[j]? = some u := ⟨_, List.getElem?_eq_getElem (by rw [hl]; exact hj)⟩
    have hr := h3.get' j u p hu hp
    rw [List.getElem?_take, if_pos hj, List.getElem?_drop] at hu
    have hlt : o + j < (enc t' y).length := by
     rw [enc_len, ← cells_len t' y, h1.len]; exact (List.getElem?_eq_some_iff.1 hu).1
    have hst := (hc (o + j) (enc t' y)[o + j] (List.getElem?_eq_getElem hlt)).1
    exact ⟨by rw [Nat.add_assoc]; exact hst, u, by rw [Nat.add_assoc]; exact h2 _ _ hu, hr⟩
   ·cases h
  ·rename_i k o
   split at h
   ·rename_i b hb
    split at h
    ·rename_i z hz
     cases h
     refine ⟨[⟨t, z⟩], [], .ptr t z 0, [], rfl, by simp, fun rest => rfl, True.intro, fun _ => VImp.of_base rfl fun hv => ?_⟩
     obtain ⟨g1, g2⟩ := v3_box (hK.fbm k (hf.fb k (by simp))) hv
     have h1 := hK.box k b o t z hb (hf.fb k (by simp)) hz g1
     exact ⟨c.β k, o, by simpa using g2, by rw [hK.w, hK.S]; exact h1⟩
    ·cases h
   ·cases h
  ·cases h
 | .own n t e deep, x, a, a', val, h, hf, hv => by
  simp only [conv] at h
  split at h
  ·rename_i n' t' xs
   split at h
   ·rename_i tk htk
    split at h
    ·rename_i hh
     obtain ⟨rfl, h2, h3⟩ := hh
     have h1 := hK.tok n' tk htk
     obtain ⟨_, _, g⟩ := v3_own hv
     have hpl := (hK.toks _ _ h1)
     obtain ⟨g1, g2, g3⟩ := g _ h1
     have hpl := hpl.plain g1
     have e1 : (if n' ∈ fin.ft then tk.fz else tk).e = tk.e := by split <;> simp [Tok.fz_e]
     have e2 : deep = true → (if n' ∈ fin.ft then tk.fz else tk).deep = true := fun hd => by have := h3 hd; split <;> simp [Tok.fz_deep, this]
     refine jab hK (wr := false) (e := e) (deep := deep) (tr := none) rfl h rfl rfl (fun y hy => ?_) (by funext ps; cases ps <;> rfl) ⟨_, h1, g3.symm, h2.symm.trans e1.symm, g1.symm, e2, g2, hpl.symm, fun h => absurd rfl h⟩
     obtain ⟨l, hl⟩ := hf.rt; rw [hl]; exact List.mem_append_left _ hy
    ·cases h
   ·cases h
  ·rename_i n'
   split at h
   ·rename_i tk htk
    split at h
    ·rename_i hh
     obtain ⟨h1, h2, h3, h4⟩ := hh
     obtain ⟨a1, hb, rfl⟩ := Option.map_eq_some_iff.1 h
     have hin : n' ∈ fin.ft := hf.ft n' (by simp)
     have g1 := hK.tok n' tk htk
     rw [if_pos hin, Tok.fz_eq h4] at g1
     have g2 := (v3_mtk hv).2.2 _ g1
     refine jab hK (wr := false) (e := e) (deep := deep) (tr := none) rfl hb rfl rfl (fun y hy => ?_) (by funext ps; cases ps <;> rfl) ⟨_, g1, rfl, h2.symm, rfl, h3, g2, rfl, fun h => absurd rfl h⟩
     obtain ⟨l, hl⟩ := hf.rt; rw [hl]; exact List.mem_append_left _ hy
    ·cases h
   ·cases h
  ·refine jab hK (wr := false) (e := e) (deep := deep) (tr := none) rfl h rfl rfl (fun y hy => ?_) (by funext ps; cases ps <;> rfl) ⟨rfl, hv, .inl rfl⟩
   obtain ⟨l, hl⟩ := hf.rt; rw [hl]; exact List.mem_append_left _ hy
  ·cases h
 | .mtk n t e deep, x, a, a', val, h, hf, hv => by
  simp only [conv] at h
  split at h
  ·rename_i n'
   split at h
   ·rename_i tk htk
    split at h
    ·rename_i hh
     obtain ⟨h1, h2, h3, h4, h5⟩ := hh
     obtain ⟨a1, hb, rfl⟩ := Option.map_eq_some_iff.1 h
     have hnin : n' ∉ fin.ft := hK.mt n' (hf.mt n' (by simp))
     have g1 := hK.tok n' tk htk
     rw [if_neg hnin] at g1
     have g2 := (v3_mtk hv).2.2 _ g1
     refine jab hK (wr := true) (e := e) (deep := deep) (tr := none) rfl hb rfl rfl (fun y hy => ?_) (by funext ps; cases ps <;> rfl) ⟨_, g1, rfl, h2.symm, h3.symm, h4, g2, h5.symm, fun h => absurd rfl h⟩
     obtain ⟨l, hl⟩ := hf.rt; rw [hl]; exact List.mem_append_left _ hy
    ·cases h
   ·cases h
  ·refine jab hK (wr := true) (e := e) (deep := deep) (tr := none) rfl h rfl rfl (fun y hy => ?_) (by funext ps; cases ps <;> rfl) ⟨rfl, hv, .inl rfl⟩
   obtain ⟨l, hl⟩ := hf.rt; rw [hl]; exact List.mem_append_left _ hy
  ·cases h
 | .tre n t e, x, a, a', val, h, hf, hv => by
  simp only [conv] at h
  split at h
  ·rename_i n'
   split at h
   ·rename_i tk htk
    split at h
    ·rename_i hh
     obtain ⟨h1, h2, h3⟩ := hh
     obtain ⟨a1, hb, rfl⟩ := Option.map_eq_some_iff.1 h
     have hnin : n' ∉ fin.ft := hK.mt n' (hf.mt n' (by simp))
     have g1 := hK.tok n' tk htk
     rw [if_neg hnin] at g1
     have g2 := (v3_mtk hv).2.2 _ g1
     have gt := (hK.toks _ _ g1).tree h3
     refine jab hK (wr := true) (e := e) (deep := true) (tr := some []) rfl hb rfl rfl (fun y hy => ?_) (by funext ps; cases ps <;> rfl) ⟨_, g1, rfl, h2.symm, gt.1.symm, fun _ => gt.2, g2, h3.symm, fun _ => rfl⟩
     obtain ⟨l, hl⟩ := hf.rt; rw [hl]; exact List.mem_append_left _ hy
    ·cases h
   ·cases h
  ·refine jab hK (wr := true) (e := e) (deep := true) (tr := some []) rfl h rfl rfl (fun y hy => ?_) (by funext ps; cases ps <;> rfl) ⟨rfl, hv, .inr ⟨rfl, rfl, rfl⟩⟩
   obtain ⟨l, hl⟩ := hf.rt; rw [hl]; exact List.mem_append_left _ hy
  ·cases h
 | .agg l, x, a, a', val, h, hf, hv => by
  simp only [conv] at h
  split at h
  ·rename_i cs
   obtain ⟨vs, ev, hvs⟩ := hv
   obtain ⟨seg, rseg, xs', ts, e1, e2, e3, e4, e5⟩ := convL_ok hK (fun c => V1c c) (fun x x' v h => V3_of_V1 h.1) (fun x x' v hi h => ⟨hi.2.1 h.1, h.2⟩) l cs a a' vs h hf hvs
   refine ⟨seg, rseg, .agg xs', ts, e1, e2, fun rest => by simp only [inst, e3], e4, fun hts => ⟨fun h => h.elim, fun h => h.elim, fun ⟨us, eu, hu⟩ => ?_, fun ⟨us, eu, hu⟩ => ?_⟩⟩
   all_goals
    rw [ev] at eu
    cases eu
    exact ⟨vs, ev, e5 hts⟩
  ·cases h
 | .tup l, x, a, a', val, h, hf, hv => by
  simp only [conv] at h
  split at h
  ·rename_i cs
   obtain ⟨vs, ev, hvs⟩ := hv
   obtain ⟨seg, rseg, xs', ts, e1, e2, e3, e4, e5⟩ := convL_ok hK (fun c => V2 c) (fun x x' v h => V3_of_V2 h) (fun x x' v hi h => hi.2.2.1 h) l cs a a' vs h hf hvs
   refine ⟨seg, rseg, .tup xs', ts, e1, e2, fun rest => by simp only [inst, e3], e4, fun hts => ⟨fun h => h.elim, fun h => h.elim, fun h => h.elim, fun ⟨us, eu, hu⟩ => ?_⟩⟩
   rw [ev] at eu
   cases eu
   exact ⟨vs, ev, e5 hts⟩
  ·cases h
 | .clo f l, x, a, a', val, h, hf, hv => by
  simp only [conv] at h
  split at h
  ·rename_i g cs
   split at h
   ·rename_i eg
    subst eg
    split at h
    case h_2 => cases h
    rename_i a1 h1
    split at h
    case isFalse => cases h
    rename_i hlen
    cases h
    obtain ⟨vs, ev, hvs⟩ := v3_clo hv
    obtain ⟨seg, rseg, xs', ts, e1, e2, e3, e4, e5⟩ := convL_ok hK (fun c => V0 c) (fun x x' v h => V3_of_V1 (V1_of_V0 h)) (fun x x' v hi h => hi.1 h) l cs _ a1 vs h1 ⟨True.intro, hf.rt, hf.rb, hf.fb, hf.ft, hf.mt, hf.ub⟩ hvs
    have key : (∀ n z, (n, z) ∈ ts → c'.tok n = z) → V1 c' (.clo g xs') val := fun hts => ⟨vs, ev, e5 hts⟩
    have e1' : a1.ps = seg := e1
    have e3' : instL l seg = (xs', [], ts) := by have := e3 []; rwa [List.append_nil] at this
    exact ⟨[packP a1.ps], rseg, .clo g xs', ts, rfl, e2, fun rest => by
     simp only [inst, List.cons_append, List.nil_append]
     rw [← hlen, unpack_pack, e1', e3'], e4, fun hts => ⟨fun h => h.elim, fun h => key hts, fun h => V2_of_V1 (key hts), fun h => V3_of_V1 (key hts)⟩⟩
   ·cases h
  ·cases h
theorem convL_ok (hK : Known B T fin Fr c c' F) (Q : Ctx → AV → Value → Prop) (hQ3 : ∀ x (x' : AV) v, Q c x v → V3 c x v) (hQ : ∀ x x' v, VImp c c' x x' v → Q c x v → Q c' x' v) : ∀ (l : List VS) (xs : List AV) (a a' : Acc) (vals : List Value), convL B T l xs a = some a' → Ext a' fin → All2 (Q c) xs vals → ConvLOk c c' Q l xs a a' vals
 | [], [], a, a', vals, h, hf, hv => by
  simp only [convL] at h; cases h
  match vals, hv with
  | [], _ => exact ⟨[], [], [], [], by simp, by simp, fun rest => rfl, True.intro, fun _ => True.intro⟩
 | v :: l, x :: xs, a, a', vals, h, hf, hv => by
  match vals, hv with
  | val :: vals, hv =>
   simp only [convL] at h
   obtain ⟨a1, h1, h2⟩ := Option.bind_eq_some_iff.1 h
   obtain ⟨x1, _⟩ := convL_ext B T l xs a1 a' h2
   obtain ⟨s1, r1, y1, t1, p1, p2, p3, p4, p5⟩ := jow hK v x a a1 val h1 (x1.trans hf) (hQ3 x x val hv.1)
   obtain ⟨s2, r2, y2, t2, q1, q2, q3, q4, q5⟩ := convL_ok hK Q hQ3 hQ l xs a1 a' vals h2 hf hv.2
   refine ⟨s1 ++ s2, r1 ++ r2, y1 :: y2, t1 ++ t2, by rw [q1, p1, List.append_assoc], by rw [q2, p2, List.append_assoc], fun rest => ?_, p4.append q4, fun hts => ⟨hQ x y1 val (p5 fun n z hz => hts n z (List.mem_append_left _ hz)) hv.1, q5 fun n z hz => hts n z (List.mem_append_right _ hz)⟩⟩
   simp only [instL, List.append_assoc, p3, q3]
 | [], _ :: _, a, a', vals, h, hf, hv => by simp only [convL] at h; cases h
 | _ :: _, [], a, a', vals, h, hf, hv => by simp only [convL] at h; cases h
end
end
end Go.Proofs.YtcjbjmbialienaaGreatDoor
