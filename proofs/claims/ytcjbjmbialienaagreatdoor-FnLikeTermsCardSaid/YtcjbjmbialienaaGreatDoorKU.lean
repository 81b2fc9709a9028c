/- The engine: package variables that stay. -/
import Derived.Test.YtcjbjmbialienaaGreatDoorKT
set_option linter.unusedSimpArgs false
set_option linter.unusedVariables false
namespace Go.Proofs.YtcjbjmbialienaaGreatDoor
open Go.RowKit
section
variable {E : Env} {o : Oper} {s : LSt} {e : Eff} {fp : FP}
theorem jcs {x : AV} (h : ∀ R β τ F S (a : Act) w, ROk E R → Mem R (lookB s.B) (lookT s.T) β τ F S w → (∀ y, V3 (s.ctx w S β τ) (s.ev y) (a.eval y)) → ∃ v, (execOp a.eval o).run E.P w = .ok (.value v) w ∧ V3 (s.ctx w S β τ) x v) : Sim E o s ⟨x, [], []⟩ := by
 rintro R a w hR0 ⟨β, τ, F, S, hM, hn, hd, hs⟩ K Q hK
 obtain ⟨v, hr, hv⟩ := h R β τ F S a w hR0 hM (V3_ev hs)
 exact wp_value hr (hK _ _ (rel_put (e := ⟨x, [], []⟩) hM hn hd hs o.dst (.inr hv)))
theorem jmm (hE : EnvOk E) (T : TypeId) (x : Operand) (ho : o.op = .load T x) (ty : Ty) (g : Nat) (hty : E.ty T = some ty) (hx : x = .global g) (h : (gloadRD ty g).R s [] [] e fp) : Sim E o s e := by
 have hT := hE.ty T ty hty
 subst hx
 unfold gloadRD at h
 split at h
 ·rename_i t y hg
  obtain ⟨z, rfl⟩ : ∃ z, e = ⟨z, [], []⟩ := by
   split at h
   ·split at h
    ·exact ⟨_, val_R h⟩
    ·exact h.elim
   ·split at h
    ·exact ⟨_, val_R h⟩
    ·exact h.elim
  refine jcs fun R β τ F S a w hR0 hM hev => ?_
  have hc : CellsAt w S g 0 (enc t y) := hR0.2.2.later (X' := fun _ => False) hM (fun _ _ h => h) (fun _ h => h.elim) g _ hg
  obtain ⟨z', e1, v, h2, h3⟩ := load_row (c := s.ctx w S β τ) T (.global g) ho ty hT a w rfl g 0 t y 0 rfl (fun j p hp => (hc j p hp).2) h
  cases e1
  exact ⟨v, h2, h3⟩
 ·rename_i kt vt agg es hg
  split at h
  ·exact h.elim
  rename_i hagg
  cases val_R h
  refine jcs fun R β τ F S a w hR0 hM hev => ?_
  obtain ⟨h1, b, ents, clk, es', h2, h3, h4, h5⟩ := hR0.2.2.later (X' := fun _ => False) hM (fun _ _ h => h) (fun _ h => h.elim) g _ hg
  exact ⟨_, jbE T (.global g) ho ty hT (by simpa using hagg) a w _ rfl _ h2, h1, h2, rfl⟩
 ·exact h.elim
theorem jiT (c : Ctx) {agg : Bool} {t : Tp} (ht : t.flatB = true) (hw : agg = false → t.w = 1) (y : t.D) : V2 c (rowAV agg t y) (rowV agg t y) := by
 have lits : ∀ (t : Tp) (y : t.D), t.flatB = true → ∀ p, p ∈ enc t y → p.isLit = true := by
  intro t
  induction t with
  | bool => intro y _ p hp; simp [enc] at hp; subst hp; rfl
  | int k => intro y _ p hp; simp [enc] at hp; subst hp; rfl
  | str => intro y _ p hp; simp [enc] at hp; subst hp; rfl
  | unit => intro y _ p hp; simp [enc] at hp
  | pair a b iha ihb =>
   intro y h p hp
   simp only [Tp.flatB, Bool.and_eq_true] at h
   rcases List.mem_append.1 hp with hp | hp
   ·exact iha _ h.1 p hp
   ·exact ihb _ h.2 p hp
  | sl r => intro y h; cases h
  | opt r => intro y h; cases h
  | q => intro y h; cases h
 cases agg with
 | true =>
  refine ⟨(enc t y).map litOf, rfl, ?_⟩
  have h1 := cells_enc t y
  have h2 := lits t y ht
  refine All2.of_get (by rw [h1.len, List.length_map]) (fun i a b ha hb => ?_)
  rw [List.getElem?_map] at hb
  obtain ⟨p, hp, rfl⟩ := Option.map_eq_some_iff.1 hb
  obtain ⟨t', x', rfl, he⟩ := h1.get' i a p ha hp
  have hl := h2 p (List.mem_of_getElem? hp)
  exact ⟨⟨p, he, Rep.ofLit hl⟩, (Rep.ofLit (w := c.w) (S := c.S) hl).one⟩
 | false =>
  have hl : (enc t y).length = 1 := by rw [enc_len]; exact hw rfl
  obtain ⟨p, hp⟩ : ∃ p, enc t y = [p] := by
   match enc t y, hl with
   | [p], _ => exact ⟨p, rfl⟩
  have e : rowV false t y = litOf p := by show litV t y = _; unfold litV; rw [hp]
  rw [e]
  exact ⟨p, hp, Rep.ofLit (lits t y ht p (by rw [hp]; simp))⟩
theorem jf6 {kt : Tp} {d : TypeDesc} (hd : ∀ x y : kt.D, Instr.sameNow d (litV kt x) (litV kt y) = some (kt.eqB x y)) {vt : Tp} (agg : Bool) (x : kt.D) : ∀ (ents : List MapEntry) (es : List (kt.D × vt.D)) (i : Nat), ents.map (fun e => (e.key, e.val)) = es.map (fun x => (litV kt x.1, rowV agg vt x.2)) →
  Instr.findNow d (litV kt x) ents i = some ((js kt vt x es i).map fun p => (p.1, rowV agg vt p.2))
 | [], [], i, _ => rfl
 | [], _ :: _, i, h => by cases h
 | _ :: _, [], i, h => by cases h
 | e :: ents, y :: es, i, h => by
  simp only [List.map_cons, List.cons.injEq, Prod.mk.injEq] at h
  obtain ⟨⟨h1, h2⟩, h3⟩ := h
  unfold js
  simp only [Instr.findNow, h1, hd]
  cases hq : kt.eqB x y.1 with
  | true => simp [h2]
  | false =>
   simp only [cond_false]
   exact jf6 hd agg x ents es (i + 1) h3
theorem jk3 {x : AV} {g : Nat} (h : gmapOf x = some g) : x = .gmap g := by cases x <;> first | (cases h; rfl) | cases h
theorem jmF (hE : EnvOk E) (T : TypeId) (x i : Operand) (ok : Bool) (ho : o.op = .lookup T x i ok) (g : Nat) (hx : s.ev x = .gmap g) (h : (glookRD E T g (s.ev i) ok).R s [] [] e fp) : Sim E o s e := by
 unfold glookRD at h
 split at h
 case h_2 => exact h.elim
 rename_i ty hty
 split at h
 case h_2 => exact h.elim
 rename_i K V kt vt agg hgm
 split at h
 case h_2 => exact h.elim
 rename_i kt' vt' agg' es hg
 split at h
 case isFalse => exact h.elim
 rename_i hcast
 obtain ⟨rfl, rfl, rfl⟩ := hcast
 obtain ⟨key, hkey, z, hz, h⟩ := h
 simp only at h
 obtain ⟨hu, hK, hfl, hw1, iV, z', hi, hz', hzero⟩ := (hE.ty T ty hty).gm K V _ _ _ hgm
 rw [hz] at hz'; cases hz'
 obtain ⟨d, hd, hisk, hsame⟩ := jd5 hK
 obtain ⟨zk, hzk⟩ := jdL hK
 have run : ∀ R β τ F S (a : Act) w, ROk E R → Mem R (lookB s.B) (lookT s.T) β τ F S w → (∀ y, V3 (s.ctx w S β τ) (s.ev y) (a.eval y)) → (Instr.lookup T (a.eval x) (a.eval i) ok).run E.P w = .ok (if ok then .tuple #[rowV agg' vt' ((mget kt' vt' es key).getD z), .bool (mget kt' vt' es key).isSome] else rowV agg' vt' ((mget kt' vt' es key).getD z)) w := fun R β τ F S a w hR0 hM hev => by
  have h1 := hev x
  rw [hx] at h1
  obtain ⟨g1, b, ents, clk, es', g2, g3, ⟨g4, _, g6⟩, g5⟩ := hR0.2.2.later (X' := fun _ => False) hM (fun _ _ h => h) (fun _ h => h.elim) g _ hg
  have hp : a.eval x = .map (some b) := by
   have := h1.2.1
   rw [show (s.ctx w S β τ).w = w from rfl, g2] at this
   exact (Option.some.inj this).symm
  have hkv : a.eval i = litV kt' key := (jb5 hkey (hev i) hzk).1
  have hf := MapKept.run_findKey (w := w) hd (jf6 hsame agg' key ents.toList es' 0 g4)
  have hc := MapKept.run_checkKey (w := w) hd (hisk key) ents.isEmpty 9999
  rw [← g6 key, jd9 kt' vt' key es' 0]
  cases hm : js kt' vt' key es' 0 with
  | none =>
   rw [hm] at hf
   cases ok <;> simp [Instr.lookup, run_underlying hu, hp, hkv, MapKept.run_getObj_map g3, hc, hf, zeroValue, typeInfo, hi, hzero]
  | some p =>
   rw [hm] at hf
   cases ok <;> simp [Instr.lookup, run_underlying hu, hp, hkv, MapKept.run_getObj_map g3, hc, hf]
 cases ok with
 | true =>
  cases val_R h
  refine jcs fun R β τ F S a w hR0 hM hev => ⟨.tuple #[rowV agg' vt' ((mget kt' vt' es key).getD z), .bool (mget kt' vt' es key).isSome], ?_, ?_⟩
  ·have := run R β τ F S a w hR0 hM hev
   simp [execOp, ho, this]
  ·exact ⟨[rowV agg' vt' ((mget kt' vt' es key).getD z), .bool (mget kt' vt' es key).isSome], rfl, jiT _ hfl hw1 _, mk_bool _ _, True.intro⟩
 | false =>
  cases val_R h
  refine jcs fun R β τ F S a w hR0 hM hev => ⟨rowV agg' vt' ((mget kt' vt' es key).getD z), ?_, V3_of_V2 (jiT _ hfl hw1 _)⟩
  have := run R β τ F S a w hR0 hM hev
  simp [execOp, ho, this]
end
end Go.Proofs.YtcjbjmbialienaaGreatDoor
