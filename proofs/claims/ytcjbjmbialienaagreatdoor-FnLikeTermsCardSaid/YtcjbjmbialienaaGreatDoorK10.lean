/- The engine, tenth part: appends, parts of rows of one's own, elements that are written. -/
import Derived.Test.YtcjbjmbialienaaGreatDoorK9
set_option linter.unusedSimpArgs false
set_option linter.unusedVariables false
namespace Go.Proofs.YtcjbjmbialienaaGreatDoor
open Go.RowKit
section
variable {E : Env} {o : Oper} {s : LSt} {e : Eff} {fp : FP}
theorem jqG (c : Call) (ho : o.op = .call c) (hc : c.callee = .builtin .append) (x y : Operand) (hx : c.args.toList = [x, y]) (T : TypeId) (hT : c.argTypes.toList = [T, T]) (ty : Ty) (hty : TyOk E.P T ty) (e' : TypeId) (r : Tp) (by' : Nat) (he : ty.elem = some (e', r, by')) (d : Nat) (hdst : o.dst = some d)
  (xs ys : List r.D) (bl sl : List Nat) (wr bdeep sdeep : Bool)
  (hbase : ∀ R β τ F S (a : Act) w, Mem R (lookB s.B) (lookT s.T) β τ F S w → (∀ y, V3 (s.ctx w S β τ) (s.ev y) (a.eval y)) → ∃ Fb, TokOk R.fr w S ⟨r, xs, e', wr, bdeep, none⟩ (a.eval x) Fb ∧ ∀ b, Fb b → ∃ t tk, t ∈ bl ∧ lookT s.T t = some (.live tk) ∧ F t b)
  (hsrc : ∀ R β τ F S (a : Act) w, Mem R (lookB s.B) (lookT s.T) β τ F S w → (∀ y, V3 (s.ctx w S β τ) (s.ev y) (a.eval y)) → Elems w S (a.eval y) r ys ∧ (sdeep = true → r.flatB = true ∨ ∃ t tk, t ∈ sl ∧ t ∉ bl ∧ lookT s.T t = some (.live tk) ∧ Deep w (F t) (a.eval y) (.pv (.sl r) ys)))
  (hbytes : (xs.length + ys.length) * by' ≤ 140737488355328) (h63 : xs.length + ys.length ≤ 9223372036854775807) (hwr : E.wr d = wr) {rb rt : List Nat} (h : (newTok E d r (xs ++ ys) e' (bdeep && sdeep) ((bl ++ sl).map fun t => (t, some TS.spent))).R s rb rt e fp) : Sim E o s e := by
 obtain ⟨hd, hfr, hres, rfl⟩ := jds h
 rw [hwr]
 rintro R a w hR0 ⟨β, τ, F, S, hM, hn, hdf, hsl⟩ K Q hK
 have hev := V3_ev hsl
 obtain ⟨hu, hpos, ie, z, hie, hsz, hby, hz, hzs⟩ := hty.elem _ _ _ he
 have ea : c.args = #[x, y] := by apply Array.ext'; simpa using hx
 have eT : c.argTypes = #[T, T] := by apply Array.ext'; simpa using hT
 obtain ⟨Fb, hTb, hFb⟩ := hbase R β τ F S a w hM hev
 obtain ⟨hel, hsd⟩ := hsrc R β τ F S a w hM hev
 have hdl : d ∉ bl ++ sl := fun hin => hfr (d, some .spent) (List.mem_map.2 ⟨d, hin, rfl⟩) rfl
 have hFlt : ∀ t tk b, lookT s.T t = some (.live tk) → F t b → R.fr b ∧ b < w.heap.size := fun t tk b ht hb => (hM.toks t tk ht).1 b hb
 have hM1 := hM.drop (tok' := jd (lookT s.T) (bl ++ sl)) (fun t ht => jQ ht) (fun t tk h => (jo h).2)
 obtain ⟨Fs, hsd2, hFs⟩ : ∃ Fs : Nat → Prop, (sdeep = true → r.flatB = true ∨ (Deep w Fs (a.eval y) (.pv (.sl r) ys) ∧ ∀ b, Fs b → ¬ Fb b)) ∧ ∀ b, Fs b → ∃ t tk, t ∈ sl ∧ lookT s.T t = some (.live tk) ∧ F t b := by
  by_cases hsd' : sdeep = true ∧ ¬ r.flatB = true
  ·rcases hsd hsd'.1 with h1 | ⟨t, tk, h1, h2, h3, h4⟩
   ·exact absurd h1 hsd'.2
   ·refine ⟨F t, fun _ => .inr ⟨h4, fun b hb hb' => ?_⟩, fun b hb => ⟨t, tk, h1, h3, hb⟩⟩
    obtain ⟨t', tk', g1, g2, g3⟩ := hFb b hb'
    exact h2 (hM.tdis t t' tk tk' b h3 g2 hb g3 ▸ g1)
  ·refine ⟨fun _ => False, fun h1 => .inl ?_, fun _ h => h.elim⟩
   by_cases h2 : r.flatB = true
   ·exact h2
   ·exact absurd ⟨h1, h2⟩ hsd'
 have hdisj : ∀ t tk b, t ∉ bl ++ sl → lookT s.T t = some (.live tk) → (Fb b ∨ Fs b) → ¬ F t b := fun t tk b htl ht hb hF => by
  rcases hb with hb | hb
  ·obtain ⟨t', tk', h1, h2, h3⟩ := hFb b hb
   exact htl (List.mem_append_left _ (hM.tdis t t' tk tk' b ht h2 hF h3 ▸ h1))
  ·obtain ⟨t', tk', h1, h2, h3⟩ := hFs b hb
   exact htl (List.mem_append_right _ (hM.tdis t t' tk tk' b ht h2 hF h3 ▸ h1))
 have hdisb : ∀ k b, lookB s.B k = some b → ¬ (Fb (β k) ∨ Fs (β k)) := fun k b hk hb => by
  rcases hb with hb | hb
  ·obtain ⟨t', tk', h1, h2, h3⟩ := hFb _ hb
   exact hM.tbox t' tk' k b h2 hk h3
  ·obtain ⟨t', tk', h1, h2, h3⟩ := hFs _ hb
   exact hM.tbox t' tk' k b h2 hk h3
 obtain ⟨v', w', S', hrun, hM', hle, hTk⟩ := append_core (P := E.P) hM1 T o.type e' ie z r by' hu hie hz hsz hby hzs hpos (a.eval x) (a.eval y) xs ys wr bdeep sdeep Fb Fs hTb hel hsd2
  (fun b hb => by obtain ⟨t, tk, _, h2, h3⟩ := hFs b hb; exact hFlt t tk b h2 h3) (fun t tk b ht hb => hdisj t tk b (jo ht).1 (jo ht).2 (.inl hb)) (fun k b hk hb => hdisb k b hk (.inl hb)) hbytes h63
 have hr : (execOp a.eval o).run E.P w = .ok (.value v') w' := by
  simp only [execOp, ho, resolve, hc, invoke, builtin, Sem.run_bind, Sem.run_pure, Result.andThen_ok, ea, eT, List.map_toArray, List.map_cons, List.map_nil, hrun]
 refine wp_value hr (hK _ _ (jak (s := s) (bl ++ sl) hM' hn hdf hsl hle d hd (hR0.tn hres) ⟨r, xs ++ ys, e', wr, bdeep && sdeep, none⟩ v' _ hTk rfl (fun t tk' b htl ht hb => ?_) (fun k b hk hb => ?_) o.dst hdl _ rfl))
 ·rcases hb.1 with h | h | h
  ·exact hdisj t tk' b htl ht (.inl h)
  ·exact hdisj t tk' b htl ht (.inr h)
  ·intro hF; have := (hFlt t tk' b ht hF).2; omega
 ·rcases hb.1 with h | h | h
  ·exact hdisb k b hk (.inl h)
  ·exact hdisb k b hk (.inr h)
  ·have := hM.blt hk; omega
theorem je3 {w : World} {F : Nat → Prop} {v : Value} {t : Tp} {xs : List t.D} {r : Tp} {ys : List r.D} (h : Deep w F v (.pv (.sl t) xs)) (hc : (⟨t, xs⟩ : (t : Tp) × List t.D) = ⟨r, ys⟩) : Deep w F v (.pv (.sl r) ys) := by
 simp only [Sigma.mk.injEq] at hc
 obtain ⟨rfl, h2⟩ := hc
 cases h2
 exact h
theorem jcg {l : List Nat} {n : Nat} (h : ((l.map fun t => (t, some TS.spent)).any fun y => y.1 == n) = false) : n ∉ l := by
 intro hin
 have := List.any_eq_false.1 h (n, some .spent) (List.mem_map.2 ⟨n, hin, rfl⟩)
 simp at this
theorem jdl (hE : EnvOk E) (c : Call) (ho : o.op = .call c) (hc : c.callee = .builtin .append) (x y : Operand) (hx : c.args.toList = [x, y]) (T : TypeId) (hT : c.argTypes.toList = [T, T]) (ty : Ty) (hty : TyOk E.P T ty) (e' : TypeId) (r : Tp) (by' : Nat) (he : ty.elem = some (e', r, by')) (d : Nat) (hdst : o.dst = some d)
  (xs : List r.D) (bl : List Nat) (wr bdeep : Bool)
  (hbase : ∀ R β τ F S (a : Act) w, Mem R (lookB s.B) (lookT s.T) β τ F S w → (∀ y, V3 (s.ctx w S β τ) (s.ev y) (a.eval y)) → ∃ Fb, TokOk R.fr w S ⟨r, xs, e', wr, bdeep, none⟩ (a.eval x) Fb ∧ ∀ b, Fb b → ∃ t tk, t ∈ bl ∧ lookT s.T t = some (.live tk) ∧ F t b)
  {rb rt : List Nat} (h : (appendRD E d e' r by' bdeep (bl.map fun t => (t, some TS.spent)) wr xs (s.ev y)).R s rb rt e fp) : Sim E o s e := by
 have fin : ∀ (ys : List r.D) (sl : List Nat) (sdeep : Bool) (rt : List Nat),
   (∀ R β τ F S (a : Act) w, Mem R (lookB s.B) (lookT s.T) β τ F S w → (∀ y, V3 (s.ctx w S β τ) (s.ev y) (a.eval y)) → Elems w S (a.eval y) r ys ∧ (sdeep = true → r.flatB = true ∨ ∃ t tk, t ∈ sl ∧ t ∉ bl ∧ lookT s.T t = some (.live tk) ∧ Deep w (F t) (a.eval y) (.pv (.sl r) ys))) →
   (need (room xs.length ys.length by') (if E.wr d = wr then newTok E d r (xs ++ ys) e' (bdeep && sdeep) ((bl ++ sl).map fun t => (t, some TS.spent)) else .fail)).R s rb rt e fp → Sim E o s e := fun ys sl sdeep rt hs h => by
  obtain ⟨⟨h1, h2⟩, h3⟩ := h
  split at h3
  ·rename_i hwr
   exact jqG c ho hc x y hx T hT ty hty e' r by' he d hdst xs ys bl sl wr bdeep sdeep hbase hs h1 h2 hwr h3
  ·exact h3.elim
 unfold appendRD at h
 simp only at h
 split at h
 ·rename_i n hy
  simp only [RD.R] at h
  split at h
  case h_2 => exact h.elim
  rename_i tk htk
  split at h
  case isFalse => exact h.elim
  rename_i et
  obtain ⟨et, etr⟩ := et
  subst et
  have hel : ∀ R β τ F S (a : Act) w, Mem R (lookB s.B) (lookT s.T) β τ F S w → (∀ y, V3 (s.ctx w S β τ) (s.ev y) (a.eval y)) → a.eval y = τ n ∧ TokOk R.fr w S tk (τ n) (F n) := fun R β τ F S a w hM hev => by
   have h1 := hev y; rw [hy] at h1
   exact ⟨(v3_mtk h1).2.2 tk htk, hM.toks n tk htk⟩
  split at h
  ·rename_i hfl
   refine fin tk.xs [] true _ (fun R β τ F S a w hM hev => ?_) (by simpa using h)
   obtain ⟨h1, h2⟩ := hel R β τ F S a w hM hev
   exact ⟨by rw [h1]; exact Elems.of_tok h2 etr, fun _ => .inl hfl⟩
  ·rename_i hfl
   split at h
   ·exact h.elim
   ·rename_i hany
    refine fin tk.xs [n] tk.deep _ (fun R β τ F S a w hM hev => ?_) (by simpa using h)
    obtain ⟨h1, h2⟩ := hel R β τ F S a w hM hev
    exact ⟨by rw [h1]; exact Elems.of_tok h2 etr, fun hd => .inr ⟨n, tk, by simp, jcg (Bool.eq_false_iff.2 hany), htk, by rw [h1]; exact h2.deepOf etr hd⟩⟩
 ·rename_i n r' zs hy
  split at h
  case isFalse => exact h.elim
  rename_i et
  subst et
  have hel : ∀ R β τ F S (a : Act) w, Mem R (lookB s.B) (lookT s.T) β τ F S w → (∀ y, V3 (s.ctx w S β τ) (s.ev y) (a.eval y)) → Elems w S (a.eval y) r' zs ∧ ∀ tk, lookT s.T n = some (.live tk) → a.eval y = τ n ∧ TokOk R.fr w S tk (τ n) (F n) ∧ (⟨tk.t, tk.xs⟩ : (t : Tp) × List t.D) = ⟨r', zs⟩ ∧ tk.wr = false := fun R β τ F S a w hM hev => by
   have h1 := hev y; rw [hy] at h1
   obtain ⟨g1, g2, g3⟩ := v3_own h1
   exact ⟨Elems.of_rep g1, fun tk htk => ⟨(g3 tk htk).2.1, hM.toks n tk htk, (g3 tk htk).2.2, (g3 tk htk).1⟩⟩
  split at h
  ·rename_i hfl
   exact fin zs [] true _ (fun R β τ F S a w hM hev => ⟨(hel R β τ F S a w hM hev).1, fun _ => .inl hfl⟩) (by simpa using h)
  ·rename_i hfl
   split at h
   ·exact h.elim
   ·rename_i hany
    simp only [RD.R] at h
    refine fin zs [n] (deepOf (lookT s.T n)) (n :: rt) (fun R β τ F S a w hM hev => ?_) (by simp only [List.map_append, List.map_cons, List.map_nil]; exact h)
    obtain ⟨h1, h2⟩ := hel R β τ F S a w hM hev
    refine ⟨h1, fun hd => ?_⟩
    cases ht : lookT s.T n with
    | none => rw [ht] at hd; cases hd
    | some z => cases z with
     | spent => rw [ht] at hd; cases hd
     | live tk =>
      rw [ht] at hd
      obtain ⟨k1, k2, k3, k4⟩ := h2 tk ht
      refine .inr ⟨n, tk, by simp, jcg (Bool.eq_false_iff.2 hany), ht, ?_⟩
      have := k2.deepOf (k2.plain k4) hd
      rw [k1]
      exact je3 this k3
 ·split at h
  case h_2 => exact h.elim
  rename_i ys hys
  refine fin ys [] r.flatB _ (fun R β τ F S a w hM hev => ⟨Elems.of_rep (as_sl (c := s.ctx w S β τ) hys (hev y)), fun h => .inl h⟩) (by simpa using h)
theorem tokOk_cast {Fr : Nat → Prop} {w : World} {S : Stab} {tk : Tok} {v : Value} {F : Nat → Prop} (h : TokOk Fr w S tk v F) {r : Tp} {xs : List r.D} (hc : (⟨tk.t, tk.xs⟩ : (t : Tp) × List t.D) = ⟨r, xs⟩) : TokOk Fr w S ⟨r, xs, tk.e, tk.wr, tk.deep, tk.tr⟩ v F := by
 obtain ⟨t, ys, e', wr, deep, tr⟩ := tk
 simp only [Sigma.mk.injEq] at hc
 obtain ⟨rfl, h2⟩ := hc
 cases h2
 exact h
theorem jkN (hE : EnvOk E) (c : Call) (ho : o.op = .call c) (hc : c.callee = .builtin .append)
  (htree : ∀ (d : Nat) (x y : Operand) (T : TypeId) (ty : Ty) (e' : TypeId) (r : Tp) (by' t : Nat) (tk : Tok), o.dst = some d → c.args.toList = [x, y] → c.argTypes.toList = [T, T] → E.ty T = some ty → ty.elem = some (e', r, by') → s.ev x = .mtk t → lookT s.T t = some (.live tk) → (er : tk.t = r ∧ tk.tr = some []) → tk.e = e' → (appendTree E d e' r by' t (er.1 ▸ tk.xs) (s.ev y)).R s [] [t] e fp → Sim E o s e)
  (h : (opRD E o.op o.dst s.ev).R s [] [] e fp) : Sim E o s e := by
 rw [ho] at h
 simp only [opRD, hc] at h
 split at h
 case h_2 => exact h.elim
 rename_i d x y T T' hdst hx hTT
 split at h
 case isFalse => exact h.elim
 rename_i eT
 subst eT
 split at h
 case h_2 => exact h.elim
 rename_i ty hty
 have hTy := hE.ty T ty hty
 split at h
 case h_2 => exact h.elim
 rename_i e' r by' he
 split at h
 ·rename_i t r' xs hxv
  simp only [RD.R] at h
  split at h
  case h_2 => exact h.elim
  rename_i tk htk
  split at h
  case isFalse => exact h.elim
  rename_i er
  subst er
  split at h
  case isFalse => exact h.elim
  rename_i ee
  refine jdl hE c ho hc x y hx T hTT ty hTy e' r' by' he d hdst xs [t] false tk.deep (fun R β τ F S a w hM hev => ?_) h
  have h1 := hev x; rw [hxv] at h1
  obtain ⟨g1, g2, g3⟩ := v3_own h1
  obtain ⟨k1, k2, k3⟩ := g3 tk htk
  have hpl := (hM.toks t tk htk).plain k1
  have := tokOk_cast (hM.toks t tk htk) k3
  rw [k1, ee, hpl] at this
  refine ⟨F t, ?_, fun b hb => ⟨t, tk, by simp, htk, hb⟩⟩
  rw [k2]; exact this
 ·rename_i t hxv
  simp only [RD.R] at h
  split at h
  case h_2 => exact h.elim
  rename_i tk htk
  split at h
  case isFalse =>
   split at h
   case isFalse => exact h.elim
   rename_i er
   split at h
   case isFalse => exact h.elim
   rename_i ee
   exact htree d x y T ty e' r by' t tk hdst hx hTT hty he hxv htk er ee h
  rename_i er
  obtain ⟨er, etr⟩ := er
  subst er
  split at h
  case isFalse => exact h.elim
  rename_i ee
  refine jdl hE c ho hc x y hx T hTT ty hTy e' tk.t by' he d hdst tk.xs [t] tk.wr tk.deep (fun R β τ F S a w hM hev => ?_) h
  have h1 := hev x; rw [hxv] at h1
  obtain ⟨g1, g2, g3⟩ := v3_mtk h1
  have := hM.toks t tk htk
  refine ⟨F t, ?_, fun b hb => ⟨t, tk, by simp, htk, hb⟩⟩
  have e2 : (⟨tk.t, tk.xs, e', tk.wr, tk.deep, none⟩ : Tok) = tk := by rw [← ee, ← etr]
  rw [g3 tk htk, e2]; exact this
 ·rename_i hxv
  refine jdl hE c ho hc x y hx T hTT ty hTy e' r by' he d hdst [] [] (E.wr d) true (fun R β τ F S a w hM hev => ?_) h
  have h1 := hev x; rw [hxv] at h1
  exact ⟨fun _ => False, ⟨fun _ h => h.elim, .inl ⟨h1, rfl⟩, fun _ => by rw [h1]; exact .nil _ _⟩, fun _ h => h.elim⟩
 ·exact h.elim
end
end Go.Proofs.YtcjbjmbialienaaGreatDoor
