/- The engine: trees: slices that are taken out, cells that are written, slices that are put back. -/
import Derived.Test.YtcjbjmbialienaaGreatDoorKA
set_option linter.unusedSimpArgs false
set_option linter.unusedVariables false
namespace Go.Proofs.YtcjbjmbialienaaGreatDoor
open Go.RowKit
theorem TokOk.ofDeep {Fr : Nat → Prop} {w : World} {S : Stab} {r : Tp} {xs : List r.D} {v : Value} {G : Nat → Prop} (h : Deep w G v (.pv (.sl r) xs)) (hF : ∀ b, G b → Fr b ∧ b < w.heap.size) (hS : ∀ b, G b → ∀ o, ¬ S b o) (e : TypeId) : TokOk Fr w S ⟨r, xs, e, true, true, bif r.flatB then none else some []⟩ v G := by
 have h0 := h
 refine ⟨hF, ?_, ?_⟩
 ·cases h with
  | lit _ _ _ _ p he hl hv => cases he; cases hl
  | nil _ _ => exact .inl ⟨rfl, rfl⟩
  | sl _ cap _ _ u b q vs T hb hg hz hc hx hu hq hd hr =>
   refine .inr ⟨b, cap, vs, T, rfl, hb, hg, hz, hc, hx, (fun h => by cases h), fun _ o => hS b hb o, fun i j x p hx' hp => ?_⟩
   have hj : j < r.w := by have := (List.getElem?_eq_some_iff.1 hp).1; rwa [enc_len] at this
   obtain ⟨c, hc'⟩ := cells_at x hj
   refine ⟨u i j, hu i j x c hx' hc', fun ht => ?_, fun h => by cases h⟩
   cases hf : r.flatB with
   | false => rw [hf] at ht; cases ht
   | true =>
    obtain ⟨t0, x0, p0, e1, e2, e3⟩ := (hr i j x c hx' hc').rep (S := fun _ _ => True) (fun _ _ _ => True.intro)
    obtain ⟨t1, x1, e4, e5⟩ := (cells_enc r x).get' j c p hc' hp
    rw [e1] at e4; cases e4
    rw [e2] at e5; cases e5
    exact jdQ e3 (flat_isLit r x hf p (List.mem_of_getElem? hp))
 ·unfold Once
  simp only
  cases hf : r.flatB with
  | true => exact fun _ => h0
  | false => exact ⟨trivial, trivial, hS, h0.tree⟩
def jfY (v : Value) (k : Nat) : Prop := ∃ l cap, v = .slice (some ⟨k, 0, none⟩) l cap
theorem Deep.flatMin {w : World} {F : Nat → Prop} {v : Value} {r : Tp} {xs : List r.D} (h : Deep w F v (.pv (.sl r) xs)) (hf : r.flatB = true) : Deep w (jfY v) v (.pv (.sl r) xs) := by
 cases h with
 | lit _ _ _ _ p he hl hv => cases he; cases hl
 | nil _ _ => exact .nil _ _
 | sl _ cap _ _ u b q vs T hb hg hz hc hx hu hq hd hr =>
  refine .sl _ cap r xs u b (fun _ _ _ => False) vs T ⟨_, _, rfl⟩ hg hz hc hx hu (fun _ _ _ h => h.elim) (fun _ _ _ _ _ h => h.elim) (fun i j x c h1 h2 => ?_)
  obtain ⟨t0, x0, p0, e1, e2, e3⟩ := (hr i j x c h1 h2).rep (S := fun _ _ => True) (fun _ _ _ => True.intro)
  obtain ⟨p, hp, t1, x1, e4, e5⟩ := (cells_enc r x).get j c h2
  rw [e1] at e4; cases e4
  rw [e2] at e5; cases e5
  have hl := flat_isLit r x hf _ (List.mem_of_getElem? hp)
  rw [e1]
  exact .lit _ _ _ _ _ e2 hl (rep_litV e3 hl)
theorem TokOk.given {Fr : Nat → Prop} {w : World} {S : Stab} {tk : Tok} {v : Value} {F : Nat → Prop} (h : TokOk Fr w S tk v F) (hwh : tk.whole = true) (hwr : tk.wr = true) (hd : tk.deep = true) (hfl : tk.tr = none → tk.t.flatB = true) :
  ∃ G : Nat → Prop, (∀ b, G b → F b) ∧ (∀ b, G b → ∀ o, ¬ S b o) ∧ Deep w G v (.pv (.sl tk.t) tk.xs) := by
 cases htr : tk.tr with
 | none =>
  refine ⟨jfY v, fun b ⟨l, cap, e⟩ => h.block e, fun b ⟨l, cap, e⟩ => ?_, (h.deepOf htr hd).flatMin (hfl htr)⟩
  rcases h.2.1 with ⟨e1, _⟩ | ⟨b', cap', vs, T, e1, _, _, _, _, _, _, hwr', _⟩
  ·rw [e1] at e; cases e
  ·rw [e1] at e; cases e; exact hwr' hwr
 | some hs =>
  have := Tok.whole_nil hwh htr
  subst this
  refine ⟨F, fun _ h => h, ?_, h.deepTree htr⟩
  have := h.2.2
  unfold Once at this
  rw [htr] at this
  exact this.2.2.1
theorem TokOk.noS {Fr : Nat → Prop} {w : World} {S : Stab} {tk : Tok} {v : Value} {F : Nat → Prop} (h : TokOk Fr w S tk v F) {hs : List (Nat × Nat × Nat)} (htr : tk.tr = some hs) : ∀ b, F b → ∀ o, ¬ S b o := by
 have := h.2.2
 unfold Once at this
 rw [htr] at this
 exact this.2.2.1
theorem TokOk.openTree {Fr : Nat → Prop} {w : World} {S : Stab} {tk : Tok} {v : Value} {F : Nat → Prop} (h : TokOk Fr w S tk v F) {hs : List (Nat × Nat × Nat)} (htr : tk.tr = some hs) {i : Nat} (hi : i < tk.xs.length) :
  ∃ (b cap : Nat) (vs : Array Value) (T : TypeId) (q : Nat → Nat → Nat → Prop), v = .slice (some ⟨b, 0, none⟩) tk.xs.length cap ∧ F b ∧ w.heap[b]? = some (.cells vs T (0, 0)) ∧ vs.size = cap * tk.t.w ∧ tk.xs.length ≤ cap ∧ cap ≤ maxLen ∧ (∀ i j k, q i j k → F k ∧ k ≠ b) ∧ (∀ i j i' j' k, q i j k → q i' j' k → i = i' ∧ j = j') ∧
   ∀ (i j : Nat) (x : tk.t.D) (c : AV), tk.xs[i]? = some x → (cellsOf tk.t x)[j]? = some c → ∃ u, vs[i * tk.t.w + j]? = some u ∧ u.oneCell' = true ∧ ((∀ d, (i, j, d) ∉ hs) → Deep w (q i j) u c) := by
 obtain ⟨_, h2, h3⟩ := h
 unfold Once at h3
 rw [htr] at h3
 obtain ⟨_, _, _, hT⟩ := h3
 rcases h2 with ⟨_, e⟩ | ⟨b, cap, vs, T, e, hb, hg, hz, hn, hm, _⟩
 ·rw [e] at hi; simp at hi
 rcases hT with hT | ⟨b', cap', q, e', hq, hd, hcc⟩
 ·rw [hT] at e; cases e
 rw [e'] at e
 cases e
 refine ⟨b, cap, vs, T, q, e', hb, hg, hz, hn, hm, hq, hd, fun i j x c hx hc => ?_⟩
 obtain ⟨u, k1, k2, k3⟩ := hcc i j x c hx hc
 rw [cell_of_row w b _ vs T (0, 0) hg] at k1
 exact ⟨u, k1, k2, k3⟩
theorem Mem.split {R : Root} {w : World} {S : Stab} {box : Nat → Option BS} {tok : Nat → Option TS} {β : Nat → Nat} {τ : Nat → Value} {F : Nat → Nat → Prop} (hM : Mem R box tok β τ F S w) (n : Nat) (tk : Tok) (hs : List (Nat × Nat × Nat)) (htk : tok n = some (.live tk)) (htr : tk.tr = some hs)
  (i o : Nat) (y : tk.t.D) (hy : tk.xs[i]? = some y) (r : Tp) (x : List r.D) (hc : (cellsOf tk.t y)[o]? = some (.pv (.sl r) x)) (hno : ∀ d, (i, o, d) ∉ hs) (d : Nat) (hd : tok d = none) (htn : R.tn d = none) (e : TypeId) :
  ∃ b l cap u, τ n = .slice (some ⟨b, 0, none⟩) l cap ∧ w.cell? ⟨b, i * tk.t.w + o, none⟩ = some u ∧ u.oneCell' = true ∧ ∃ F', Mem R box (updT (updT tok n (some (.live { tk with tr := some ((i, o, d) :: hs) }))) d (some (.live ⟨r, x, e, true, true, bif r.flatB then none else some []⟩))) β (fun t => if t = d then u else τ t) F' S w ∧
   TokLe ⟨w, S, fun k => box k ≠ none, β, tok, τ⟩ ⟨w, S, fun k => box k ≠ none, β, updT (updT tok n (some (.live { tk with tr := some ((i, o, d) :: hs) }))) d (some (.live ⟨r, x, e, true, true, bif r.flatB then none else some []⟩)), fun t => if t = d then u else τ t⟩ := by
 have hk := hM.toks n tk htk
 have hdn : d ≠ n := fun e => by rw [e, htk] at hd; cases hd
 have hi : i < tk.xs.length := (List.getElem?_eq_some_iff.1 hy).1
 obtain ⟨b, cap, vs, T, q, ev, hb, hg, hz, hn, hm, hq, hdj, hcc⟩ := hk.openTree htr hi
 obtain ⟨u, hu, hu1, hu2⟩ := hcc i o y _ hy hc
 have hD := hu2 hno
 have hcell : w.cell? ⟨b, i * tk.t.w + o, none⟩ = some u := by rw [cell_of_row w b _ vs T (0, 0) hg]; exact hu
 obtain ⟨tok', htok'⟩ : ∃ tok', tok' = updT (updT tok n (some (.live { tk with tr := some ((i, o, d) :: hs) }))) d (some (.live ⟨r, x, e, true, true, bif r.flatB then none else some []⟩)) := ⟨_, rfl⟩
 have td : tok' d = some (.live ⟨r, x, e, true, true, bif r.flatB then none else some []⟩) := by rw [htok']; simp [updT]
 have tn : tok' n = some (.live { tk with tr := some ((i, o, d) :: hs) }) := by rw [htok']; simp [updT, Ne.symm hdn]
 have tt : ∀ {t}, t ≠ d → t ≠ n → tok' t = tok t := fun {t} h1 h2 => by rw [htok']; simp [updT, h1, h2]
 obtain ⟨F', hF'⟩ : ∃ F' : Nat → Nat → Prop, F' = fun t k => if t = d then q i o k else if t = n then F n k ∧ ¬ q i o k else F t k := ⟨_, rfl⟩
 have fd : F' d = q i o := by rw [hF']; funext k; simp
 have fn : F' n = fun k => F n k ∧ ¬ q i o k := by rw [hF']; funext k; simp [Ne.symm hdn]
 have ft : ∀ {t}, t ≠ d → t ≠ n → F' t = F t := fun {t} h1 h2 => by rw [hF']; funext k; simp [h1, h2]
 have own : ∀ {t tk1}, tok' t = some (.live tk1) → ∃ m tk2, tok m = some (.live tk2) ∧ (∀ k, F' t k → F m k) ∧ ((t = d ∧ m = n) ∨ (t ≠ d ∧ m = t)) := fun {t tk1} h => by
  by_cases e1 : t = d
  ·subst e1; exact ⟨n, tk, htk, fun k hk => by rw [fd] at hk; exact (hq i o k hk).1, .inl ⟨rfl, rfl⟩⟩
  ·by_cases e2 : t = n
   ·subst e2; exact ⟨t, tk, htk, fun k hk => by rw [fn] at hk; exact hk.1, .inr ⟨e1, rfl⟩⟩
   ·rw [tt e1 e2] at h
    exact ⟨t, tk1, h, fun k hk => by rw [ft e1 e2] at hk; exact hk, .inr ⟨e1, rfl⟩⟩
 have used : ∀ {t}, tok t ≠ none → t ≠ d ∧ tok' t ≠ none := fun {t} h => by
  have e1 : t ≠ d := fun e => h (e ▸ hd)
  refine ⟨e1, ?_⟩
  by_cases e2 : t = n
  ·rw [e2, tn]; simp
  ·rw [tt e1 e2]; exact h
 have hle : TokLe ⟨w, S, fun k => box k ≠ none, β, tok, τ⟩ ⟨w, S, fun k => box k ≠ none, β, tok', fun t => if t = d then u else τ t⟩ := fun t ht => by
  obtain ⟨e1, h1⟩ := used ht
  refine ⟨h1, fun tk' h' => ?_⟩
  have h' : tok' t = some (.live tk') := h'
  have eτ : (if t = d then u else τ t) = τ t := if_neg e1
  by_cases e2 : t = n
  ·subst e2
   rw [tn] at h'; cases h'
   exact ⟨tk, htk, eτ, rfl, fun h => ⟨h, rfl⟩⟩
  ·rw [tt e1 e2] at h'
   exact ⟨tk', h', eτ, rfl, fun h => ⟨h, rfl⟩⟩
 refine ⟨b, _, cap, u, ev, hcell, hu1, F', ?_, by rw [← htok']; exact hle⟩
 rw [← htok']
 have noS := hk.noS htr
 refine ⟨hM.upd, hM.old, hM.new, hM.keep, hM.lt, fun k bx hbx => ?_, hM.binj, fun t tk1 ht => ?_, fun t t' tk1 tk2 k h1 h2 f1 f2 => ?_, fun t tk1 k bx ht hbx hF => ?_, hM.bfix, fun t v tk1 hv ht => ?_, fun m tkm hs1 i1 o1 d1 hm1 htr1 hin => ?_⟩
 ·obtain ⟨h1, h2, h2', hBx⟩ := hM.boxes k bx hbx
  exact ⟨h1, h2, h2', hBx.imp rfl fun x v hx => ⟨V1.mono (c := ⟨w, S, fun k => box k ≠ none, β, tok, τ⟩) (c' := ⟨w, S, fun k => box k ≠ none, β, tok', fun t => if t = d then u else τ t⟩) ⟨fun _ _ h => h, fun _ _ _ => rfl⟩ (BoxLe.refl rfl rfl) hle hx.1, hx.2⟩⟩
 ·by_cases e1 : t = d
  ·subst e1
   rw [td] at ht; cases ht
   rw [fd, if_pos rfl]
   exact .ofDeep hD (fun b' hb' => hk.1 b' (hq i o b' hb').1) (fun b' hb' => noS b' (hq i o b' hb').1) e
  ·rw [if_neg e1]
   by_cases e2 : t = n
   ·subst e2
    rw [tn] at ht; cases ht
    rw [fn]
    obtain ⟨h1, h2, h3⟩ := hk
    refine ⟨fun b' hb' => h1 b' hb'.1, ?_, ?_⟩
    ·rcases h2 with h2 | ⟨b2, cap2, vs2, T2, e3, h4, h5, h6, h7, h8, h9, h10, h11⟩
     ·exact .inl h2
     ·have e4 := e3
      rw [ev] at e4
      have e5 : b = b2 := by cases e4; rfl
      refine .inr ⟨b2, cap2, vs2, T2, e3, ⟨h4, fun hqb => (hq i o b2 hqb).2 e5.symm⟩, h5, h6, h7, h8, h9, h10, fun i2 j x2 p hx2 hp => ?_⟩
      obtain ⟨u2, k1, _, k3⟩ := h11 i2 j x2 p hx2 hp
      exact ⟨u2, k1, (fun h => by cases h), k3⟩
    ·unfold Once at h3 ⊢
     rw [htr] at h3
     obtain ⟨g1, g2, g3, _⟩ := h3
     refine ⟨g1, g2, fun b' hb' => g3 b' hb'.1, .inr ⟨b, cap, fun i2 j2 k => q i2 j2 k ∧ ¬ (i2 = i ∧ j2 = o), ev, fun i2 j2 k hk => ⟨⟨(hq i2 j2 k hk.1).1, fun hqk => hk.2 (hdj i2 j2 i o k hk.1 hqk)⟩, (hq i2 j2 k hk.1).2⟩, fun i2 j2 i3 j3 k h4 h5 => hdj i2 j2 i3 j3 k h4.1 h5.1, fun i2 j2 x2 c2 hx2 hc2 => ?_⟩⟩
     obtain ⟨u2, k1, k2, k3⟩ := hcc i2 j2 x2 c2 hx2 hc2
     refine ⟨u2, by rw [cell_of_row w b _ vs T (0, 0) hg]; exact k1, k2, fun hnot => ?_⟩
     have hnb : ¬ (i2 = i ∧ j2 = o) := fun ⟨e3, e4⟩ => hnot d (by rw [e3, e4]; exact List.mem_cons_self)
     exact (k3 fun d' hin => hnot d' (List.mem_cons_of_mem _ hin)).mono fun k hqk => ⟨hqk, hnb⟩
   ·rw [tt e1 e2] at ht
    rw [ft e1 e2]
    exact hM.toks t tk1 ht
 ·obtain ⟨m1, tk3, g1, g2, g3⟩ := own h1
  obtain ⟨m2, tk4, g4, g5, g6⟩ := own h2
  have em := hM.tdis m1 m2 tk3 tk4 k g1 g4 (g2 k f1) (g5 k f2)
  rcases g3 with ⟨e1, e2⟩ | ⟨e1, e2⟩ <;> rcases g6 with ⟨e3, e4⟩ | ⟨e3, e4⟩
  ·rw [e1, e3]
  ·exfalso
   have : t' = n := by rw [← e4, ← em, e2]
   rw [e1, fd] at f1
   rw [this, fn] at f2
   exact f2.2 f1
  ·exfalso
   have : t = n := by rw [← e2, em, e4]
   rw [e3, fd] at f2
   rw [this, fn] at f1
   exact f1.2 f2
  ·rw [← e2, ← e4]; exact em
 ·obtain ⟨m1, tk3, g1, g2, _⟩ := own ht
  exact hM.tbox m1 tk3 k bx g1 hbx (g2 _ hF)
 ·by_cases e1 : t = d
  ·subst e1; rw [htn] at hv; cases hv
  ·rw [if_neg e1]
   by_cases e2 : t = n
   ·subst e2; exact hM.tfix t v tk hv htk
   ·rw [tt e1 e2] at ht; exact hM.tfix t v tk1 hv ht
 ·have old : ∀ m tkm hs1, m ≠ d → tok m = some (.live tkm) → tkm.tr = some hs1 → (i1, o1, d1) ∈ hs1 → tok' d1 ≠ none ∧ ∀ td1, tok' d1 = some (.live td1) → ∃ b l cap, (if m = d then u else τ m) = .slice (some ⟨b, 0, none⟩) l cap ∧ w.cell? ⟨b, i1 * tkm.t.w + o1, none⟩ = some (if d1 = d then u else τ d1) := fun m tkm hs1 hmd h1 h2 h3 => by
   obtain ⟨g1, g2⟩ := hM.hol m tkm hs1 i1 o1 d1 h1 h2 h3
   obtain ⟨e1, g3⟩ := used g1
   refine ⟨g3, fun td1 h4 => ?_⟩
   rw [if_neg hmd, if_neg e1]
   by_cases e2 : d1 = n
   ·exact g2 tk (e2 ▸ htk)
   ·rw [tt e1 e2] at h4; exact g2 td1 h4
  by_cases e1 : m = d
  ·subst e1
   rw [td] at hm1; cases hm1
   exfalso
   simp only at htr1
   cases hf : r.flatB with
   | true => rw [hf] at htr1; cases htr1
   | false => rw [hf] at htr1; cases htr1; cases hin
  ·by_cases e2 : m = n
   ·subst e2
    rw [tn] at hm1; cases hm1
    simp only [Option.some.injEq] at htr1
    subst htr1
    rcases List.mem_cons.1 hin with h1 | h1
    ·cases h1
     refine ⟨by rw [td]; simp, fun _ _ => ⟨b, _, cap, by rw [if_neg e1]; exact ev, by rw [if_pos rfl]; exact hcell⟩⟩
    ·exact old m tk hs e1 htk htr h1
   ·rw [tt e1 e2] at hm1
    exact old m tkm hs1 e1 hm1 htr1 hin
section
variable {E : Env} {o : Oper} {s : LSt} {e : Eff} {fp : FP}
theorem jbE (T : TypeId) (x : Operand) (ho : o.op = .load T x) (ty : Ty) (hT : TyOk E.P T ty) (hagg : ty.agg = false) (a : Act) (w : World) (ad : Addr) (hp : a.eval x = .pointer (some ad)) (u : Value) (hu : w.cell? ad = some u) : (execOp a.eval o).run E.P w = .ok (.value u) w := by
 obtain ⟨d, hd1, hd2⟩ := hT.desc
 simp only [execOp, ho, Instr.loadAt, hp, Instr.sureAddr, Sem.run_bind, Sem.run_pure, Result.andThen_ok]
 rw [loadVar_one hd1 (hd2.trans hagg) w _ u hu]
 rfl
theorem jgd {o : Nat} : ∀ {hs : List (Nat × Nat × Nat)} {i d : Nat}, findHole o hs = some (i, d) → (i, o, d) ∈ hs
 | [], _, _, h => by cases h
 | (i1, o1, d1) :: hs, i, d, h => by
  simp only [findHole] at h
  cases he : Nat.beq o1 o with
  | true =>
   rw [he] at h
   simp only [cond, Option.some.injEq, Prod.mk.injEq] at h
   obtain ⟨rfl, rfl⟩ := h
   rw [Nat.eq_of_beq_eq_true he]
   exact List.mem_cons_self
  | false =>
   rw [he] at h
   exact List.mem_cons_of_mem _ (jgd h)
theorem jcy {o : Nat} : ∀ {hs : List (Nat × Nat × Nat)}, findHole o hs = none → ∀ i d, (i, o, d) ∉ hs
 | [], _, i, d, hin => by cases hin
 | (i1, o1, d1) :: hs, h, i, d, hin => by
  simp only [findHole] at h
  cases he : Nat.beq o1 o with
  | true => rw [he] at h; cases h
  | false =>
   rw [he] at h
   rcases List.mem_cons.1 hin with h1 | h1
   ·cases h1; rw [Nat.beq_refl] at he; cases he
   ·exact jcy h i d h1
theorem jnp (hE : EnvOk E) (T : TypeId) (x : Operand) (ho : o.op = .load T x) (ty : Ty) (n i q : Nat) (tk : Tok) (hs : List (Nat × Nat × Nat)) (hty : E.ty T = some ty) (hx : s.ev x = .mptr n i q) (htk : lookT s.T n = some (.live tk)) (htr : tk.tr = some hs)
  (h : (loadTree E o.dst ty n i q tk hs).R s [] [n] e fp) : Sim E o s e := by
 have hT := hE.ty T ty hty
 unfold loadTree at h
 split at h
 ·exact h.elim
 rename_i hagg
 have hagg : ty.agg = false := by simpa using hagg
 obtain ⟨y, hy, h⟩ := h
 have hi : i < tk.xs.length := (List.getElem?_eq_some_iff.1 hy).1
 simp only at h
 split at h
 ·rename_i r xv hcell
  split at h
  ·rename_i i' d' hfh
   obtain ⟨rfl, h⟩ := h
   simp only [RD.R] at h
   split at h
   case h_2 => exact h.elim
   rename_i td htd
   cases val_R h
   refine sim_look fun R β τ F S a w hM hev => ?_
   have h1 := hev x; rw [hx] at h1
   obtain ⟨g1, g2, g3⟩ := v3_mptr h1
   obtain ⟨b, l, cap, e1, e2, e3⟩ := g3 tk htk
   obtain ⟨k1, k2⟩ := hM.hol n tk hs i' q d' htk htr (jgd hfh)
   obtain ⟨b', l', cap', e4, e5⟩ := k2 td htd
   rw [show (s.ctx w S β τ).τ n = τ n from rfl, e4] at e1
   cases e1
   refine ⟨τ d', jbE T x ho ty hT hagg a w _ e3 _ e5, ?_⟩
   refine ⟨?_, k1, fun _ _ => rfl⟩
   exact (hM.toks d' td htd).cell
  ·rename_i hfh
   split at h
   case h_2 => exact h.elim
   rename_i d e' r0 by0 hdst hel
   simp only [RD.R] at h
   split at h
   case h_2 => exact h.elim
   rename_i hd
   split at h
   ·exact h.elim
   rename_i hres
   obtain ⟨rfl, _⟩ := h
   rintro R a w hR0 ⟨β, τ, F, S, hM, hn, hdf, hsl⟩ K Q hK
   have hev := V3_ev hsl
   have h1 := hev x; rw [hx] at h1
   obtain ⟨g1, g2, g3⟩ := v3_mptr h1
   obtain ⟨b, l, cap, e1, e2, e3⟩ := g3 tk htk
   obtain ⟨b', l', cap', u, e4, e5, e6, F', hM', hle⟩ := hM.split n tk hs htk htr i q y hy r xv hcell (jcy hfh i) d hd (hR0.tn (by simpa using hres)) e'
   rw [show (s.ctx w S β τ).τ n = τ n from rfl, e4] at e1
   cases e1
   have hrun := jbE (E := E) T x ho ty hT hagg a w _ e3 u e5
   refine wp_value hrun (hK _ _ (rel_put (e := ⟨.mtk d, [], [(n, some (.live { tk with tr := some ((i, q, d) :: hs) })), (d, some (.live ⟨r, xv, e', true, true, bif r.flatB then none else some []⟩))]⟩) hM' hn hdf ?_ o.dst (.inr ?_)))
   ·exact jy (c := s.ctx w S β τ) (c' := ⟨w, S, fun k => lookB s.B k ≠ none, β, updT (updT (lookT s.T) n (some (.live { tk with tr := some ((i, q, d) :: hs) }))) d (some (.live ⟨r, xv, e', true, true, bif r.flatB then none else some []⟩)), fun t => if t = d then u else τ t⟩) ⟨fun _ _ h => h, fun _ _ _ => rfl⟩ (BoxLe.refl rfl rfl) hle hsl
   ·refine ⟨e6, ?_, fun tk' _ => ?_⟩
    ·show updT _ d _ d ≠ none
     simp [updT]
    ·show u = if d = d then u else τ d
     rw [if_pos rfl]
 ·rename_i t xv hnsl hcell
  split at h
  case isFalse => exact h.elim
  rename_i hfl
  split at h
  case h_2 => exact h.elim
  rename_i hfh
  cases val_R h
  refine sim_look fun R β τ F S a w hM hev => ?_
  have h1 := hev x; rw [hx] at h1
  obtain ⟨g1, g2, g3⟩ := v3_mptr h1
  obtain ⟨b, l, cap, e1, e2, e3⟩ := g3 tk htk
  obtain ⟨b', cap', vs, T', qf, ev, hb, hg, hz, hnc, hm, hq, hdj, hcc⟩ := (hM.toks n tk htk).openTree htr hi
  rw [show (s.ctx w S β τ).τ n = τ n from rfl, ev] at e1
  cases e1
  obtain ⟨u, k1, k2, k3⟩ := hcc i q y _ hy hcell
  have hD := k3 (jcy hfh i)
  refine ⟨u, jbE T x ho ty hT hagg a w _ e3 u (by rw [cell_of_row w b _ vs T' (0, 0) hg]; exact k1), ?_⟩
  obtain ⟨t0, x0, p0, e4, e5, e6⟩ := hD.rep (S := fun _ _ => True) (fun _ _ _ => True.intro)
  cases e4
  have hl := flat_isLit t xv hfl p0 (by rw [e5]; simp)
  exact ⟨p0, e5, jdQ e6 hl⟩
 ·exact h.elim
end
end Go.Proofs.YtcjbjmbialienaaGreatDoor
