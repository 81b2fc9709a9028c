/- The engine, twentieth part: operations that do not touch each other. -/
import Derived.Test.YtcjbjmbialienaaGreatDoorK19
set_option linter.unusedSimpArgs false
set_option linter.unusedVariables false
namespace Go.Proofs.YtcjbjmbialienaaGreatDoor
open Go.RowKit
theorem jou (E : Env) (op : Op) (dst : Option Nat) {ρ ρ' : Operand → AV} (h : ∀ x, x ∈ op.operands → ρ x = ρ' x) : opRD E op dst ρ = opRD E op dst ρ' := by
 have pairs : ∀ ps : Array (Nat × Operand), (∀ x, x ∈ (ps.toList.map (·.2)).toArray → ρ x = ρ' x) → (ps.toList.map fun q => (q.1, ρ q.2)) = (ps.toList.map fun q => (q.1, ρ' q.2)) := fun ps hp =>
  List.map_congr_left fun q hq => by
   rw [hp q.2 (by simp; exact ⟨q.1, by simpa using hq⟩)]
 cases op
 case call c =>
  have hin : ∀ x, x ∈ c.args.toList → ρ x = ρ' x := fun x hx => h x (by simp [Op.operands, Call.operands]; exact .inr (by simpa using hx))
  have hargs : c.args.toList.map ρ = c.args.toList.map ρ' := List.map_congr_left fun x hx => hin x hx
  cases hc : c.callee with
  | value g =>
   have hg : ρ g = ρ' g := h g (by simp [Op.operands, Call.operands, hc])
   simp only [opRD, hc, hg, hargs]
  | invoke r m => simp only [opRD, hc]
  | builtin b =>
   simp only [opRD, hc]
   rcases hl : c.args.toList with _ | ⟨x, _ | ⟨y, _ | ⟨z, l⟩⟩⟩
   ·cases b <;> (first | rfl | (cases dst <;> rfl))
   ·have hx := hin x (by rw [hl]; simp)
    generalize c.argTypes[0]? = at0
    cases b <;> (first | rfl | (cases at0 <;> first | rfl | simp only [hx]) | (cases dst <;> rfl))
   ·have hx := hin x (by rw [hl]; simp)
    have hy := hin y (by rw [hl]; simp)
    generalize c.argTypes.toList = at1
    cases b <;> (first | rfl | (simp only [hx, hy]; done) | (cases dst <;> rcases at1 with _ | ⟨t1, _ | ⟨t2, _ | ⟨t3, l⟩⟩⟩ <;> first | rfl | (simp only [hx, hy]; done)))
   ·rcases l with _ | ⟨u, l⟩
    ·have hx := hin x (by rw [hl]; simp)
     have hy := hin y (by rw [hl]; simp)
     have hz := hin z (by rw [hl]; simp)
     cases b <;> (first | rfl | (cases dst <;> rfl) | (simp only [hx, hy, hz]; done))
    ·cases b <;> (first | rfl | (cases dst <;> rfl))
 all_goals simp only [Op.operands] at h
 all_goals simp only [opRD]
 case build t ps => rw [pairs ps h]
 case buildSlice t n ps => rw [pairs ps h]
 case makeFunc g first captured =>
  have hc : captured.toList.map ρ = captured.toList.map ρ' := List.map_congr_left fun x hx => h x (by simp; exact .inr (by simpa using hx))
  cases g with
  | func f => simp only [hc]
  | _ => rfl
 case slice t x lo hi mx => cases mx <;> cases lo <;> cases hi <;> simp_all
 all_goals (first | rfl | (simp_all; done))
theorem step1_move {E : Env} {all : Array Oper} {s s' : LSt} {o : Oper} {e : Eff} {fp : FP} (h : Step1 E all s o e fp) (hs : seen all s' o = seen all s o) (he : ∀ z, z ∈ o.op.operands → s'.ev z = s.ev z) (hb : ∀ k, k ∈ fp.rb → lookB s'.B k = lookB s.B k) (ht : ∀ t, t ∈ fp.rt → lookT s'.T t = lookT s.T t) : Step1 E all s' o e fp := by
 unfold Step1 at h ⊢
 rw [hs]
 have go : (opRD E o.op o.dst s.ev).R s [] [] e fp → (opRD E o.op o.dst s'.ev).R s' [] [] e fp := fun h => by
  rw [jou E o.op o.dst he]
  exact RD.R.move _ _ _ _ _ h hb ht
 cases hsn : seen all s o with
 | go => rw [hsn] at h; exact go h
 | pass => rw [hsn] at h; exact h
 | ask b want =>
  rw [hsn] at h
  simp only at h ⊢
  split at h
  ·rw [if_pos ‹_›]; exact go h
  ·rw [if_neg ‹_›]; exact h
 | stuck => rw [hsn] at h; exact h
theorem step1_writes {E : Env} {all : Array Oper} {s : LSt} {o : Oper} {e : Eff} {fp : FP} (h : Step1 E all s o e fp) : fp.wb = e.boxes ∧ fp.wt = e.toks := by
 have pass : e = skipEff ∧ fp = ⟨[], [], [], []⟩ → fp.wb = e.boxes ∧ fp.wt = e.toks := by rintro ⟨rfl, rfl⟩; exact ⟨rfl, rfl⟩
 unfold Step1 at h
 cases hsn : seen all s o with
 | go => rw [hsn] at h; exact RD.R.writes _ _ _ h
 | pass => rw [hsn] at h; exact pass h
 | ask b want =>
  rw [hsn] at h
  simp only at h
  split at h
  ·exact RD.R.writes _ _ _ h
  ·exact pass h
 | stuck => rw [hsn] at h; exact h.elim
structure Indep (all : Array Oper) (x y : Oper) (p q : FP) : Prop where
 xy : ∀ d, x.dst = some d → d ∉ y.looksAt all
 yx : ∀ d, y.dst = some d → d ∉ x.looksAt all
 dd : ∀ d, x.dst = some d → y.dst ≠ some d
 b1 : ∀ k, k ∈ p.wb → k ∉ q.rb
 b2 : ∀ k, k ∈ p.wb → k ∉ q.wb
 b3 : ∀ k, k ∈ q.wb → k ∉ p.rb
 t1 : ∀ k, k ∈ p.wt → k ∉ q.rt
 t2 : ∀ k, k ∈ p.wt → k ∉ q.wt
 t3 : ∀ k, k ∈ q.wt → k ∉ p.rt
theorem indep_of {all : Array Oper} {x y : Oper} {p q : FP} (h : indepB all x y p q = true) : Indep all x y p q := by
 simp only [indepB, FP.apart, Bool.and_eq_true] at h
 obtain ⟨ha, ⟨⟨⟨⟨h1, h2⟩, h3⟩, h4⟩, h5⟩, h6⟩ := h
 obtain ⟨a1, a2, a3⟩ := Oper.apart_spec ha
 exact ⟨a1, a3, a2, disjL_spec h1, disjL_spec h2, disjL_spec h3, disjL_spec h4, disjL_spec h5, disjL_spec h6⟩
theorem app_comm {s : LSt} {x y : Option Nat} {e f : Eff} (hd : ∀ d, x = some d → y ≠ some d) (hb : ∀ k, k ∈ e.boxes → k ∉ f.boxes) (ht : ∀ t, t ∈ e.toks → t ∉ f.toks) : Like ((s.app x e).app y f) ((s.app y f).app x e) := by
 refine ⟨getA_ext (by simp only [app_len]) (fun i => ?_), ?_, ?_⟩
 ·simp only [app_L, app_len]
  by_cases h1 : x = some i ∧ i < s.L.length
  ·have h2 : ¬ (y = some i ∧ i < s.L.length) := fun h => hd i h1.1 h.1
   simp only [if_neg h2, if_pos h1]
  ·by_cases h2 : y = some i ∧ i < s.L.length
   ·simp only [if_pos h2, if_neg h1]
   ·simp only [if_neg h2, if_neg h1]
 ·funext k
  simp only [app_B]
  by_cases h1 : k ∈ f.boxes
  ·have h2 : k ∉ e.boxes := fun h => hb k h h1
   rw [Eff.updB_out _ e k h2]
   exact Eff.updB_in f k h1 _ _
  ·rw [Eff.updB_out _ f k h1]
   by_cases h2 : k ∈ e.boxes
   ·exact Eff.updB_in e k h2 _ _
   ·rw [Eff.updB_out _ e k h2, Eff.updB_out _ e k h2, Eff.updB_out _ f k h1]
 ·funext k
  simp only [app_T]
  by_cases h1 : k ∈ f.toks
  ·have h2 : k ∉ e.toks := fun h => ht k h h1
   rw [Eff.updT_out _ e k h2]
   exact Eff.updT_in f k h1 _ _
  ·rw [Eff.updT_out _ f k h1]
   by_cases h2 : k ∈ e.toks
   ·exact Eff.updT_in e k h2 _ _
   ·rw [Eff.updT_out _ e k h2, Eff.updT_out _ e k h2, Eff.updT_out _ f k h1]
theorem step1_like {E : Env} {all : Array Oper} {s s' : LSt} {o : Oper} {e : Eff} {fp : FP} (h : Step1 E all s o e fp) (hl : Like s s') : Step1 E all s' o e fp :=
 step1_move h (by unfold seen; rw [hl.L]) (fun z _ => by rw [hl.ev]) (fun k _ => by rw [hl.B]) (fun t _ => by rw [hl.T])
theorem runs_like {E : Env} {all : Array Oper} : ∀ (l : List Oper) (s s1 s' : LSt) (fps : List FP), Runs E all l s s' fps → Like s s1 → ∃ s2, Runs E all l s1 s2 fps ∧ Like s' s2
 | [], s, s1, s', fps, h, hl => ⟨s1, ⟨rfl, h.2⟩, by rw [h.1]; exact hl⟩
 | o :: l, s, s1, s', fps, h, hl => by
  obtain ⟨e, fp, fps', h1, h2, h3⟩ := h
  obtain ⟨s2, h4, h5⟩ := runs_like l _ _ s' fps' h3 (hl.app o.dst e)
  exact ⟨s2, ⟨e, fp, fps', step1_like h1 hl, h2, h4⟩, h5⟩
theorem step1_swap {E : Env} {all : Array Oper} {s : LSt} {x y : Oper} {e f : Eff} {p q : FP} (hx : Step1 E all s x e p) (hy : Step1 E all (s.app x.dst e) y f q) (hi : Indep all x y p q) :
  Step1 E all s y f q ∧ Step1 E all (s.app y.dst f) x e p ∧ Like ((s.app x.dst e).app y.dst f) ((s.app y.dst f).app x.dst e) := by
 obtain ⟨wx1, wx2⟩ := step1_writes hx
 obtain ⟨wy1, wy2⟩ := step1_writes hy
 refine ⟨step1_move hy (seen_app hi.xy).symm (fun z hz => (ev_app hi.xy z hz).symm) (fun k hk => ?_) (fun t ht => ?_), step1_move hx (seen_app hi.yx) (ev_app hi.yx) (fun k hk => ?_) (fun t ht => ?_), app_comm hi.dd (fun k hk => ?_) (fun t ht => ?_)⟩
 ·rw [app_B]; exact (Eff.updB_out _ e k (fun h => hi.b1 k (wx1 ▸ h) hk)).symm
 ·rw [app_T]; exact (Eff.updT_out _ e t (fun h => hi.t1 t (wx2 ▸ h) ht)).symm
 ·rw [app_B]; exact Eff.updB_out _ f k (fun h => hi.b3 k (wy1 ▸ h) hk)
 ·rw [app_T]; exact Eff.updT_out _ f t (fun h => hi.t3 t (wy2 ▸ h) ht)
 ·exact wy1 ▸ hi.b2 k (wx1 ▸ hk)
 ·exact wy2 ▸ hi.t2 t (wx2 ▸ ht)
theorem runs_front {E : Env} {all : Array Oper} {y : Oper} {q : FP} : ∀ (l1 l2 : List Oper) (f1 f2 : List FP) (s s' : LSt), f1.length = l1.length → Runs E all (l1 ++ y :: l2) s s' (f1 ++ q :: f2) → (∀ (i : Nat) x p, l1[i]? = some x → f1[i]? = some p → Indep all x y p q) →
  ∃ e s'', Step1 E all s y e q ∧ Runs E all (l1 ++ l2) (s.app y.dst e) s'' (f1 ++ f2) ∧ Like s'' s'
 | [], l2, f1, f2, s, s', hl, h, _ => by
  have : f1 = [] := List.eq_nil_of_length_eq_zero hl
  subst this
  obtain ⟨e, fp, fps', h1, h2, h3⟩ := h
  simp at h2
  obtain ⟨rfl, rfl⟩ := h2
  exact ⟨e, s', h1, h3, Like.refl _⟩
 | x :: l1, l2, f1, f2, s, s', hl, h, hi => by
  match f1, hl with
  | p :: f1, hl =>
   obtain ⟨e, fp, fps', h1, h2, h3⟩ := h
   simp only [List.cons_append, List.cons.injEq] at h2
   obtain ⟨rfl, rfl⟩ := h2
   obtain ⟨f, s'', g1, g2, g3⟩ := runs_front l1 l2 f1 f2 _ s' (by simpa using hl) h3 (fun i x' p' hx hp => hi (i + 1) x' p' (by simpa using hx) (by simpa using hp))
   obtain ⟨k1, k2, k3⟩ := step1_swap h1 g1 (hi 0 x p rfl rfl)
   obtain ⟨s3, g4, g5⟩ := runs_like _ _ _ _ _ g2 k3
   exact ⟨f, s3, k1, ⟨e, p, f1 ++ f2, k2, rfl, g4⟩, g5.symm.trans g3⟩
end Go.Proofs.YtcjbjmbialienaaGreatDoor
