/- The engine, nineteenth part: every operation; regions in the text's order. -/
import Derived.Test.YtcjbjmbialienaaGreatDoorKU
set_option linter.unusedSimpArgs false
set_option linter.unusedVariables false
namespace Go.Proofs.YtcjbjmbialienaaGreatDoor
open Go.RowKit
section
variable {E : Env} {o : Oper} {s : LSt} {e : Eff} {fp : FP}
theorem jpz (hE : EnvOk E) (h : (opRD E o.op o.dst s.ev).R s [] [] e fp) : Sim E o s e := by
 cases hop : o.op with
 | move x => rw [hop] at h; cases val_R h; exact sim_move x (.inl hop)
 | assign x => rw [hop] at h; cases val_R h; exact sim_move x (.inr hop)
 | pick c a b => exact sim_pick c a b hop h
 | alloc T => exact jkF hE T hop h
 | box T x => exact jlo T x hop h
 | build T parts => exact jly hE T parts hop h
 | buildSlice T len parts => exact joN hE T len parts hop (fun d ty e' r by' cs xs h1 h2 h3 h4 h5 h6 h7 h8 h9 => jr6 hE T len parts hop d ty e' r by' cs xs h1 h2 h3 h4 h5 h6 h7 h8 h9) h
 | load T x => exact sim_load hE T x hop (fun ty n i q tk hs h1 h2 h3 h4 h5 => jnp hE T x hop ty n i q tk hs h1 h2 h3 h4 h5) (fun y k h1 h2 => jsy y k h1 h2) (fun ty g h1 h2 h3 => jmm hE T x hop ty g h1 h2 h3) h
 | store T x y => exact jl6 hE T x y hop (fun ty n i q tk hs ys h1 h2 h3 h4 h5 h6 h7 h8 => jqU hE T x y hop ty n i q tk hs ys h1 h2 h3 h4 h5 h6 h7 h8) h
 | makeSlice T l c => exact jph hE T l c hop h
 | nilCheck x => exact jri x hop h
 | binOp op T x y t =>
  have h' := h
  rw [hop] at h'
  simp only [opRD] at h'
  split at h'
  ·rename_i xs ys hag
   exact jpY hE op T x y t hop xs ys hag h'
  ·exact jpd hE op T x y t hop h'
 | unOp op T x => exact jsR op T x hop h
 | fieldAddr T x f => exact jl3 hE T x f hop h
 | field T x f => exact jn6 hE T x f hop h
 | indexAddr T x i => exact jkq hE T x i hop h
 | index T x i => exact jpc hE T x i hop h
 | extract x i => exact jld x i hop h
 | makeFunc g first captured =>
  cases g with
  | func f => exact jqH f first captured hop h
  | _ => rw [hop] at h; exact h.elim
 | convert S T x => exact jpg hE S T x hop h
 | slice T x lo hi mx =>
  cases mx with
  | none => exact js1 hE T x lo hi hop h
  | some _ => rw [hop] at h; exact h.elim
 | call c =>
  cases hc : c.callee with
  | value g => exact sim_call hE c hop g hc h
  | invoke r m => rw [hop] at h; simp only [opRD, hc] at h; exact h.elim
  | builtin b =>
   by_cases h1 : b = .len
   ·exact jqu hE c hop (by rw [hc, h1]) h
   by_cases h2 : b = .min
   ·exact jfH c hop false (by rw [hc, h2]; rfl) h
   by_cases h3 : b = .max
   ·exact jfH c hop true (by rw [hc, h3]; rfl) h
   by_cases h4 : b = .append
   ·exact jkN hE c hop (by rw [hc, h4]) (fun d x y T ty e' r by' t tk a1 a2 a3 a4 a5 a6 a7 a8 a9 a10 => jq5 hE c hop (by rw [hc, h4]) d x y T ty e' r by' t tk a1 a2 a3 a4 a5 a6 a7 a8 a9 a10) h
   rw [hop] at h
   simp only [opRD, hc] at h
   split at h
   ·rename_i e; cases e
   ·rename_i e; cases e; exact absurd rfl h1
   ·rename_i e; cases e; exact absurd rfl h2
   ·rename_i e; cases e; exact absurd rfl h3
   ·rename_i e; cases e; exact absurd rfl h4
   ·exact h.elim
 | makeMap T r =>
  cases r with
  | none => exact jpA T hop h
  | some _ => rw [hop] at h; exact h.elim
 | lookup T x i ok =>
  have h' := h
  rw [hop] at h'
  simp only [opRD] at h'
  split at h'
  ·rename_i g hg
   exact jmF hE T x i ok hop g (jk3 hg) h'
  ·exact jof hE T x i ok hop h'
 | mapUpdate T x i y => exact jpw hE T x i y hop h
 | _ => rw [hop] at h; exact h.elim
end
inductive Seen where
 | go
 | pass
 | ask (b want : Bool)
 | stuck
def seen (all : Array Oper) (s : LSt) (o : Oper) : Seen :=
 match o.guard with
 | none => .go
 | some (j, want) => match (all[j]?).bind (·.dst) with
  | none => .pass
  | some t => match getA s.L t with
   | .pv .bool b => .ask b want
   | .tup [] => .pass
   | _ => .stuck
def Step1 (E : Env) (all : Array Oper) (s : LSt) (o : Oper) (e : Eff) (fp : FP) : Prop :=
 match seen all s o with
 | .go => (opRD E o.op o.dst s.ev).R s [] [] e fp
 | .pass => e = skipEff ∧ fp = ⟨[], [], [], []⟩
 | .ask b want => if b = want then (opRD E o.op o.dst s.ev).R s [] [] e fp else e = skipEff ∧ fp = ⟨[], [], [], []⟩
 | .stuck => False
def Runs (E : Env) (all : Array Oper) : List Oper → LSt → LSt → List FP → Prop
 | [], s, s', fps => s' = s ∧ fps = []
 | o :: l, s, s', fps => ∃ e fp fps', Step1 E all s o e fp ∧ fps = fp :: fps' ∧ Runs E all l (s.app o.dst e) s' fps'
theorem jm2 {all : Array Oper} {c : Ctx} {s : LSt} {a : Act} (h : ∀ i, V3 c (getA s.L i) (a.tmps.getD i undef)) (o : Oper) :
  (seen all s o = .go → Region.wanted o (yielded all a.tmps) = true) ∧ (seen all s o = .pass → Region.wanted o (yielded all a.tmps) = false) ∧ ∀ b want, seen all s o = .ask b want → Region.wanted o (yielded all a.tmps) = (b == want) := by
 unfold seen Region.wanted
 cases hg : o.guard with
 | none => exact ⟨fun _ => rfl, nofun, nofun⟩
 | some gw =>
  obtain ⟨j, want⟩ := gw
  simp only
  cases hd : (all[j]?).bind (·.dst) with
  | none =>
   refine ⟨nofun, fun _ => ?_, nofun⟩
   simp [yielded, hd]
  | some t =>
   have ht := h t
   simp only
   cases hsl : getA s.L t with
   | pv tp y =>
    cases tp with
    | bool =>
     rw [hsl] at ht
     have hv : a.tmps.getD t undef = .bool y := v3_bool ht
     have hv2 : a.tmps[t]? = some (.bool y) := by
      by_cases hl : t < a.tmps.size
      ·simp [Array.getD, hl] at hv; simp [hl, hv]
      ·simp [Array.getD, hl, undef] at hv
     refine ⟨nofun, nofun, fun b' want' h => ?_⟩
     cases h
     simp [yielded, hd, hv2]
    | _ => exact ⟨nofun, nofun, nofun⟩
   | tup cs =>
    cases cs with
    | nil =>
     rw [hsl] at ht
     obtain ⟨vs, hv, ha⟩ := ht
     have hvs : vs = [] := by cases vs with
      | nil => rfl
      | cons _ _ => exact ha.elim
     subst hvs
     refine ⟨nofun, fun _ => ?_, nofun⟩
     have : yielded all a.tmps j = none := by
      unfold yielded
      rw [hd]
      by_cases hl : t < a.tmps.size
      ·simp [Array.getD, hl] at hv; simp [hl, hv]
      ·simp [hl]
     simp [this]
    | cons _ _ => exact ⟨nofun, nofun, nofun⟩
   | _ => exact ⟨nofun, nofun, nofun⟩
theorem jif {E : Env} (hE : EnvOk E) {all : Array Oper} {s : LSt} {o : Oper} {e : Eff} {fp : FP} (h : Step1 E all s o e fp) {i : Nat} (hi : all[i]? = some o) {R : Root} (hR0 : ROk E R) {a : Act} {w : World} (hR : Rel R s a w) {Q : Exit → Act → World → Prop} {K : Act → World → Prop}
  (hK : ∀ a' w', Rel R (s.app o.dst e) a' w' → K a' w') : wpOp E.P all Q i K a w := by
 have hR' := hR
 obtain ⟨β, τ, F, S, hM, hn, hdf, hs⟩ := hR
 obtain ⟨y1, y2, y3⟩ := jm2 (all := all) hs o
 have go : Region.wanted o (yielded all a.tmps) = true → (opRD E o.op o.dst s.ev).R s [] [] e fp → wpOp E.P all Q i K a w := fun hw hr => by
  unfold Go.wpOp
  simp only [hi, hw, if_true]
  exact .inl (jpz hE hr R a w hR0 hR' K Q hK)
 have pass : Region.wanted o (yielded all a.tmps) = false → e = skipEff → wpOp E.P all Q i K a w := fun hw he => by
  subst he
  unfold Go.wpOp
  simp only [hi, hw, Bool.false_eq_true, if_false]
  exact hK _ _ (rel_put (s := s) (e := skipEff) hM hn hdf hs o.dst (.inr ⟨[], rfl, True.intro⟩))
 unfold Step1 at h
 cases hsn : seen all s o with
 | go => rw [hsn] at h; exact go (y1 hsn) h
 | pass => rw [hsn] at h; exact pass (y2 hsn) h.1
 | ask b want =>
  rw [hsn] at h
  have hw := y3 b want hsn
  simp only at h
  split at h
  ·exact go (by rw [hw]; simpa using ‹b = want›) h
  ·exact pass (by rw [hw]; simpa using ‹¬ b = want›) h.1
 | stuck => rw [hsn] at h; exact h.elim
theorem jgm {E : Env} (hE : EnvOk E) {all : Array Oper} {Q : Exit → Act → World → Prop} {R : Root} (hR0 : ROk E R) : ∀ (l : List Oper) (k : Nat), all.toList.drop k = l → ∀ (s s' : LSt) (fps : List FP), Runs E all l s s' fps → ∀ a w, Rel R s a w → (∀ a' w', Rel R s' a' w' → Q .normal a' w') →
  wpOps E.P all Q ((List.range' k l.length)) a w
 | [], k, _, s, s', fps, h, a, w, hR, hQ => by rw [h.1] at hQ; exact hQ a w hR
 | o :: l, k, hk, s, s', fps, h, a, w, hR, hQ => by
  obtain ⟨e, fp, fps', h1, _, h3⟩ := h
  have hi : all[k]? = some o := by
   have : (all.toList.drop k)[0]? = some o := by rw [hk]; rfl
   simpa using this
  rw [List.length_cons, List.range'_succ, wpOps_cons]
  refine jif hE h1 hi hR0 hR (fun a' w' hR' => jgm hE hR0 l (k + 1) ?_ _ s' fps' h3 a' w' hR' hQ)
  rw [← List.tail_drop, hk]; rfl
def jaa (a b : List Nat) : Bool := a.all fun x => !b.contains x
def FP.apart (p q : FP) : Bool := jaa p.wb q.rb && jaa p.wb q.wb && jaa q.wb p.rb && jaa p.wt q.rt && jaa p.wt q.wt && jaa q.wt p.rt
def indepB (all : Array Oper) (x y : Oper) (p q : FP) : Bool := Oper.apart all x y && p.apart q
theorem disjL_spec {a b : List Nat} (h : jaa a b = true) : ∀ x, x ∈ a → x ∉ b := fun x hx hb => by
 have := List.all_eq_true.1 h x hx
 simp at this
 exact this hb
theorem Eff.updB_out (f : Nat → Option BS) (e : Eff) (k : Nat) (h : k ∉ e.boxes) : e.updB f k = f k := by
 unfold Eff.updB Eff.boxes at *
 revert f
 generalize e.box = l at h
 induction l with
 | nil => intro f; rfl
 | cons x l ih =>
  intro f
  simp only [List.map_cons, List.mem_cons, not_or] at h
  rw [List.foldl_cons, ih h.2]
  simp [Go.Proofs.YtcjbjmbialienaaGreatDoor.updB, h.1]
theorem Eff.updB_same (e : Eff) (k : Nat) : ∀ (f g : Nat → Option BS), f k = g k → e.updB f k = e.updB g k := by
 unfold Eff.updB
 generalize e.box = l
 induction l with
 | nil => intro f g h; exact h
 | cons x l ih =>
  intro f g h
  rw [List.foldl_cons, List.foldl_cons]
  refine ih _ _ ?_
  simp only [Go.Proofs.YtcjbjmbialienaaGreatDoor.updB, h]
theorem Eff.updB_in (e : Eff) (k : Nat) (h : k ∈ e.boxes) : ∀ (f g : Nat → Option BS), e.updB f k = e.updB g k := by
 unfold Eff.updB Eff.boxes at *
 revert h
 generalize e.box = l
 induction l with
 | nil => intro h; cases h
 | cons x l ih =>
  intro h f g
  rw [List.foldl_cons, List.foldl_cons]
  by_cases e1 : k = x.1
  ·have := Eff.updB_same ⟨.dead, l, []⟩ k (Go.Proofs.YtcjbjmbialienaaGreatDoor.updB f x.1 x.2) (Go.Proofs.YtcjbjmbialienaaGreatDoor.updB g x.1 x.2) (by simp [Go.Proofs.YtcjbjmbialienaaGreatDoor.updB, e1])
   exact this
  ·simp only [List.map_cons, List.mem_cons] at h
   exact ih (h.resolve_left e1) _ _
theorem Eff.updT_out (f : Nat → Option TS) (e : Eff) (k : Nat) (h : k ∉ e.toks) : e.updT f k = f k := by
 unfold Eff.updT Eff.toks at *
 revert f
 generalize e.tok = l at h
 induction l with
 | nil => intro f; rfl
 | cons x l ih =>
  intro f
  simp only [List.map_cons, List.mem_cons, not_or] at h
  rw [List.foldl_cons, ih h.2]
  simp [Go.Proofs.YtcjbjmbialienaaGreatDoor.updT, h.1]
theorem Eff.updT_same (e : Eff) (k : Nat) : ∀ (f g : Nat → Option TS), f k = g k → e.updT f k = e.updT g k := by
 unfold Eff.updT
 generalize e.tok = l
 induction l with
 | nil => intro f g h; exact h
 | cons x l ih =>
  intro f g h
  rw [List.foldl_cons, List.foldl_cons]
  refine ih _ _ ?_
  simp only [Go.Proofs.YtcjbjmbialienaaGreatDoor.updT, h]
theorem Eff.updT_in (e : Eff) (k : Nat) (h : k ∈ e.toks) : ∀ (f g : Nat → Option TS), e.updT f k = e.updT g k := by
 unfold Eff.updT Eff.toks at *
 revert h
 generalize e.tok = l
 induction l with
 | nil => intro h; cases h
 | cons x l ih =>
  intro h f g
  rw [List.foldl_cons, List.foldl_cons]
  by_cases e1 : k = x.1
  ·have := Eff.updT_same ⟨.dead, [], l⟩ k (Go.Proofs.YtcjbjmbialienaaGreatDoor.updT f x.1 x.2) (Go.Proofs.YtcjbjmbialienaaGreatDoor.updT g x.1 x.2) (by simp [Go.Proofs.YtcjbjmbialienaaGreatDoor.updT, e1])
   exact this
  ·simp only [List.map_cons, List.mem_cons] at h
   exact ih (h.resolve_left e1) _ _
theorem seen_app {all : Array Oper} {s : LSt} {x y : Oper} {e : Eff} (h : ∀ d, x.dst = some d → d ∉ y.looksAt all) : seen all (s.app x.dst e) y = seen all s y := by
 unfold seen
 cases hg : y.guard with
 | none => rfl
 | some gw =>
  obtain ⟨j, want⟩ := gw
  simp only
  cases hd : (all[j]?).bind (·.dst) with
  | none => rfl
  | some t =>
   have hne : ¬ (x.dst = some t ∧ t < s.L.length) := fun hh => h t hh.1 (by simp [Oper.looksAt, hg, hd])
   simp only [app_L, if_neg hne]
theorem ev_app {all : Array Oper} {s : LSt} {x y : Oper} {e : Eff} (h : ∀ d, x.dst = some d → d ∉ y.looksAt all) : ∀ z, z ∈ y.op.operands → (s.app x.dst e).ev z = s.ev z := by
 intro z hz
 cases z with
 | tmp t =>
  have hne : ¬ (x.dst = some t ∧ t < s.L.length) := fun hh => h t hh.1 (List.mem_append_left _ (List.mem_filterMap.2 ⟨.tmp t, by simpa using hz, rfl⟩))
  simp only [LSt.ev, app_L, if_neg hne]
 | _ => rfl
structure Like (s s' : LSt) : Prop where
 L : s'.L = s.L
 B : lookB s'.B = lookB s.B
 T : lookT s'.T = lookT s.T
theorem Like.refl (s : LSt) : Like s s := ⟨rfl, rfl, rfl⟩
theorem Like.trans {a b c : LSt} (h : Like a b) (k : Like b c) : Like a c := ⟨k.L.trans h.L, k.B.trans h.B, k.T.trans h.T⟩
theorem Like.symm {a b : LSt} (h : Like a b) : Like b a := ⟨h.L.symm, h.B.symm, h.T.symm⟩
theorem Like.rel {s s' : LSt} (h : Like s s') {R : Root} {a : Act} {w : World} (hr : Rel R s a w) : Rel R s' a w := by
 obtain ⟨β, τ, F, S, hM, hn, hd, hs⟩ := hr
 refine ⟨β, τ, F, S, by rw [h.B, h.T]; exact hM, by rw [h.L]; exact hn, hd, fun i => ?_⟩
 have : s'.ctx w S β τ = s.ctx w S β τ := by simp only [LSt.ctx, h.B, h.T]
 rw [this, h.L]; exact hs i
theorem Like.app {s s' : LSt} (h : Like s s') (d : Option Nat) (e : Eff) : Like (s.app d e) (s'.app d e) :=
 ⟨by simp only [LSt.app, h.L], by rw [app_B, app_B, h.B], by rw [app_T, app_T, h.T]⟩
theorem Like.ev {s s' : LSt} (h : Like s s') : s'.ev = s.ev := by
 funext z; cases z <;> simp only [LSt.ev, h.L]
theorem getA_ext : ∀ {L L' : List AV}, L.length = L'.length → (∀ i, getA L i = getA L' i) → L = L'
 | [], [], _, _ => rfl
 | x :: L, y :: L', hl, h => by
  have h0 := h 0
  simp only [getA] at h0
  rw [h0, getA_ext (by simpa using hl) (fun i => h (i + 1))]
 | [], _ :: _, hl, _ => by simp at hl
 | _ :: _, [], hl, _ => by simp at hl
end Go.Proofs.YtcjbjmbialienaaGreatDoor
