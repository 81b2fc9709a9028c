/- The engine, fifth part: contracts; operations that leave memory alone. -/
import Derived.Test.YtcjbjmbialienaaGreatDoorK4
import Derived.Great.BuildSlice
import Derived.IntWalk
set_option linter.unusedSimpArgs false
set_option linter.unusedVariables false
namespace Go.Proofs.YtcjbjmbialienaaGreatDoor
open Go.RowKit
def TypeDesc.isAgg : TypeDesc → Bool
 | .struct _ | .array _ _ => true
 | _ => false
def jbh (P : Program) (K : TypeId) : Tp → Prop
 | .int k => P.underlying K = some (.int k)
 | .str => P.underlying K = some .string
 | _ => False
def MapTy (P : Program) (t K V : TypeId) (kt vt : Tp) : Prop :=
 P.underlying t = some (.map K V) ∧ jbh P K kt ∧ ∃ i z, P.info? V = some i ∧ zeroT vt = some z ∧ i.zero = some (litV vt z)
def rowV (agg : Bool) (t : Tp) (x : t.D) : Value := bif agg then .agg ((enc t x).map litOf).toArray else litV t x
def GMapTy (P : Program) (t K V : TypeId) (kt vt : Tp) (agg : Bool) : Prop :=
 P.underlying t = some (.map K V) ∧ jbh P K kt ∧ vt.flatB = true ∧ (agg = false → vt.w = 1) ∧ ∃ i z, P.info? V = some i ∧ zeroD vt = some z ∧ i.zero = some (rowV agg vt z)
def GFOk (W : World) (X : Nat → Prop) (S : Stab) (g : Nat) : GF → Prop
 | .row t x => CellsAt W S g 0 (enc t x)
 | .map kt vt agg es => S g 0 ∧ ∃ b ents clk es', W.cell? ⟨g, 0, none⟩ = some (.map (some b)) ∧ W.heap[b]? = some (.map ents clk) ∧ (ents.toList.map (fun e => (e.key, e.val)) = es'.map (fun x => (litV kt x.1, rowV agg vt x.2)) ∧ es'.Perm es ∧ ∀ k, mget kt vt es' k = mget kt vt es k) ∧ ¬ X b
def GlobOk (W : World) (X : Nat → Prop) (S : Stab) : Prop := ∀ g f, lookG gtab g = some f → GFOk W X S g f
theorem GlobOk.sub {W : World} {X X' : Nat → Prop} {S : Stab} (h : GlobOk W X S) (hX : ∀ b, X' b → X b) : GlobOk W X' S := by
 intro g f hf
 have := h g f hf
 cases f with
 | row t x => exact this
 | map kt vt agg es =>
  obtain ⟨h1, b, ents, clk, es', h2, h3, h4, h5⟩ := this
  exact ⟨h1, b, ents, clk, es', h2, h3, h4, fun hx => h5 (hX b hx)⟩
theorem GlobOk.later {R : Root} {w : World} {S : Stab} {box : Nat → Option BS} {tok : Nat → Option TS} {β : Nat → Nat} {τ : Nat → Value} {F : Nat → Nat → Prop} (h : GlobOk R.W R.X R.S0) (hM : Mem R box tok β τ F S w) {X' : Nat → Prop} {S' : Stab} (hS : ∀ b o, S b o → S' b o) (hX : ∀ b, X' b → R.fr b) : GlobOk w X' S' := by
 intro g f hf
 have := h g f hf
 have hc : ∀ b o, R.S0 b o → w.cell? ⟨b, o, none⟩ = R.W.cell? ⟨b, o, none⟩ := hM.keep
 cases f with
 | row t x => exact CellsAt.mono (fun b o h => hS b o (hM.old b o h)) hc this
 | map kt vt agg es =>
  obtain ⟨h1, b, ents, clk, es', h2, h3, h4, h5⟩ := this
  have hb : b < R.W.heap.size := lt_of_at h3
  refine ⟨hS _ _ (hM.old _ _ h1), b, ents, clk, es', (hc g 0 h1).trans h2, (hM.upd.block b hb h5).trans h3, h4, fun hx => ?_⟩
  rcases hX b hx with h | h
  ·omega
  ·exact h5 h
structure TyOk (P : Program) (t : TypeId) (ty : Ty) : Prop where
 desc : ∃ d, P.underlying t = some d ∧ TypeDesc.isAgg d = ty.agg
 info : ∃ i z, P.info? t = some i ∧ i.size = ty.size ∧ i.zero = some z ∧ z.cells.size = ty.size ∧ ∀ c, All2 (V1c c) ty.zero z.cells.toList
 elem : ∀ e r by', ty.elem = some (e, r, by') → P.underlying t = some (.slice e) ∧ 0 < r.w ∧ ∃ ie z, P.info? e = some ie ∧ ie.size = r.w ∧ ie.bytes = by' ∧ ie.zero = some z ∧ z.cells.size = r.w
 offs : ty.offs ≠ [] → ∃ fields, P.underlying t = some (.struct fields) ∧ fields.toList.mapM (fun f => (P.info? f.type).map fun i => (f.offset, i.size)) = some ty.offs
 str : ty.str = true → P.underlying t = some .string
 bool : ty.bool = true → P.underlying t = some .bool
 int : ∀ k, ty.int = some k → P.underlying t = some (.int k)
 eqs : ∀ r, ty.eqs = some r → r.flatB = true ∧ P.eqGuardType P.depth t = false ∧ ∀ w (x y : r.D), (Op.equalIn 10000 t (.agg ((enc r x).map litOf).toArray) (.agg ((enc r y).map litOf).toArray)).run P w = .ok (r.eqB x y) w
 mp : ∀ K V kt vt, ty.mp = some (K, V, kt, vt) → MapTy P t K V kt vt
 ptr : ty.ptr = true → ∃ u, P.underlying t = some (.pointer u)
 fts : ty.fts ≠ [] → ∃ fields, P.underlying t = some (.struct fields) ∧ fields.toList.map (fun f => (f.type, f.offset)) = ty.fts
 gm : ∀ K V kt vt agg, ty.gm = some (K, V, kt, vt, agg) → GMapTy P t K V kt vt agg
def Enter (P : Program) (f : FuncId) : Prop := ∃ fn, P.funcs[f]? = some fn ∧ fn.name ≠ "runtime.NumGoroutine" ∧ fn.body.isNone = false
def lent (s : LSt) (β : Nat → Nat) (F : Nat → Nat → Prop) (b : Nat) : Prop := (∃ k x, lookB s.B k = some x ∧ β k = b) ∨ ∃ t tk, lookT s.T t = some (.live tk) ∧ F t b
def lentRoot (s : LSt) (β : Nat → Nat) (τ : Nat → Value) (F : Nat → Nat → Prop) (S : Stab) (w : World) : Root :=
 ⟨w, lent s β F, S, fun k => if (lookB s.B k).isSome then some (β k) else none, fun t => match lookT s.T t with | some (.live _) => some (τ t) | _ => none⟩
def FnC (P : Program) (f : FuncId) (s0 s1 : LSt) : Prop :=
 ∀ w S β τ F vs, GlobOk w (lent s0 β F) S → Mem (lentRoot s0 β τ F S w) (lookB s0.B) (lookT s0.T) β τ F S w → All2 (V3 (s0.ctx w S β τ)) s0.L vs →
  Calls P f vs.toArray w fun e w' => ∃ v β' τ' F' S', e = .returned v ∧ Mem (lentRoot s0 β τ F S w) (lookB s1.B) (lookT s1.T) β' τ' F' S' w' ∧ ∃ x, s1.L.head? = some x ∧ V3 (s1.ctx w' S' β' τ') x v
structure ModelOk (P : Program) (f : FuncId) (m : Model) : Prop where
 enter : Enter P f
 run : ∀ a r, m.run a = some r → FnC P f (m.arg.mk' a) (m.ret.mk' r)
structure EnvOk (E : Env) : Prop where
 mix : E.P.follows .mixedOrders = true
 ty : ∀ t y, E.ty t = some y → TyOk E.P t y
 fn : ∀ f m, m ∈ E.fn f → ModelOk E.P f m
def ROk (E : Env) (R : Root) : Prop := (∀ k, R.bn k ≠ none → E.res k = true) ∧ (∀ t, R.tn t ≠ none → E.res t = true) ∧ GlobOk R.W R.X R.S0
theorem ROk.bn {E : Env} {R : Root} (h : ROk E R) {k : Nat} (hk : E.res k = false) : R.bn k = none := by
 cases hb : R.bn k with
 | none => rfl
 | some b => have := h.1 k (by rw [hb]; simp); rw [hk] at this; cases this
theorem ROk.tn {E : Env} {R : Root} (h : ROk E R) {k : Nat} (hk : E.res k = false) : R.tn k = none := by
 cases hb : R.tn k with
 | none => rfl
 | some b => have := h.2.1 k (by rw [hb]; simp); rw [hk] at this; cases this
def RD.R : RD → LSt → List Nat → List Nat → Eff → FP → Prop
 | .ret e0, _, rb, rt, e, fp => e = e0 ∧ fp = ⟨rb, e0.boxes, rt, e0.toks⟩
 | .box k f, s, rb, rt, e, fp => (f (lookB s.B k)).R s (k :: rb) rt e fp
 | .tok t f, s, rb, rt, e, fp => (f (lookT s.T t)).R s rb (t :: rt) e fp
 | .need p _ f, s, rb, rt, e, fp => p ∧ f.R s rb rt e fp
 | .get o f, s, rb, rt, e, fp => ∃ x, o = some x ∧ (f x).R s rb rt e fp
 | .br b f g, s, rb, rt, e, fp => (b = true ∧ f.R s rb rt e fp) ∨ (b = false ∧ g.R s rb rt e fp)
 | .fail, _, _, _, _, _ => False
theorem RD.run_R {ρ : Type} {K : Eff → FP → Option ρ} {s : LSt} {z : ρ} : ∀ (r : RD) (rb rt : List Nat), r.run s rb rt K = some z → ∃ e fp, r.R s rb rt e fp ∧ K e fp = some z := by
 intro r
 induction r with
 | ret e => exact fun rb rt h => ⟨e, _, ⟨rfl, rfl⟩, h⟩
 | box k f ih => exact fun rb rt h => ih _ _ _ h
 | tok t f ih => exact fun rb rt h => ih _ _ _ h
 | need p d f ih =>
  intro rb rt h
  simp only [RD.run] at h
  by_cases hp : p
  ·rw [if_pos hp] at h
   obtain ⟨e, fp, h1, h2⟩ := ih _ _ h
   exact ⟨e, fp, ⟨hp, h1⟩, h2⟩
  ·rw [if_neg hp] at h; cases h
 | get o f ih =>
  intro rb rt h
  simp only [RD.run] at h
  cases o with
  | none => cases h
  | some x =>
   obtain ⟨e, fp, h1, h2⟩ := ih x _ _ h
   exact ⟨e, fp, ⟨x, rfl, h1⟩, h2⟩
 | br b f g ihf ihg =>
  intro rb rt h
  cases b with
  | true => obtain ⟨e, fp, h1, h2⟩ := ihf _ _ h; exact ⟨e, fp, .inl ⟨rfl, h1⟩, h2⟩
  | false => obtain ⟨e, fp, h1, h2⟩ := ihg _ _ h; exact ⟨e, fp, .inr ⟨rfl, h1⟩, h2⟩
 | fail => exact fun rb rt h => by cases h
theorem RD.R.reads {s : LSt} : ∀ (r : RD) (rb rt : List Nat) (e : Eff) (fp : FP), r.R s rb rt e fp → (∀ k, k ∈ rb → k ∈ fp.rb) ∧ (∀ t, t ∈ rt → t ∈ fp.rt) := by
 intro r
 induction r with
 | ret e0 => rintro rb rt e fp ⟨rfl, rfl⟩; exact ⟨fun _ h => h, fun _ h => h⟩
 | box k f ih => intro rb rt e fp h; have := ih _ _ _ _ _ h; exact ⟨fun j hj => this.1 j (List.mem_cons_of_mem _ hj), this.2⟩
 | tok t f ih => intro rb rt e fp h; have := ih _ _ _ _ _ h; exact ⟨this.1, fun j hj => this.2 j (List.mem_cons_of_mem _ hj)⟩
 | need p d f ih => intro rb rt e fp h; exact ih _ _ _ _ h.2
 | get o f ih => rintro rb rt e fp ⟨i, _, h⟩; exact ih i _ _ _ _ h
 | br b f g ihf ihg =>
  intro rb rt e fp h
  rcases h with ⟨_, h⟩ | ⟨_, h⟩
  ·exact ihf _ _ _ _ h
  ·exact ihg _ _ _ _ h
 | fail => exact fun rb rt e fp h => h.elim
theorem RD.R.move {s s' : LSt} : ∀ (r : RD) (rb rt : List Nat) (e : Eff) (fp : FP), r.R s rb rt e fp → (∀ k, k ∈ fp.rb → lookB s'.B k = lookB s.B k) → (∀ t, t ∈ fp.rt → lookT s'.T t = lookT s.T t) → r.R s' rb rt e fp := by
 intro r
 induction r with
 | ret e0 => exact fun rb rt e fp h _ _ => h
 | box k f ih =>
  intro rb rt e fp h hb ht
  have hk := (RD.R.reads (f (lookB s.B k)) _ _ _ _ h).1 k List.mem_cons_self
  simp only [RD.R] at h ⊢
  rw [hb k hk]; exact ih _ _ _ _ _ h hb ht
 | tok t f ih =>
  intro rb rt e fp h hb ht
  have hk := (RD.R.reads (f (lookT s.T t)) _ _ _ _ h).2 t List.mem_cons_self
  simp only [RD.R] at h ⊢
  rw [ht t hk]; exact ih _ _ _ _ _ h hb ht
 | need p d f ih => exact fun rb rt e fp h hb ht => ⟨h.1, ih _ _ _ _ h.2 hb ht⟩
 | get o f ih => rintro rb rt e fp ⟨i, ho, h⟩ hb ht; exact ⟨i, ho, ih i _ _ _ _ h hb ht⟩
 | br b f g ihf ihg => exact fun rb rt e fp h hb ht => h.imp (fun h => ⟨h.1, ihf _ _ _ _ h.2 hb ht⟩) (fun h => ⟨h.1, ihg _ _ _ _ h.2 hb ht⟩)
 | fail => exact fun rb rt e fp h => h.elim
theorem RD.R.writes {s : LSt} {e : Eff} {fp : FP} : ∀ (r : RD) (rb rt : List Nat), r.R s rb rt e fp → fp.wb = e.boxes ∧ fp.wt = e.toks := by
 intro r
 induction r with
 | ret e0 => rintro rb rt ⟨rfl, rfl⟩; exact ⟨rfl, rfl⟩
 | box k f ih => intro rb rt h; exact ih _ _ _ h
 | tok t f ih => intro rb rt h; exact ih _ _ _ h
 | need p d f ih => intro rb rt h; exact ih _ _ h.2
 | get o f ih => rintro rb rt ⟨i, _, h⟩; exact ih i _ _ h
 | br b f g ihf ihg =>
  intro rb rt h
  rcases h with ⟨_, h⟩ | ⟨_, h⟩
  ·exact ihf _ _ h
  ·exact ihg _ _ h
 | fail => intro rb rt h; exact h.elim
def Sim (E : Env) (o : Oper) (s : LSt) (e : Eff) : Prop :=
 ∀ R a w, ROk E R → Rel R s a w → ∀ (K : Act → World → Prop) Q, (∀ a' w', Rel R (s.app o.dst e) a' w' → K a' w') → o.wp E.P a w K Q
theorem V1.one {c : Ctx} {x : AV} {v : Value} (hx : x ≠ .dead) (h : V1 c x v) : v.oneCell' = true := by
 cases x with
 | dead => exact absurd rfl hx
 | pv t y => obtain ⟨p, _, h⟩ := h; exact h.one
 | nils => rw [show v = .slice none 0 0 from h]; rfl
 | nilp => rw [show v = .pointer none from h]; rfl
 | box k o => rw [h.2]; exact refV_one _ _ _
 | ptr t y o => obtain ⟨b, s, e, _⟩ := h; rw [e]; rfl
 | own n t xs => exact Rep.one h.1
 | mtk n => exact h.1
 | mptr n i o => exact h.1
 | gmap g => exact h.2.2
 | clo f cs => obtain ⟨us, e, _⟩ := h; rw [e]; rfl
 | agg cs => exact h.elim
 | tup cs => exact h.elim
theorem cells_one {v : Value} (h : v.oneCell' = true) : v.cells = #[v] := by
 cases v <;> first | rfl | (simp [Value.oneCell'] at h)
theorem cells_of {c : Ctx} {x : AV} {v : Value} {cs : List AV} (hx : x.cells? = some cs) (h : V3 c x v) : All2 (V1c c) cs v.cells.toList := by
 have one : ∀ {x : AV}, x ≠ .dead → V1 c x v → All2 (V1c c) [x] v.cells.toList := fun {x} hd h1 => by
  have ho := V1.one hd h1
  rw [cells_one ho]; exact ⟨⟨h1, ho⟩, True.intro⟩
 cases x with
 | dead => cases hx
 | tup cs => cases hx
 | agg ds => cases hx; obtain ⟨vs, e, ha⟩ := h; rw [e]; simpa [Value.cells] using ha
 | pv t y => cases hx; exact one (x := .pv t y) (by simp) h
 | nils => cases hx; exact one (x := .nils) (by simp) h
 | nilp => cases hx; exact one (x := .nilp) (by simp) h
 | box k o => cases hx; exact one (x := .box k o) (by simp) h
 | ptr t y o => cases hx; exact one (x := .ptr t y o) (by simp) h
 | own n t xs => cases hx; exact one (x := .own n t xs) (by simp) h
 | mtk n => cases hx; exact one (x := .mtk n) (by simp) h
 | mptr n i o => cases hx; exact one (x := .mptr n i o) (by simp) h
 | gmap g => cases hx; exact one (x := .gmap g) (by simp) h
 | clo f cs => cases hx; exact one (x := .clo f cs) (by simp) h
theorem bytes_data (b : ByteArray) : bytes b.data.toList = b := by cases b; simp [bytes]
theorem bytes_size (l : List UInt8) : (bytes l).size = l.length := by simp [bytes, ByteArray.size]
theorem V3_const (c : Ctx) (v : Value) : V3 c (constAV v) v := by
 cases v with
 | bool b => exact ⟨_, rfl, .bool b⟩
 | int k n => exact ⟨_, rfl, .int k n⟩
 | string s => exact ⟨_, rfl, by rw [bytes_data]; exact .str s⟩
 | slice a n k =>
  cases a with
  | some a => exact True.intro
  | none =>
   cases n with
   | zero => cases k with
    | zero => exact rfl
    | succ k => exact True.intro
   | succ n => exact True.intro
 | pointer a => cases a with
  | none => exact rfl
  | some a => exact True.intro
 | _ => exact True.intro
theorem V3_ev {c : Ctx} {s : LSt} {a : Act} (h : ∀ i, V3 c (getA s.L i) (a.tmps.getD i undef)) : ∀ x, V3 c (s.ev x) (a.eval x)
 | .tmp t => h t
 | .const v => V3_const c v
 | .global _ => True.intro
 | .func f => ⟨[], rfl, True.intro⟩
theorem rel_put {R : Root} {w' : World} {S' : Stab} {s : LSt} {a : Act} {e : Eff} {β' : Nat → Nat} {τ' : Nat → Value} {F' : Nat → Nat → Prop}
  (hM : Mem R (e.updB (lookB s.B)) (e.updT (lookT s.T)) β' τ' F' S' w') (hn : a.tmps.size = s.L.length) (hd : a.defers = []) (hs : ∀ i, V3 ⟨w', S', fun k => e.updB (lookB s.B) k ≠ none, β', e.updT (lookT s.T), τ'⟩ (getA s.L i) (a.tmps.getD i undef)) (d : Option Nat) {v : Value} (hx : d = none ∨ V3 ⟨w', S', fun k => e.updB (lookB s.B) k ≠ none, β', e.updT (lookT s.T), τ'⟩ e.val v) :
  Rel R (s.app d e) (a.put d v) w' := by
 refine ⟨β', τ', F', S', by rw [app_B, app_T]; exact hM, ?_, ?_, fun i => ?_⟩
 ·rw [app_len]; cases d <;> simp [Act.put, hn]
 ·cases d <;> exact hd
 ·have hc : (s.app d e).ctx w' S' β' τ' = ⟨w', S', fun k => e.updB (lookB s.B) k ≠ none, β', e.updT (lookT s.T), τ'⟩ := by
   simp only [LSt.ctx, app_B, app_T]
  rw [hc, app_L]
  cases d with
  | none => simpa [Act.put] using hs i
  | some d =>
   have hx := hx.resolve_left (by simp)
   simp only [Act.put, Option.some.injEq]
   by_cases h : d = i ∧ i < s.L.length
   ·obtain ⟨rfl, hi⟩ := h
    rw [if_pos ⟨rfl, hi⟩]
    rw [← hn] at hi
    have : (a.tmps.setIfInBounds d v).getD d undef = v := by simp [Array.getD, hi]
    rw [this]; exact hx
   ·rw [if_neg h]
    have : (a.tmps.setIfInBounds d v).getD i undef = a.tmps.getD i undef := by
     by_cases e : d = i
     ·subst e
      have hlt : ¬ d < a.tmps.size := fun hl => h ⟨rfl, hn ▸ hl⟩
      simp [Array.getD, hlt]
     ·simp [Array.getElem?_setIfInBounds_ne e]
    rw [this]; exact hs i
theorem wp_value {P : Program} {o : Oper} {a : Act} {w w' : World} {v : Value} {K : Act → World → Prop} {Q : Exit → Act → World → Prop} (h : (execOp a.eval o).run P w = .ok (.value v) w') (hk : K (a.put o.dst v) w') : o.wp P a w K Q := by
 unfold Oper.wp; rw [h]; exact hk
theorem wp_skip' {P : Program} {o : Oper} {a : Act} {w w' : World} {K : Act → World → Prop} {Q : Exit → Act → World → Prop} (h : (execOp a.eval o).run P w = .ok .skip w') (hk : K (a.put o.dst undef) w') : o.wp P a w K Q := by
 unfold Oper.wp; rw [h]; exact hk
theorem sim_val {E : Env} {o : Oper} {s : LSt} {x : AV} (h : ∀ c (a : Act) w, c.w = w → (∀ y, V3 c (s.ev y) (a.eval y)) → ∃ v, (execOp a.eval o).run E.P w = .ok (.value v) w ∧ V3 c x v) : Sim E o s ⟨x, [], []⟩ := by
 rintro R a w hR0 ⟨β, τ, F, S, hM, hn, hd, hs⟩ K Q hK
 obtain ⟨v, hr, hv⟩ := h (s.ctx w S β τ) a w rfl (V3_ev hs)
 exact wp_value hr (hK _ _ (rel_put (e := ⟨x, [], []⟩) hM hn hd hs o.dst (.inr hv)))
theorem sim_look {E : Env} {o : Oper} {s : LSt} {x : AV} (h : ∀ R β τ F S (a : Act) w, Mem R (lookB s.B) (lookT s.T) β τ F S w → (∀ y, V3 (s.ctx w S β τ) (s.ev y) (a.eval y)) → ∃ v, (execOp a.eval o).run E.P w = .ok (.value v) w ∧ V3 (s.ctx w S β τ) x v) : Sim E o s ⟨x, [], []⟩ := by
 rintro R a w hR0 ⟨β, τ, F, S, hM, hn, hd, hs⟩ K Q hK
 obtain ⟨v, hr, hv⟩ := h R β τ F S a w hM (V3_ev hs)
 exact wp_value hr (hK _ _ (rel_put (e := ⟨x, [], []⟩) hM hn hd hs o.dst (.inr hv)))
section
variable {E : Env} {o : Oper} {s : LSt} {e : Eff} {fp : FP}
theorem val_R {x : AV} {rb rt : List Nat} (h : (RD.val x).R s rb rt e fp) : e = ⟨x, [], []⟩ := h.1
theorem sim_move (x : Operand) (ho : o.op = .move x ∨ o.op = .assign x) : Sim E o s ⟨s.ev x, [], []⟩ :=
 sim_val fun c a w _ hev => ⟨a.eval x, by rcases ho with ho | ho <;> simp [execOp, ho], hev x⟩
theorem rep_bool {w : World} {S : Stab} {v : Value} {b : Bool} (h : Rep w S v (.bool b)) : v = .bool b := by cases h; rfl
theorem rep_int {w : World} {S : Stab} {v : Value} {k : IntKind} {n : Int} (h : Rep w S v (.int k n)) : v = .int k n := by cases h; rfl
theorem rep_str {w : World} {S : Stab} {v : Value} {x : ByteArray} (h : Rep w S v (.str x)) : v = .string x := by cases h; rfl
theorem v3_bool {c : Ctx} {v : Value} {b : Bool} (h : V3 c (.pv .bool b) v) : v = .bool b := by
 obtain ⟨p, e, hr⟩ := (h : V0 c (.pv .bool b) v)
 cases e; exact rep_bool (w := c.w) hr
theorem v3_int {c : Ctx} {v : Value} {k : IntKind} {n : Int} (h : V3 c (.pv (.int k) n) v) : v = .int k n := by
 obtain ⟨p, e, hr⟩ := (h : V0 c (.pv (.int k) n) v)
 cases e; exact rep_int (w := c.w) hr
theorem v3_str {c : Ctx} {v : Value} {x : List UInt8} (h : V3 c (.pv .str x) v) : v = .string (bytes x) := by
 obtain ⟨p, e, hr⟩ := (h : V0 c (.pv .str x) v)
 cases e; exact rep_str (w := c.w) hr
theorem v3_pv {c : Ctx} {v : Value} {t : Tp} {x : t.D} (h : V3 c (.pv t x) v) : ∃ p, enc t x = [p] ∧ Rep c.w c.S v p := h
theorem v3_boxR {c : Ctx} {v : Value} {k o : Nat} (h : V3 c (.box k o) v) : c.live k ∧ v = refV k (c.β k) o := h
theorem v3_box {c : Ctx} {v : Value} {k o : Nat} (hk : mapName k = false) (h : V3 c (.box k o) v) : c.live k ∧ v = .pointer (some ⟨c.β k, o, none⟩) := ⟨h.1, h.2.trans (refV_ptr hk)⟩
theorem v3_ptr {c : Ctx} {v : Value} {t : Tp} {x : t.D} {o : Nat} (h : V3 c (.ptr t x o) v) : ∃ b s, v = .pointer (some ⟨b, s + o, none⟩) ∧ CellsAt c.w c.S b s (enc t x) := h
theorem v3_own {c : Ctx} {v : Value} {n : Nat} {t : Tp} {xs : List t.D} (h : V3 c (.own n t xs) v) : Rep c.w c.S v (.sl (xs.map (enc t))) ∧ c.tok n ≠ none ∧ ∀ tk, c.tok n = some (.live tk) → tk.wr = false ∧ v = c.τ n ∧ (⟨tk.t, tk.xs⟩ : (t : Tp) × List t.D) = ⟨t, xs⟩ := h
theorem v3_mtk {c : Ctx} {v : Value} {n : Nat} (h : V3 c (.mtk n) v) : v.oneCell' = true ∧ c.tok n ≠ none ∧ ∀ tk, c.tok n = some (.live tk) → v = c.τ n := h
theorem v3_mptr {c : Ctx} {v : Value} {n i o : Nat} (h : V3 c (.mptr n i o) v) : v.oneCell' = true ∧ c.tok n ≠ none ∧ ∀ tk, c.tok n = some (.live tk) → ∃ b l cap, c.τ n = .slice (some ⟨b, 0, none⟩) l cap ∧ i < l ∧ v = .pointer (some ⟨b, i * tk.t.w + o, none⟩) := h
theorem v3_clo {c : Ctx} {v : Value} {f : FuncId} {cs : List AV} (h : V3 c (.clo f cs) v) : ∃ us : List Value, v = .func (.func f) #[] us.toArray ∧ All2 (V0 c) cs us := h
theorem mk_bool (c : Ctx) (b : Bool) : V3 c (.pv .bool b) (.bool b) := ⟨_, rfl, .bool b⟩
theorem mk_int (c : Ctx) (k : IntKind) (n : Int) : V3 c (.pv (.int k) n) (.int k n) := ⟨_, rfl, .int k n⟩
theorem mk_str (c : Ctx) (x : List UInt8) : V3 c (.pv .str x) (.string (bytes x)) := ⟨_, rfl, .str _⟩
theorem sim_pick (c a b : Operand) (ho : o.op = .pick c a b) (h : (opRD E o.op o.dst s.ev).R s [] [] e fp) : Sim E o s e := by
 rw [ho] at h
 simp only [opRD] at h
 split at h
 ·rename_i t hc
  have base : Sim E o s ⟨if t then s.ev a else s.ev b, [], []⟩ := sim_val fun cx ac w _ hev => by
   have hb : ac.eval c = .bool t := v3_bool (hc ▸ hev c)
   refine ⟨if t then ac.eval a else ac.eval b, by cases t <;> simp [execOp, ho, hb, asBool], ?_⟩
   cases t
   ·exact hev b
   ·exact hev a
  rcases h with ⟨rfl, h⟩ | ⟨rfl, h⟩
  ·cases val_R h; exact base
  ·cases val_R h; exact base
 ·exact h.elim
theorem arith_R {k : IntKind} {n : Int} {rb rt : List Nat} (h : (arithRD k n).R s rb rt e fp) : e = ⟨.pv (.int k) (k.wrap n), [], []⟩ := by
 cases k <;> simp only [arithRD, RD.R, RD.val, need] at h <;> first | exact h.1 | skip
 rw [IntWalk.i64_in n ⟨h.1.1, h.1.2⟩]; exact h.2.1
theorem bytes_inj {a b : List UInt8} : bytes a = bytes b ↔ a = b := by
 constructor
 ·intro h
  have := congrArg (fun x : ByteArray => x.data.toList) h
  simpa [bytes] using this
 ·exact congrArg bytes
theorem bytes_toList (l : List UInt8) : (bytes l).toList = l := by
 rw [ByteArray.toList_eq]; simp [bytes]
end
end Go.Proofs.YtcjbjmbialienaaGreatDoor
