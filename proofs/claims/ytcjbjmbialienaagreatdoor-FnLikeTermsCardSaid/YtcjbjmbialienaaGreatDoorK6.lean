/- The engine, sixth part: operations that look at memory. -/
import Derived.Test.YtcjbjmbialienaaGreatDoorK5
set_option linter.unusedSimpArgs false
set_option linter.unusedVariables false
namespace Go.Proofs.YtcjbjmbialienaaGreatDoor
open Go.RowKit
section
variable {E : Env} {o : Oper} {s : LSt} {e : Eff} {fp : FP}
theorem jrx (a b : List UInt8) : (a == b) = decide (a = b) := by
 by_cases h : a = b
 ·simp [h]
 ·simp [h]
theorem jaZ (a b : Int) : (a == b) = decide (a = b) := by
 by_cases h : a = b
 ·simp [h]
 ·simp [h]
theorem jge (a b : Int) : (a != b) = !decide (a = b) := by rw [bne, jaZ]
theorem jmv {P : Program} (w : World) (T u : TypeId) (p : Option Addr) (hT : P.underlying T = some (.pointer u)) : (Op.equal T (.pointer p) (.pointer none)).run P w = .ok p.isNone w := by
 have h : ∀ d : Nat, (Op.equalIn (d + 1) T (.pointer p) (.pointer none)).run P w = .ok p.isNone w := fun d => by
  cases p <;> simp [Op.equalIn, run_underlying hT]
 exact h 9999
theorem jrz {c : Ctx} {v : Value} (h : V3 c .nilp v) : v = .pointer none := h
theorem jtl {c : Ctx} {x : AV} {v : Value} {nb : Bool} (hn : isNil x = some nb) (h : V3 c x v) : ∃ p, v = .pointer p ∧ p.isNone = nb := by
 unfold isNil at hn
 split at hn
 ·cases hn; exact ⟨none, h, rfl⟩
 ·cases hn
  obtain ⟨b, s', e', hc⟩ := h
  exact ⟨_, e', rfl⟩
 ·rename_i y
  cases hn
  obtain ⟨p, e', hr⟩ := v3_pv h
  cases y with
  | none =>
   simp only [enc, Option.map_none, List.cons.injEq, and_true] at e'
   subst e'
   cases hr
   exact ⟨none, rfl, rfl⟩
  | some r =>
   simp only [enc, Option.map_some, List.cons.injEq, and_true] at e'
   subst e'
   obtain ⟨b, q, e2, hc⟩ := hr.optOpen
   exact ⟨_, e2, rfl⟩
 ·cases hn
theorem jpd (hE : EnvOk E) (op : BinOp) (T : TypeId) (x y : Operand) (t : TypeId) (ho : o.op = .binOp op T x y t) (h : (binRD (match E.ty T with | some ty => ty.bool | none => false) (match E.ty T with | some ty => ty.ptr | none => false) op (s.ev x) (s.ev y)).R s [] [] e fp) : Sim E o s e := by
 have key : ∀ (z : Value) (zt : Tp) (zx : zt.D), (∀ (c : Ctx) (a : Act) w, c.w = w → (∀ y, V3 c (s.ev y) (a.eval y)) → (do eqGuard op T x y (a.eval x) (a.eval y); binOp op T (a.eval x) (a.eval y) : Sem Value).run E.P w = .ok z w ∧ V3 c (.pv zt zx) z) → Sim E o s ⟨.pv zt zx, [], []⟩ := by
  intro z zt zx hrun
  refine sim_val fun c a w hw hev => ?_
  obtain ⟨h1, h2⟩ := hrun c a w hw hev
  exact ⟨z, by simp only [execOp, ho, Sem.run_bind]; rw [← Sem.run_bind, h1]; rfl, h2⟩
 simp only [binRD] at h
 split at h
 ·rename_i k m hx
  split at h
  ·rename_i k' n hy
   have vx : ∀ (c : Ctx) (a : Act), (∀ y, V3 c (s.ev y) (a.eval y)) → a.eval x = .int k m := fun c a hev => v3_int (hx ▸ hev x)
   have vy : ∀ (c : Ctx) (a : Act), (∀ y, V3 c (s.ev y) (a.eval y)) → a.eval y = .int k' n := fun c a hev => v3_int (hy ▸ hev y)
   have main : ∀ op', op = op' → k = k' → (binInt op' k m n).R s [] [] e fp → op' ≠ .shl → op' ≠ .shr → Sim E o s e := fun op' e1 e2 h n1 n2 => by
    subst e1; subst e2
    cases op
    all_goals first
     | exact absurd rfl n1
     | exact absurd rfl n2
     | (cases arith_R h; exact key (.int k _) (.int k) _ (fun c a w hw hev => ⟨by rw [vx c a hev, vy c a hev]; simp [eqGuard, binOp, Op.intArith], mk_int c _ _⟩))
     | (cases val_R h; exact key (.bool _) .bool _ (fun c a w hw hev => ⟨by rw [vx c a hev, vy c a hev]; first | (simp [eqGuard, binOp, Op.intCmp, jaZ, jge]; done) | (simp [eqGuard, binOp, Op.intCmp]; exact jaZ m n) | (simp [eqGuard, binOp, Op.intCmp]; exact jge m n), mk_bool c _⟩))
     | (cases val_R h; exact key (.int k _) (.int k) _ (fun c a w hw hev => ⟨by rw [vx c a hev, vy c a hev]; simp [eqGuard, binOp, Op.intBits, bitsI], mk_int c _ _⟩))
     | (obtain ⟨h0, h⟩ := h; first
       | (cases arith_R h; exact key (.int k _) (.int k) _ (fun c a w hw hev => ⟨by rw [vx c a hev, vy c a hev]; simp [eqGuard, binOp, Op.intDiv, h0], mk_int c _ _⟩))
       | (cases val_R h; exact key (.int k _) (.int k) _ (fun c a w hw hev => ⟨by rw [vx c a hev, vy c a hev]; simp [eqGuard, binOp, Op.intDiv, h0], mk_int c _ _⟩)))
   split at h
   ·obtain ⟨h0, h⟩ := h
    cases arith_R h
    exact key (.int k _) (.int k) _ (fun c a w hw hev => ⟨by rw [vx c a hev, vy c a hev]; simp [eqGuard, binOp, Op.shift, Int.not_lt.2 h0], mk_int c _ _⟩)
   ·obtain ⟨h0, h⟩ := h
    cases val_R h
    exact key (.int k _) (.int k) _ (fun c a w hw hev => ⟨by rw [vx c a hev, vy c a hev]; simp [eqGuard, binOp, Op.shift, Int.not_lt.2 h0], mk_int c _ _⟩)
   ·rename_i n1 n2
    split at h
    ·rename_i e2
     exact main op rfl e2 h (fun e => n1 e) (fun e => n2 e)
    ·exact h.elim
  ·exact h.elim
 ·rename_i m hx
  split at h
  ·rename_i n hy
   have vx : ∀ (c : Ctx) (a : Act), (∀ y, V3 c (s.ev y) (a.eval y)) → a.eval x = .string (bytes m) := fun c a hev => v3_str (hx ▸ hev x)
   have vy : ∀ (c : Ctx) (a : Act), (∀ y, V3 c (s.ev y) (a.eval y)) → a.eval y = .string (bytes n) := fun c a hev => v3_str (hy ▸ hev y)
   cases op
   all_goals first
    | exact h.elim
    | (cases val_R h; exact key (.bool _) .bool _ (fun c a w hw hev => ⟨by rw [vx c a hev, vy c a hev]; simp [eqGuard, binOp, Op.stringOp, bytes_toList, jrx], mk_bool c _⟩))
    | (obtain ⟨h0, h⟩ := h; cases val_R h; exact key (.string (bytes (m ++ n))) .str _ (fun c a w hw hev => ⟨by
      rw [vx c a hev, vy c a hev]
      have hm : ¬ (((bytes m).size + (bytes n).size : Nat) : Int) > IntKind.i64.max := by simp [IntKind.max, IntKind.signed, IntKind.bits, bytes_size]; omega
      have e1 : bytes m ++ bytes n = bytes (m ++ n) := by apply Go.WideShapes.bytes_inj; simp [bytes]
      simp only [eqGuard, binOp, Op.stringOp]
      rw [if_neg hm, e1]; rfl, mk_str c _⟩))
  ·exact h.elim
 ·rename_i m hx
  split at h
  ·rename_i n hy
   have vx : ∀ (c : Ctx) (a : Act), (∀ y, V3 c (s.ev y) (a.eval y)) → a.eval x = .bool m := fun c a hev => v3_bool (hx ▸ hev x)
   have vy : ∀ (c : Ctx) (a : Act), (∀ y, V3 c (s.ev y) (a.eval y)) → a.eval y = .bool n := fun c a hev => v3_bool (hy ▸ hev y)
   cases hty : E.ty T with
   | none => rw [hty] at h; exact h.elim
   | some ty =>
    rw [hty] at h
    cases htb : ty.bool with
    | false => simp only [htb] at h; exact h.elim
    | true =>
    simp only [htb, if_true] at h
    have hT : E.P.underlying T = some .bool := (hE.ty T ty hty).bool htb
    cases op
    all_goals first
     | exact h.elim
     | (cases val_R h; exact key (.bool _) .bool _ (fun c a w hw hev => ⟨by rw [vx c a hev, vy c a hev]; simp [eqGuard, binOp, run_equal_bool (P := E.P) w T m n hT], mk_bool c _⟩))
  ·exact h.elim
 ·unfold ptrRD at h
  split at h
  case h_2 => exact h.elim
  rename_i hy
  split at h
  case h_2 => exact h.elim
  rename_i nb hn
  cases hty : E.ty T with
  | none => rw [hty] at h; exact h.elim
  | some ty =>
   rw [hty] at h
   cases htp : ty.ptr with
   | false => simp only [htp] at h; exact h.elim
   | true =>
   simp only [htp, if_true] at h
   obtain ⟨u, hT⟩ := (hE.ty T ty hty).ptr htp
   have vy : ∀ (c : Ctx) (a : Act), (∀ y, V3 c (s.ev y) (a.eval y)) → a.eval y = .pointer none := fun c a hev => jrz (hy ▸ hev y)
   have vx : ∀ (c : Ctx) (a : Act), (∀ y, V3 c (s.ev y) (a.eval y)) → ∃ p, a.eval x = .pointer p ∧ p.isNone = nb := fun c a hev => jtl hn (hev x)
   cases op
   all_goals first
    | exact h.elim
    | (cases val_R h; exact key (.bool _) .bool _ (fun c a w hw hev => ⟨by obtain ⟨p, hp, hb⟩ := vx c a hev; rw [hp, vy c a hev, ← hb]; simp [eqGuard, binOp, jmv (P := E.P) w T u p hT], mk_bool c _⟩))
theorem jsR (op : UnOp) (T : TypeId) (x : Operand) (ho : o.op = .unOp op T x) (h : (opRD E o.op o.dst s.ev).R s [] [] e fp) : Sim E o s e := by
 rw [ho] at h
 simp only [opRD, unRD] at h
 split at h
 ·rename_i b hx
  cases op with
  | not =>
   cases val_R h
   exact sim_val fun c a w hw hev => ⟨.bool (!b), by simp [execOp, ho, v3_bool (hx ▸ hev x), Op.unary], mk_bool c _⟩
  | _ => exact h.elim
 ·rename_i k n hx
  cases op with
  | neg =>
   cases arith_R h
   exact sim_val fun c a w hw hev => ⟨.int k (k.wrap (0 - n)), by simp [execOp, ho, v3_int (hx ▸ hev x), Op.unary, Op.intArith], mk_int c _ _⟩
  | _ => exact h.elim
 ·exact h.elim
theorem jri (x : Operand) (ho : o.op = .nilCheck x) (h : (opRD E o.op o.dst s.ev).R s [] [] e fp) : Sim E o s e := by
 have key : ∀ y, (∀ c (a : Act), (∀ y, V3 c (s.ev y) (a.eval y)) → (∃ b, a.eval x = .pointer (some b)) ∧ V3 c y (a.eval x)) → Sim E o s ⟨y, [], []⟩ := fun y hy =>
  sim_val fun c a w hw hev => by
   obtain ⟨⟨b, hb⟩, hv⟩ := hy c a hev
   exact ⟨a.eval x, by simp [execOp, ho, hb], hv⟩
 rw [ho] at h
 simp only [opRD] at h
 split at h
 ·rename_i k q hx
  split at h
  case isTrue => exact h.elim
  rename_i hmk
  cases val_R h
  exact key _ fun c a hev => by have := hev x; rw [hx] at this; exact ⟨⟨_, (v3_box (by simpa using hmk) this).2⟩, this⟩
 ·rename_i t r q hx
  cases val_R h
  exact key _ fun c a hev => by have := hev x; rw [hx] at this; obtain ⟨b, s', e', hc⟩ := this; exact ⟨⟨_, e'⟩, b, s', e', hc⟩
 ·rename_i n i q hx
  simp only [RD.R] at h
  split at h
  ·rename_i tk htk
   cases val_R h
   refine sim_look fun R β τ F S a w hM hev => ?_
   have := hev x; rw [hx] at this
   obtain ⟨h1, h2, h3⟩ := v3_mptr this
   obtain ⟨b, l, cap, e1, e2, e3⟩ := h3 tk htk
   exact ⟨a.eval x, by simp [execOp, ho, e3], this⟩
  ·exact h.elim
 ·rename_i t y hx
  obtain ⟨r, rfl, h⟩ := h
  cases val_R h
  exact key _ fun c a hev => by
   have := hev x; rw [hx] at this
   obtain ⟨p, e', hr⟩ := v3_pv this
   simp only [enc, Option.map_some, List.cons.injEq, and_true] at e'
   subst e'
   obtain ⟨b, q, e2, hc⟩ := hr.optOpen
   exact ⟨⟨_, e2⟩, b, q, e2, hc⟩
 ·exact h.elim
theorem jld (x : Operand) (i : Nat) (ho : o.op = .extract x i) (h : (opRD E o.op o.dst s.ev).R s [] [] e fp) : Sim E o s e := by
 rw [ho] at h
 simp only [opRD] at h
 split at h
 ·rename_i cs hx
  split at h
  ·rename_i c hc
   cases val_R h
   exact sim_val fun cx a w hw hev => by
    have h := hev x
    rw [hx] at h
    obtain ⟨vs, e, ha⟩ := h
    obtain ⟨v, hv, hcv⟩ := ha.get i c hc
    exact ⟨v, by simp [execOp, ho, e, Instr.extract, hv], V3_of_V2 hcv⟩
  ·exact h.elim
 ·exact h.elim
theorem add_ptr (b q n : Nat) : (⟨b, q, none⟩ : Addr).add n = ⟨b, q + n, none⟩ := add_at b q n
theorem jl3 (hE : EnvOk E) (T : TypeId) (x : Operand) (f : Nat) (ho : o.op = .fieldAddr T x f) (h : (opRD E o.op o.dst s.ev).R s [] [] e fp) : Sim E o s e := by
 rw [ho] at h
 simp only [opRD] at h
 split at h
 case h_2 => exact h.elim
 rename_i ty hty
 split at h
 case h_2 => exact h.elim
 rename_i off size hf
 split at h
 case isFalse => exact h.elim
 rename_i h0
 have hT := hE.ty T ty hty
 obtain ⟨fields, hu, hp⟩ := hT.offs (by rintro e; rw [e] at hf; cases hf)
 obtain ⟨fd, i, h1, h2, h3, h4⟩ : ∃ (fd : Field) (i : TypeInfo), fields[f]? = some fd ∧ E.P.info? fd.type = some i ∧ fd.offset = off ∧ i.size = size := by
  have hgen : ∀ (l : List Field) (r : List (Nat × Nat)), l.mapM (fun f => (E.P.info? f.type).map fun i => (f.offset, i.size)) = some r → ∀ (n : Nat) p, r[n]? = some p → ∃ (fd : Field) (i : TypeInfo), l[n]? = some fd ∧ E.P.info? fd.type = some i ∧ (fd.offset, i.size) = p := by
   intro l
   induction l with
   | nil => intro r hr n p hn; simp at hr; subst hr; simp at hn
   | cons g l ih =>
    intro r hr n p hn
    simp only [List.mapM_cons, Option.bind_eq_bind, Option.pure_def] at hr
    cases hi : E.P.info? g.type with
    | none => simp [hi] at hr
    | some i =>
     cases hl : l.mapM (fun f => (E.P.info? f.type).map fun i => (f.offset, i.size)) with
     | none => simp [hi, hl] at hr
     | some r' =>
      simp [hi, hl] at hr
      subst hr
      cases n with
      | zero => simp at hn; exact ⟨g, i, rfl, hi, hn⟩
      | succ n => simpa using ih r' hl n p (by simpa using hn)
  obtain ⟨fd, i, h1, h2, h3⟩ := hgen _ _ hp f _ hf
  simp only [Prod.mk.injEq] at h3
  exact ⟨fd, i, by simpa using h1, h2, h3.1, h3.2⟩
 have run : ∀ (a : Act) (w : World) b q, a.eval x = .pointer (some ⟨b, q, none⟩) → (execOp a.eval o).run E.P w = .ok (.value (.pointer (some ⟨b, q + off, none⟩))) w := fun a w b q e => by
  have hsz : (sizeOf fd.type).run E.P w = .ok size w := by simp [sizeOf, typeInfo, h2, h4]
  have hne : ¬ size = 0 := by omega
  simp [execOp, ho, Instr.fieldAt, run_underlying hu, h1, e, Instr.sureAddr, fieldPlace, hsz, hne, h3, add_ptr]
 split at h
 ·rename_i k q hx
  split at h
  case isTrue => exact h.elim
  rename_i hmk
  have hmk : mapName k = false := by simpa using hmk
  cases val_R h
  exact sim_val fun c a w hw hev => by
   have h := hev x; rw [hx] at h
   obtain ⟨g1, g2⟩ := v3_box hmk h
   exact ⟨_, run a w _ _ g2, g1, (refV_ptr hmk).symm⟩
 ·rename_i t y q hx
  cases val_R h
  exact sim_val fun c a w hw hev => by
   have h := hev x; rw [hx] at h
   obtain ⟨b, t', e', hc⟩ := v3_ptr h
   exact ⟨_, run a w _ _ e', b, t', by rw [Nat.add_assoc], hc⟩
 ·rename_i n i' q hx
  simp only [RD.R] at h
  split at h
  ·rename_i tk htk
   cases val_R h
   refine sim_look fun R β τ F S a w hM hev => ?_
   have h := hev x; rw [hx] at h
   obtain ⟨g1, g2, g3⟩ := v3_mptr h
   obtain ⟨b, l, cap, e1, e2, e3⟩ := g3 tk htk
   refine ⟨_, run a w _ _ e3, rfl, g2, fun tk' htk' => ?_⟩
   rw [show (s.ctx w S β τ).tok n = lookT s.T n from rfl, htk] at htk'
   cases htk'
   exact ⟨b, l, cap, e1, e2, by rw [Nat.add_assoc]⟩
  ·exact h.elim
 ·exact h.elim
theorem jF {c : Ctx} {x : AV} {v : Value} {t : Tp} {y : t.D} (hx : x.as t = some y) (h : V3 c x v) : ∃ p, enc t y = [p] ∧ Rep c.w c.S v p := by
 cases x with
 | pv t' z =>
  simp only [AV.as] at hx
  split at hx
  ·rename_i e; subst e; cases hx; exact h
  ·cases hx
 | own n r xs =>
  simp only [AV.as] at hx
  split at hx
  ·rename_i e; subst e; cases hx; exact ⟨_, rfl, h.1⟩
  ·cases hx
 | nils =>
  cases t with
  | sl r => cases hx; rw [show v = .slice none 0 0 from h]; exact ⟨_, rfl, rep_nils⟩
  | _ => cases hx
 | nilp =>
  cases t with
  | opt r => cases hx; rw [show v = .pointer none from h]; exact ⟨_, rfl, .nil⟩
  | _ => cases hx
 | ptr r z q =>
  simp only [AV.as] at hx
  split at hx
  ·rename_i e
   obtain ⟨e1, e2⟩ := e
   subst e1; subst e2; cases hx
   obtain ⟨b, t', e', hc⟩ := v3_ptr h
   exact ⟨_, rfl, by rw [e']; exact Rep.optMk hc⟩
  ·cases hx
 | _ => cases hx
theorem as_sl {c : Ctx} {x : AV} {v : Value} {r : Tp} {xs : List r.D} (hx : x.as (.sl r) = some xs) (h : V3 c x v) : Rep c.w c.S v (.sl (xs.map (enc r))) := by
 obtain ⟨p, e, hr⟩ := jF hx h
 cases e; exact hr
theorem jdq {c : Ctx} {a : Act} {x : Operand} {k : IntKind} {n : Int} (hx : s.ev x = .pv (.int k) n) (hev : ∀ y, V3 c (s.ev y) (a.eval y)) : a.eval x = .int k n := v3_int (hx ▸ hev x)
theorem jaP {x : AV} {f : Int → RD} {rb rt : List Nat} (h : (withInt x f).R s rb rt e fp) : ∃ k n, x = .pv (.int k) n ∧ (f n).R s rb rt e fp := by
 unfold withInt at h
 split at h
 ·exact ⟨_, _, rfl, h⟩
 ·exact h.elim
structure Elems (w : World) (S : Stab) (v : Value) (r : Tp) (xs : List r.D) : Prop where
 ex : ∃ a cap b o, v = .slice a xs.length cap ∧ xs.length ≤ cap ∧ (xs ≠ [] → a = some ⟨b, o, none⟩) ∧ ∀ (i j : Nat) (x : r.D) (p : PV), xs[i]? = some x → (enc r x)[j]? = some p → ∃ u, w.cell? ⟨b, o + i * r.w + j, none⟩ = some u ∧ Rep w S u p
theorem Elems.of_rep {w : World} {S : Stab} {v : Value} {r : Tp} {xs : List r.D} (h : Rep w S v (.sl (xs.map (enc r)))) : Elems w S v r xs := by
 obtain ⟨a, cap, b, o, m, hv, hc, ha, hm, hr⟩ := h.opened
 refine ⟨a, cap, b, o, by simpa using hv, by simpa using hc, fun hne => ha (by simpa using hne), fun i j x p hx hp => ?_⟩
 have hrow : (xs.map (enc r))[i]? = some (enc r x) := by simp [hx]
 have hmw : m = r.w := by rw [← hm i _ hrow, enc_len]
 obtain ⟨_, u, h1, h2⟩ := hr i _ hrow j p hp
 exact ⟨u, by rw [← hmw]; exact h1, h2⟩
theorem Elems.of_tok {Fr : Nat → Prop} {w : World} {S : Stab} {tk : Tok} {v : Value} {F : Nat → Prop} (h : TokOk Fr w S tk v F) (htr : tk.tr = none) : Elems w S v tk.t tk.xs := by
 obtain ⟨_, h, _⟩ := h
 rcases h with ⟨rfl, h⟩ | ⟨b, cap, vs, T, e, hF, hg, hz, hn, hm, hst, hwr, hc⟩
 ·exact ⟨none, 0, 0, 0, by rw [h]; rfl, by rw [h]; exact Nat.le_refl _, fun hne => absurd h hne, fun i j x p hx => by rw [h] at hx; simp at hx⟩
 ·refine ⟨_, cap, b, 0, e, hn, fun _ => rfl, fun i j x p hx hp => ?_⟩
  obtain ⟨u, h1, h2, _⟩ := hc i j x p hx hp
  exact ⟨u, by rw [Nat.zero_add, cell_of_row w b _ vs T (0, 0) hg]; exact h1, h2 htr⟩
theorem withRows_R {x : Operand} {r : Tp} {f : List r.D → RD} {rb rt : List Nat} (h : (withRows r (s.ev x) f).R s rb rt e fp) : ∃ xs rt', (f xs).R s rb rt' e fp ∧ ∀ R β τ F S (a : Act) w, Mem R (lookB s.B) (lookT s.T) β τ F S w → (∀ y, V3 (s.ctx w S β τ) (s.ev y) (a.eval y)) → Elems w S (a.eval x) r xs := by
 unfold withRows at h
 split at h
 ·rename_i n hx
  simp only [RD.R] at h
  split at h
  ·rename_i tk htk
   split at h
   ·rename_i e1
    obtain ⟨e1, htr⟩ := e1
    subst e1
    refine ⟨_, _, h, fun R β τ F S a w hM hev => ?_⟩
    have h1 := hev x; rw [hx] at h1
    obtain ⟨g1, g2, g3⟩ := v3_mtk h1
    rw [g3 tk htk]
    exact Elems.of_tok (hM.toks n tk htk) htr
   ·exact h.elim
  ·exact h.elim
 ·split at h
  ·rename_i xs hx
   exact ⟨xs, rt, h, fun R β τ F S a w hM hev => Elems.of_rep (as_sl (c := s.ctx w S β τ) hx (hev x))⟩
  ·exact h.elim
theorem isAgg_run {P : Program} {T : TypeId} {d : TypeDesc} (h : P.underlying T = some d) (w : World) : (isAgg T).run P w = .ok (TypeDesc.isAgg d) w := by
 cases d <;> simp [Go.isAgg, run_underlying h, TypeDesc.isAgg]
theorem loadVar_agg {P : Program} {T : TypeId} {d : TypeDesc} {i : TypeInfo} (h : P.underlying T = some d) (ha : TypeDesc.isAgg d = true) (hi : P.info? T = some i) (w : World) (ad : Addr) (cs : List Value) (hn : cs.length = i.size) (hc : ∀ j v, cs[j]? = some v → w.cell? (ad.add j) = some v) : (loadVar T ad).run P w = .ok (.agg cs.toArray) w := by
 simp [loadVar, isAgg_run h, ha, sizeOf, typeInfo, hi, ← hn, run_loadCells_list w ad cs hc]
theorem loadVar_one {P : Program} {T : TypeId} {d : TypeDesc} (h : P.underlying T = some d) (ha : TypeDesc.isAgg d = false) (w : World) (ad : Addr) (v : Value) (hc : w.cell? ad = some v) : (loadVar T ad).run P w = .ok v w := by
 simp [loadVar, isAgg_run h, ha, hc]
theorem cell_box {w : World} {b : Nat} {vs : List Value} {T : TypeId} (h : w.heap[b]? = some (.cells vs.toArray T (0, 0))) (j : Nat) : w.cell? ⟨b, j, none⟩ = vs[j]? := by
 simp [World.cell?, h]
theorem load_at {c : Ctx} (T : TypeId) (x : Operand) (ho : o.op = .load T x) (ty : Ty) (hT : TyOk E.P T ty) (a : Act) (w : World) (b q : Nat) (hp : a.eval x = .pointer (some ⟨b, q, none⟩)) (cs : List AV) (vs : List Value) (hl : All2 (V1c c) cs vs) (hc : ∀ j v, vs[j]? = some v → w.cell? ⟨b, q + j, none⟩ = some v) (y : AV)
  (hy : (ty.agg = true ∧ cs.length = ty.size ∧ y = .agg cs) ∨ (ty.agg = false ∧ cs[0]? = some y)) : ∃ v, (execOp a.eval o).run E.P w = .ok (.value v) w ∧ V3 c y v := by
 obtain ⟨d, hu, hd⟩ := hT.desc
 obtain ⟨i, z, hi, hsz, _⟩ := hT.info
 rcases hy with ⟨h1, h2, rfl⟩ | ⟨h1, h2⟩
 ·refine ⟨.agg vs.toArray, ?_, vs, rfl, hl⟩
  simp only [execOp, ho, Instr.loadAt, hp, Instr.sureAddr, Sem.run_bind, Sem.run_pure, Result.andThen_ok]
  rw [loadVar_agg hu (hd.trans h1) hi w _ vs (by rw [← hl.len, h2, hsz]) (fun j v hj => by rw [add_ptr]; exact hc j v hj)]
  rfl
 ·obtain ⟨v, hv, hyv⟩ := hl.get 0 y h2
  refine ⟨v, ?_, V3_of_V1 hyv.1⟩
  simp only [execOp, ho, Instr.loadAt, hp, Instr.sureAddr, Sem.run_bind, Sem.run_pure, Result.andThen_ok]
  rw [loadVar_one hu (hd.trans h1) w _ v (by simpa using hc 0 v hv)]
  rfl
theorem row_vals {c : Ctx} {t : Tp} (y : t.D) {b q : Nat} (h : ∀ j p, (enc t y)[j]? = some p → ∃ u, c.w.cell? ⟨b, q + j, none⟩ = some u ∧ Rep c.w c.S u p) : ∃ vs : List Value, All2 (V1c c) (cellsOf t y) vs ∧ ∀ j v, vs[j]? = some v → c.w.cell? ⟨b, q + j, none⟩ = some v := by
 obtain ⟨vs, hn, hf⟩ := choose_list (fun j (u : Value) => ∀ p, (enc t y)[j]? = some p → c.w.cell? ⟨b, q + j, none⟩ = some u ∧ Rep c.w c.S u p) t.w (fun j hj => by
  have hj' : j < (enc t y).length := by rw [enc_len]; exact hj
  obtain ⟨u, h1, h2⟩ := h j (enc t y)[j] (by simp [hj'])
  exact ⟨u, fun p hp => by rw [List.getElem?_eq_getElem hj'] at hp; cases hp; exact ⟨h1, h2⟩⟩)
 refine ⟨vs, All2.of_get (by rw [cells_len, hn]) (fun j x v hx hv => ?_), fun j v hv => ?_⟩
 ·obtain ⟨p, hp, t', z, rfl, he⟩ := (cells_enc t y).get j x hx
  obtain ⟨h1, h2⟩ := hf j v hv p hp
  exact ⟨⟨p, he, h2⟩, h2.one⟩
 ·have hj : j < (enc t y).length := by rw [enc_len, ← hn]; exact (List.getElem?_eq_some_iff.1 hv).1
  exact (hf j v hv (enc t y)[j] (by simp [hj])).1
theorem load_row {c : Ctx} (T : TypeId) (x : Operand) (ho : o.op = .load T x) (ty : Ty) (hT : TyOk E.P T ty) (a : Act) (w : World) (hw : c.w = w) (b q : Nat) (t : Tp) (y : t.D) (off : Nat) (hp : a.eval x = .pointer (some ⟨b, q + off, none⟩)) (hc : ∀ j p, (enc t y)[j]? = some p → ∃ u, w.cell? ⟨b, q + j, none⟩ = some u ∧ Rep w c.S u p) {rb rt : List Nat}
  (h : (if ty.agg then (if off + ty.size ≤ (cellsOf t y).length then .val (.agg (((cellsOf t y).drop off).take ty.size)) else .fail) else match (cellsOf t y)[off]? with | some c => .val c | none => .fail : RD).R s rb rt e fp) : ∃ z, e = ⟨z, [], []⟩ ∧ ∃ v, (execOp a.eval o).run E.P w = .ok (.value v) w ∧ V3 c z v := by
 subst hw
 obtain ⟨vs, h1, h2⟩ := row_vals (c := c) y hc
 have h3 : ∀ j v, (vs.drop off)[j]? = some v → c.w.cell? ⟨b, (q + off) + j, none⟩ = some v := fun j v hj => by
  rw [List.getElem?_drop] at hj
  rw [Nat.add_assoc]; exact h2 _ _ hj
 split at h
 ·rename_i hagg
  split at h
  ·rename_i hle
   cases val_R h
   refine ⟨_, rfl, load_at (c := c) T x ho ty hT a c.w b (q + off) hp (((cellsOf t y).drop off).take ty.size) ((vs.drop off).take ty.size) ((h1.drop off).take _) (fun j v hj => ?_) _ (.inl ⟨hagg, by simp; omega, rfl⟩)⟩
   rw [List.getElem?_take] at hj
   split at hj
   ·exact h3 j v hj
   ·cases hj
  ·exact h.elim
 ·rename_i hagg
  split at h
  ·rename_i z hz
   cases val_R h
   exact ⟨_, rfl, load_at (c := c) T x ho ty hT a c.w b (q + off) hp ((cellsOf t y).drop off) (vs.drop off) (h1.drop off) h3 _ (.inr ⟨by simpa using hagg, by simpa using hz⟩)⟩
  ·exact h.elim
theorem sim_load (hE : EnvOk E) (T : TypeId) (x : Operand) (ho : o.op = .load T x) (htree : ∀ ty n i q tk hs, E.ty T = some ty → s.ev x = .mptr n i q → lookT s.T n = some (.live tk) → tk.tr = some hs → (loadTree E o.dst ty n i q tk hs).R s [] [n] e fp → Sim E o s e)
  (hthaw : ∀ (y : AV) (k : Nat), Sim E o s ⟨y, [], []⟩ → (thawRD y).R s [k] [] e fp → Sim E o s e)
  (hglob : ∀ ty g, E.ty T = some ty → x = .global g → (gloadRD ty g).R s [] [] e fp → Sim E o s e)
  (h : (opRD E o.op o.dst s.ev).R s [] [] e fp) : Sim E o s e := by
 rw [ho] at h
 simp only [opRD] at h
 split at h
 case h_1 => exact h.elim
 rename_i ty hty
 have hT := hE.ty T ty hty
 split at h
 ·rename_i g hg
  exact hglob ty g hty (by cases x <;> first | (cases hg; rfl) | cases hg) h
 split at h
 ·rename_i k q hx
  split at h
  case isTrue => exact h.elim
  rename_i hmk
  have hmk : mapName k = false := by simpa using hmk
  simp only [RD.R] at h
  split at h
  case h_1 => exact h.elim
  rename_i b hk
  have key : ∀ y, ((ty.agg = true ∧ q + ty.size ≤ b.cs.length ∧ y = .agg ((b.cs.drop q).take ty.size)) ∨ (ty.agg = false ∧ b.cs[q]? = some y)) → Sim E o s ⟨y, [], []⟩ := fun y hy => by
   refine sim_look fun R β τ F S a w hM hev => ?_
   obtain ⟨vs, T', hv, ha⟩ := (hM.boxes k b hk).2.2.2.cells hmk
   have h1 := hev x; rw [hx] at h1
   have hp : a.eval x = .pointer (some ⟨β k, q, none⟩) := (v3_box hmk h1).2
   have h3 : ∀ j v, (vs.drop q)[j]? = some v → w.cell? ⟨β k, q + j, none⟩ = some v := fun j v hj => by
    rw [List.getElem?_drop] at hj
    rw [cell_box hv]; exact hj
   rcases hy with ⟨g1, g2, rfl⟩ | ⟨g1, g2⟩
   ·refine load_at (c := s.ctx w S β τ) T x ho ty hT a w (β k) q hp ((b.cs.drop q).take ty.size) ((vs.drop q).take ty.size) ((ha.drop q).take _) (fun j v hj => ?_) _ (.inl ⟨g1, by simp; omega, rfl⟩)
    rw [List.getElem?_take] at hj
    split at hj
    ·exact h3 j v hj
    ·cases hj
   ·exact load_at (c := s.ctx w S β τ) T x ho ty hT a w (β k) q hp (b.cs.drop q) (vs.drop q) (ha.drop q) h3 _ (.inr ⟨g1, by simpa using g2⟩)
  split at h
  ·rename_i hagg
   split at h
   ·cases val_R h; exact key _ (.inl ⟨hagg, ‹_›, rfl⟩)
   ·exact h.elim
  ·rename_i hagg
   split at h
   ·rename_i y hy
    split at h
    ·exact hthaw y k (key _ (.inr ⟨by simpa using hagg, hy⟩)) h
    ·cases val_R h; exact key _ (.inr ⟨by simpa using hagg, hy⟩)
   ·exact h.elim
 ·rename_i t y q hx
  obtain ⟨z, rfl⟩ : ∃ z, e = ⟨z, [], []⟩ := by
   split at h
   ·split at h
    ·exact ⟨_, val_R h⟩
    ·exact h.elim
   ·split at h
    ·exact ⟨_, val_R h⟩
    ·exact h.elim
  refine sim_val fun c a w hw hev => ?_
  have h1 := hev x; rw [hx] at h1
  obtain ⟨b, q', e', hc⟩ := v3_ptr h1
  obtain ⟨z', e1, v, h2, h3⟩ := load_row (c := c) T x ho ty hT a w hw b q' t y q e' (fun j p hp => by obtain ⟨_, u, g1, g2⟩ := hc j p hp; rw [hw] at g1 g2; exact ⟨u, g1, g2⟩) h
  cases e1
  exact ⟨v, h2, h3⟩
 ·rename_i n i q hx
  simp only [RD.R] at h
  split at h
  case h_2 => exact h.elim
  rename_i tk htk
  split at h
  case h_2 => exact htree ty n i q tk _ hty hx htk ‹_› h
  rename_i htr
  obtain ⟨y, hy, h⟩ := h
  simp only at h
  obtain ⟨z, rfl⟩ : ∃ z, e = ⟨z, [], []⟩ := by
   split at h
   ·split at h
    ·exact ⟨_, val_R h⟩
    ·exact h.elim
   ·split at h
    ·exact ⟨_, val_R h⟩
    ·exact h.elim
  refine sim_look fun R β τ F S a w hM hev => ?_
  have h1 := hev x; rw [hx] at h1
  obtain ⟨g1, g2, g3⟩ := v3_mptr h1
  obtain ⟨b, l, cap, e1, e2, e3⟩ := g3 tk htk
  obtain ⟨_, hk, _⟩ := hM.toks n tk htk
  rcases hk with ⟨ev, _⟩ | ⟨b', cap', vs, T', ev, hF, hg, hz, hn, hm, hst, hwr, hc⟩
  ·rw [show (s.ctx w S β τ).τ n = τ n from rfl, ev] at e1; cases e1
  ·rw [show (s.ctx w S β τ).τ n = τ n from rfl, ev] at e1
   cases e1
   obtain ⟨z', e1, v, h2, h3⟩ := load_row (c := s.ctx w S β τ) T x ho ty hT a w rfl b (i * tk.t.w) tk.t y q e3 (fun j p hp => by
    obtain ⟨u, k1, k2, _⟩ := hc i j y p hy hp
    exact ⟨u, by rw [cell_of_row w b _ vs T' (0, 0) hg]; exact k1, k2 htr⟩) h
   cases e1
   exact ⟨v, h2, h3⟩
 ·exact h.elim
end
end Go.Proofs.YtcjbjmbialienaaGreatDoor
