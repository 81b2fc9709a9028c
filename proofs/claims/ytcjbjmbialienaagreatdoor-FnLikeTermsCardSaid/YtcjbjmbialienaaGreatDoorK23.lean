/- The engine, twenty-third part: code, run; functions. -/
import Derived.Test.YtcjbjmbialienaaGreatDoorK22
import Derived.Test.YtcjbjmbialienaaGreatDoorKV
set_option linter.unusedSimpArgs false
set_option linter.unusedVariables false
namespace Go.Proofs.YtcjbjmbialienaaGreatDoor
open Go.RowKit
theorem jpv {c : Ctx} {L : List AV} {a : Act} (hn : a.tmps.size = L.length) (hs : ∀ i, V3 c (getA L i) (a.tmps.getD i undef)) : All2 (V3 c) L a.tmps.toList := by
 have hget : ∀ (L : List AV) (i : Nat), getA L i = (L[i]?).getD .dead := by
  intro L
  induction L with
  | nil => intro i; rfl
  | cons x L ih => intro i; cases i with
   | zero => rfl
   | succ i => simpa [getA] using ih i
 refine All2.of_get (by simp [hn]) (fun i x v hx hv => ?_)
 have h1 := hs i
 rw [hget, hx, Option.getD_some] at h1
 have h2 : a.tmps.getD i undef = v := by
  rw [Array.getElem?_toList] at hv
  have hi : i < a.tmps.size := (Array.getElem?_eq_some_iff.1 hv).1
  rw [Array.getElem?_eq_getElem hi] at hv
  simp [Array.getD, hi, Option.some.inj hv]
 rw [h2] at h1; exact h1
theorem jfs {c : Ctx} {L : List AV} {t : Array Value} (h : All2 (V3 c) L t.toList) : t.size = L.length ∧ ∀ i, V3 c (getA L i) (t.getD i undef) := by
 have hl := h.len
 have hget : ∀ (L : List AV) (i : Nat), getA L i = (L[i]?).getD .dead := by
  intro L
  induction L with
  | nil => intro i; rfl
  | cons x L ih => intro i; cases i with
   | zero => rfl
   | succ i => simpa [getA] using ih i
 refine ⟨by simpa using hl.symm, fun i => ?_⟩
 rw [hget]
 by_cases hi : i < L.length
 ·have hi' : i < t.size := by simp at hl; omega
  have := h.get' i L[i] t[i] (by simp [hi]) (by simp [hi'])
  simpa [hi, Array.getD, hi'] using this
 ·rw [List.getElem?_eq_none (by omega)]
  exact True.intro
theorem jjv {E : Env} {R : Root} (hR0 : ROk E R) {w : World} {S : Stab} {s : LSt} {β : Nat → Nat} {τ : Nat → Value} {F : Nat → Nat → Prop} (hM : Mem R (lookB s.B) (lookT s.T) β τ F S w)
  {sh : Sh} {xs : List AV} {y : HD sh.codes} {acc : Acc} (hc : sh.conv s.B s.T xs = some (y, acc)) (hok : resOk E acc = true) {vals : List Value} (hv : All2 (V3 (s.ctx w S β τ)) xs vals) :
  ∃ S', Mem R (lookB (sh.mk' y).B) (lookT (sh.mk' y).T) (shβ acc β) (shτ acc τ) (shF acc F) S' w ∧ All2 (V3 ((sh.mk' y).ctx w S' (shβ acc β) (shτ acc τ))) (sh.mk' y).L vals := by
 obtain ⟨hinv, S', hSS, hM', hcb, hct, hct2, hcb2, hMB, hv0⟩ := conv_mem hM (fun k b h => h) (fun n z h => h) hc hv
 simp only [resOk, Bool.and_eq_true, List.all_eq_true] at hok
 obtain ⟨okB, okT⟩ := hok
 have hβ : ∀ {k k'}, lookR acc.rb k = some k' → shβ acc β k = β k' := fun {k k'} h => by unfold shβ; rw [h]; rfl
 obtain ⟨g1, g2, g3, g4, g5⟩ := hMB R.fr (fun k b hk => by
   obtain ⟨k', b', e1, e2, _⟩ := hcb k b hk
   rw [hβ e1]; exact (hM'.boxes k' b' e2).1) (fun t tk b ht hb => by
   obtain ⟨n', e1, e2⟩ := hct t tk ht
   have hl := lookR_nodup hinv.rt.1 t n' e1
   unfold shF at hb
   rw [hl] at hb
   cases n' with
   | none => exact hb.elim
   | some m =>
    obtain ⟨tk0, e3, _⟩ := e2
    exact ((hM'.toks m tk0 e3).1 b hb).1)
 refine ⟨S', ⟨hM'.upd, hM'.old, hM'.new, hM'.keep, hM'.lt, g1, g2, g3, g4, g5, fun k b hb hk => ?_, fun t v tk hv ht => ?_, fun n tk hs i o d hn htr hin => by rw [Tok.whole_nil (jdc _ _ n tk hn) htr] at hin; cases hin⟩, hv0⟩
 ·obtain ⟨b1, hb1⟩ := Option.ne_none_iff_exists'.1 hk
  obtain ⟨k', b', e1, e2, _⟩ := hcb k b1 hb1
  have hr := hR0.1 k (by rw [hb]; simp)
  have := okB (k, k') (lookR_mem e1)
  simp [hr] at this
  subst this
  rw [hβ e1]
  exact hM'.bfix k b hb (by rw [e2]; simp)
 ·obtain ⟨n', e1, e2⟩ := hct t tk ht
  have hr := hR0.2.1 t (by rw [hv]; simp)
  have := okT (t, n') e1
  cases n' with
  | none => simp [hr] at this
  | some m =>
   simp [hr] at this
   subst this
   obtain ⟨tk0, e3, _⟩ := e2
   have hl := lookR_nodup hinv.rt.1 t (some t) e1
   unfold shτ
   rw [hl]
   exact hM'.tfix t v tk0 hv e3
theorem jlv {E : Env} {R : Root} (hR0 : ROk E R) {sh : Sh} {s : LSt} {y : HD sh.codes} (h : sh.to0 E s = some y) {a : Act} {w : World} (hR : Rel R s a w) : Rel R (sh.mk' y) a w := by
 unfold Sh.to0 at h
 split at h
 case h_2 => cases h
 rename_i y' acc hc
 split at h
 case isFalse => cases h
 rename_i hok
 cases h
 obtain ⟨β, τ, F, S, hM, hn, hd, hs⟩ := hR
 obtain ⟨S', hM', hv⟩ := jjv hR0 hM hc hok (jpv hn hs)
 obtain ⟨h1, h2⟩ := jfs hv
 exact ⟨_, _, _, S', hM', h1, hd, h2⟩
theorem jd0 {E : Env} {R : Root} (hR0 : ROk E R) {sh : Sh} {s : LSt} {y : HD sh.codes} (h : sh.to E s = some y) {a : Act} {w : World} (hR : Rel R s a w) : Rel R (sh.mk' y) a w := jlv hR0 h (jfP hR)
def CWp (E : Env) (R : Root) (c : Code) (Q : Exit → LSt → Prop) (s : LSt) : Prop :=
 ∀ a w, Rel R s a w → c.wp E.P (fun e a' w' => ∃ s', Rel R s' a' w' ∧ Q e s') a w
theorem jkx {ρ : Type} {E : Env} (hE : EnvOk E) {R : Root} (hR0 : ROk E R) (N : Nat) {z : ρ} : ∀ (c : Code) (h : Hint) (s : LSt) (K : Exit → LSt → Option ρ), runC N E jba c h s K = some z → CWp E R c (fun e s' => K e s' = some z) s := by
 intro c
 induction c with
 | skip => exact fun h s K hr a w hR => wp_skip ⟨s, hR, hr⟩
 | region id ops draw =>
  intro h s K hr a w hR
  simp only [runC] at hr
  simp only [jmA] at hr
  obtain ⟨s, hr, hgh⟩ := jcF h.ghosts s hr
  have hR := hgh R a w hR0 hR
  obtain ⟨s', fps, h1, h2⟩ := jdY E ops _ _ _ _ hr
  rw [List.reverse_nil, List.nil_append] at h2
  have h3 : (draw = true → jde ops.toList fps = true ∧ jbu ops.toList = true) ∧ K .normal s' = some z := by
   cases draw with
   | false => exact ⟨(fun h => by cases h), h2⟩
   | true =>
    simp only at h2
    split at h2
    ·rename_i hok
     simp only [jba, Bool.and_eq_true] at hok
     exact ⟨fun _ => hok, h2⟩
    ·cases h2
  exact jkM hE id ops draw hR0 h1 h3.1 hR (fun a' w' hR' => ⟨s', hR', h3.2⟩)
 | seq x y ihx ihy =>
  intro h s K hr a w hR
  simp only [runC] at hr
  split at hr
  ·rename_i hx hy hh
   refine wp_seq (wp_mono (ihx hx s _ hr a w hR) (fun e a' w' he => ?_))
   obtain ⟨s', hR', hq⟩ := he
   cases e with
   | normal => exact ihy hy s' K hq a' w' hR'
   | _ => exact ⟨s', hR', hq⟩
  ·rename_i sh hx hy hh
   unfold meet at hr
   refine wp_seq (wp_mono (ihx hx s _ hr a w hR) (fun e a' w' he => ?_))
   obtain ⟨s', hR', hq⟩ := he
   cases e with
   | normal =>
    simp only at hq
    split at hq
    case h_2 => cases hq
    rename_i g hg
    exact ihy hy _ K hq a' w' (jd0 hR0 hg hR')
   | _ => exact ⟨s', hR', hq⟩
 | cond c x y ihx ihy =>
  intro h s K hr a w hR
  simp only [runC] at hr
  split at hr
  case h_2 => cases hr
  rename_i b hb
  have hR' := hR
  obtain ⟨β, τ, F, S, hM, hn, hdf, hs⟩ := hR
  have hv : a.eval c = .bool b := v3_bool (hb ▸ V3_ev hs c)
  have hset : setOp s c b = s := by
   cases c with
   | tmp t => exact jdi hb
   | _ => rfl
  refine wp_cond_split hv (fun ht => ?_) (fun hf => ?_)
  ·rw [ht] at hr hset
   simp only at hr
   rw [hset] at hr
   exact ihx _ s K hr a w hR'
  ·rw [hf] at hr hset
   simp only at hr
   rw [hset] at hr
   exact ihy _ s K hr a w hR'
 | block id b ih =>
  intro h s K hr a w hR
  simp only [runC] at hr
  refine wp_block (wp_mono (ih _ s _ hr a w hR) (fun e a' w' he => ?_))
  obtain ⟨s', hR', hq⟩ := he
  cases e with
  | exit j =>
   simp only [Exit.inBlock]
   simp only at hq
   split
   ·rename_i e; rw [e, Nat.beq_refl] at hq; exact ⟨s', hR', hq⟩
   ·rename_i e; rw [show Nat.beq j id = false from by cases hb : Nat.beq j id with | true => exact absurd (Nat.eq_of_beq_eq_true hb) e | false => rfl] at hq; exact ⟨s', hR', hq⟩
  | _ => exact ⟨s', hR', hq⟩
 | exit id => exact fun h s K hr a w hR => wp_exit ⟨s, hR, hr⟩
 | ret => exact fun h s K hr a w hR => wp_ret ⟨s, hR, hr⟩
 | label l => exact fun h s K hr a w hR => wp_label ⟨s, hR, hr⟩
 | loop b ih =>
  intro h s K hr a w hR
  simp only [runC] at hr
  split at hr
  case h_2 => cases hr
  rename_i sh hb
  split at hr
  case h_2 => cases hr
  rename_i x0 hx0
  refine wp_loop_ghost (fun n a w => ∃ x, iter (fun go g => runC N E jba b hb (sh.mk' g) fun e s' => match e with | .normal => (match sh.to E s' with | some g => go g | none => none) | e => K e s') n x = some z ∧ Rel R (sh.mk' x) a w) N ⟨x0, hr, jd0 hR0 hx0 hR⟩ (fun n a w ⟨x, hx, hRx⟩ => ?_)
  cases n with
  | zero => cases hx
  | succ n =>
   simp only [iter] at hx
   refine wp_mono (ih hb _ _ hx a w hRx) (fun e a' w' he => ?_)
   obtain ⟨s', hR', hq⟩ := he
   cases e with
   | normal =>
    simp only at hq
    split at hq
    case h_2 => cases hq
    rename_i x' hx'
    exact ⟨n, Nat.lt_succ_self n, x', hq, jd0 hR0 hx' hR'⟩
   | _ => exact ⟨s', hR', hq⟩
 | _ => exact fun h s K hr => by simp only [runC] at hr; cases hr
end Go.Proofs.YtcjbjmbialienaaGreatDoor
