import Derived.Test.YtobfngpkemkojaaGreatDoorSD
import Derived.Test.YtobfngpkemkojaaGreatDoorMK
import Derived.Test.YtobfngpkemkojaaGreatDoorSE
set_option linter.unusedVariables false
set_option linter.unusedSimpArgs false
namespace Go.Proofs.YtobfngpkemkojaaGreatDoor
open Go.RowKit
theorem jD2 {α : Type} (Z : α → Int → Option Int) (N : Nat) (hN : 1048576 < N) (P : α → Prop) (T : α → Nat) (a : List α) (left : Int) (hl : a.length ≤ BigN) (h0 : 0 ≤ left) (h1 : left ≤ 1048576) (hZ : ∀ x, x ∈ a → ∀ l : Int, 0 ≤ l → l < left → SzP (T x) l (Z x l) (P x)) :
  SzP (mcnt T a + a.length) left (jgu Z N a left) (a.length ≤ 1048576 ∧ ∀ x, x ∈ a → P x) := by
 unfold SzP jgu
 have hl' : (a.length : Int) ≤ 9223372036854775807 := by have : a.length ≤ 9223372036854775807 := hl; omega
 refine Def.ite (by unfold fits; omega) ?_
 refine Def.dif (fun e => Def.ret (.inl rfl)) (fun e => ?_)
 refine Def.upto a.length (fun n g => ∃ l : Int, 0 ≤ l ∧ l + (mcnt T (a.take n) + a.length : Nat) ≤ left ∧ (∀ x, x ∈ a.take n → P x) ∧ g = (a, l, (n : Int))) ?_ ?_ N 0 _ (zaf _) ⟨_, by omega, by simp only [List.take_zero, mcnt]; omega, by simp, rfl⟩ (by omega)
 ·rintro go _ ⟨l, hl0, hl1, hP, rfl⟩
  dsimp only
  rw [zd (zm _), ze]
  rw [zq] at hl1
  exact Def.ret (.inr ⟨hl0, hl1, by omega, by rwa [zq] at hP⟩)
 ·rintro go n _ hn ⟨l, hl0, hl1, hP, rfl⟩ hgo
  dsimp only
  have hmc := jbm T a n hn
  rw [zb (by omega : (n : Int) < (a.length : Int)), zg, idx_at hn, za]
  refine Def.bind (hZ _ (zr hn) l hl0 (by omega)) fun r hr => ?_
  refine Def.dif (fun e => Def.ret (.inl rfl)) (fun e => ?_)
  rcases hr with hr | ⟨r0, r1, hx⟩
  ·omega
  refine Def.ite (fits_nat (n := n) (by omega)) ?_
  refine hgo _ ⟨r, r0, by omega, fun x hx' => ?_, by rw [cast_succ']⟩
  rw [zo hn, zaB, zaD] at hx'
  rcases hx' with hx' | rfl
  ·exact hP x hx'
  ·exact hx
def tQ : Nat → DQ → Nat
 | 0, _ => 0
 | n + 1, q => q.words.length + (mcnt (tQ n) q.kids + q.kids.length)
def GQ : Nat → DQ → Prop
 | 0, _ => False
 | n + 1, q => q.field.length ≤ 1048576 ∧ q.words.length ≤ 1048576 ∧ (∀ w, w ∈ q.words → w.length ≤ 1048576) ∧ q.kids.length ≤ 1048576 ∧ ∀ c, c ∈ q.kids → GQ n c
theorem GQ.bq : ∀ (n d : Nat) (q : DQ), GQ d q → BQ n q
 | 0, _, _, _ => True.intro
 | _ + 1, 0, _, h => h.elim
 | n + 1, d + 1, q, ⟨h1, h2, h3, h4, h5⟩ => ⟨h1, h2, h3, h4, fun c hc => GQ.bq n d c (h5 c hc)⟩
theorem sz_query (N : Nat) (hN : 1048576 < N) : ∀ (D : Nat) (q : DQ), OkQ BigN q → ∀ left : Int, 0 ≤ left → left ≤ 1048576 → left < D → SzP (tQ D q) left (l_szQuery_m N D q.kind q.field q.words q.lo q.hi q.kids left) (GQ D q)
 | 0, _, _, left, h0, _, h => by omega
 | D + 1, q, ho, left, h0, h1, h => by
  obtain @⟨k, a, b, f, ws, kids, hk, hf, hn, hw, ha, hb, hm, hq⟩ := ho
  rw [l_szQuery_m]
  refine (SzP.len (k := mcnt (tQ D) kids + kids.length + (mcnt List.length ws + ws.length)) hf h0 h1 (fun g0 g1 => ?_) (R := GQ (D + 1) (DQ.mk k f ws a b kids)) (Q := ws.length ≤ 1048576 ∧ (∀ w, w ∈ ws → w.length ≤ 1048576) ∧ kids.length ≤ 1048576 ∧ ∀ c, c ∈ kids → GQ D c) (fun hl hr => ⟨hl, hr.1, hr.2.1, hr.2.2.1, hr.2.2.2⟩)).imp (by unfold tQ; dsimp only [DQ.words, DQ.kids]; omega) id
  refine SzP.then (j := mcnt (tQ D) kids + kids.length) (jq4 N hN ws _ hn g0 (by omega) hw) (fun r r0 r1 => ?_) (Q := kids.length ≤ 1048576 ∧ ∀ c, c ∈ kids → GQ D c) (fun x y => ⟨x.1, x.2, y.1, y.2⟩)
  exact SzP.neg (jD2 (fun (x : DQ) l => l_szQuery_m N D x.kind x.field x.words x.lo x.hi x.kids l) N hN (GQ D) (tQ D) kids r hm r0 (by omega) (fun x hx l l0 l1 => sz_query N hN D x (hq x hx) l l0 (by omega) (by omega))) id
abbrev jAe {α β : Type} (T : α → Option β) (G : β → α) (z : α) (m : Int) (N : Nat) (a : List α) : Option (List α) :=
 (if (a.length : Int) = (a.length : Int) ∧ 0 ≤ (a.length : Int) ∧ (a.length : Int) * m ≤ 140737488355328 ∧ (a.length : Int) ≤ 140737488355328 then
  (iter (fun (go : (List α × List α × Int) → Option (List α)) (g : List α × List α × Int) =>
    match g with
    | (a2, out, i) =>
    (bif (decide (i < (a2.length : Int))) then
     (Option.bind (idx a2 i) fun (e : α) =>
      (Option.bind (T e) fun (r : β) =>
       (if 0 ≤ i ∧ i < (out.length : Int) then
        (Option.bind (out[i.toNat]?) fun (e2 : α) =>
         (if fits (i + 1) then (go (a2, (out.set i.toNat (G r)), (i + 1))) else none))
        else none)))
     else
     (some out))) N (a, (List.replicate (a.length : Int).toNat z), 0))
  else none)
theorem jB0 {α β : Type} (T : α → Option β) (G : β → α) (z : α) (m : Int) (N : Nat) (a : List α) (h : a.length < N) (hN : N ≤ 1099511627776) (hm : (a.length : Int) * m ≤ 140737488355328) (hT : ∀ x, x ∈ a → ∃ r, T x = some r ∧ G r = x) : jAe T G z m N a = some a := by
 unfold jAe
 rw [zf ⟨rfl, by omega, hm, by omega⟩]
 refine (iter_scan _ a.length (fun n => (a, a.take n ++ List.replicate (a.length - n) z, (n : Int))) (fun n => some a) (fun go => ?_) (fun go n hn hgo => ?_) N 0 (zaf _) (by omega))
 ·dsimp only
  rw [zd (zm _), ze, zq, Nat.sub_self]
  simp
 ·have hn' : (n : Int) < (a.length : Int) := by omega
  have hol : (a.take n ++ List.replicate (a.length - n) z).length = a.length := by simp; omega
  obtain ⟨r, hr, hg⟩ := hT _ (zr hn)
  dsimp only
  rw [zb hn', zg, idx_at hn, za, hr, za, zf (by omega), zai, zc (by omega), za, zf (fits_nat (n := n) (by omega)), hg, jkc a z n hn]
  simp only [cast_succ'] at hgo
  exact hgo
theorem to_query (N : Nat) (hN : N ≤ 1099511627776) (hM : 1048576 < N) : ∀ (D : Nat) (q : DQ), GQ D q → jxF N D q.kind q.field q.words q.lo q.hi q.kids = some (q.kind, q.field, q.words, q.lo, q.hi, q.kids)
 | D + 1, q, ⟨h1, h2, h3, h4, h5⟩ => by
  have e1 : jci N q.words = some q.words := jV some [] 16 N q.words (by omega) hN (by omega) (fun x hx => rfl)
  have e2 : jyE N (fun a => jxF N D a.1 a.2.1 a.2.2.1 a.2.2.2.1 a.2.2.2.2.1 a.2.2.2.2.2) q.kids = some q.kids :=
   jB0 (fun (e : DQ) => jxF N D e.kind e.field e.words e.lo e.hi e.kids) (fun r => DQ.mk r.1 r.2.1 r.2.2.1 r.2.2.2.1 r.2.2.2.2.1 r.2.2.2.2.2) _ 88 N q.kids (by omega) hN (by omega)
    (fun x hx => ⟨_, to_query N hN hM D x (h5 x hx), by cases x; rfl⟩)
  rw [jxF, e1, za, e2, za]
theorem jzk {α : Type} (E : α → α → Option Bool) (N : Nat) (a : List α) (h : a.length < N) (hN : N ≤ 1099511627776) (hE : ∀ x, x ∈ a → E x x = some true) : jf3 E N a a = some true := by
 unfold jf3
 rw [zb rfl, zn, ze]
 refine (iter_scan _ a.length (fun n => (a, a, (n : Int))) (fun n => some true) (fun go => ?_) (fun go n hn hgo => ?_) N 0 (zaf _) (by omega))
 ·dsimp only
  rw [zd (zm _), ze]
 ·dsimp only
  rw [zb (by omega : (n : Int) < (a.length : Int)), zg, idx_at hn, za, za, hE _ (zr hn), za, zn, ze, zf (fits_nat (n := n) (by omega))]
  simp only [cast_succ'] at hgo
  exact hgo
theorem eq_query (N : Nat) (hN : N ≤ 1099511627776) (hM : 1048576 < N) : ∀ (D : Nat) (q : DQ), GQ D q → jxK N D q.kind q.field q.words q.lo q.hi q.kids q.kind q.field q.words q.lo q.hi q.kids = some true
 | D + 1, q, ⟨h1, h2, h3, h4, h5⟩ => by
  have e1 : j0 N q.words q.words = some true := jzk (fun e e2 => some (decide (e = e2))) N q.words (by omega) hN (fun x hx => by rw [zb rfl])
  have e2 : jyS N (fun a => jxK N D a.1 a.2.1 a.2.2.1 a.2.2.2.1 a.2.2.2.2.1 a.2.2.2.2.2.1 a.2.2.2.2.2.2.1 a.2.2.2.2.2.2.2.1 a.2.2.2.2.2.2.2.2.1 a.2.2.2.2.2.2.2.2.2.1 a.2.2.2.2.2.2.2.2.2.2.1 a.2.2.2.2.2.2.2.2.2.2.2) q.kids q.kids = some true :=
   jzk (fun (x y : DQ) => jxK N D x.kind x.field x.words x.lo x.hi x.kids y.kind y.field y.words y.lo y.hi y.kids) N q.kids (by omega) hN (fun x hx => eq_query N hN hM D x (h5 x hx))
  rw [jxK]
  simp only [decide_true, zn, ze, e1, e2, za]
end Go.Proofs.YtobfngpkemkojaaGreatDoor
namespace Go.Proofs.YtobfngpkemkojaaGreatDoor
open Go.RowKit
structure Args3 (N : Nat) (c : EConf) (s : ESeg) (q : DQ) : Prop where
 oc : okD Sm TConf c
 os : okD Sm TSeg s
 gq : GQ N q
 all : tot TConf c + tot TSeg s + tQ N q ≤ 1048576
theorem args3 {N : Nat} (hM : Sm < N) (hN : N ≤ 16777216) (c : EConf) (s : ESeg) (q : DQ) (hc : okD BigN TConf c) (hs : okD BigN TSeg s) (hq : OkQ BigN q) {f : Option Bool} (h : Args3 N c s q → Def f fun r => r = true) :
  Def (Option.bind (l_szConf_m N c.1 c.2 1048576) fun r => bif decide (r < 0) then some true else Option.bind (l_szSeg_m N s.1 s.2 r) fun r2 => bif decide (r2 < 0) then some true else Option.bind (l_szQuery_m N N q.kind q.field q.words q.lo q.hi q.kids r2) fun r3 => bif decide (r3 < 0) then some true else f) fun r => r = true := by
 have hM' : 1048576 < N := hM
 refine Def.bind (szConf_spec N hM c 1048576 (by omega) (by omega) hc) fun r hr => ?_
 refine Def.dif (fun e => Def.ret rfl) (fun e3 => ?_)
 rcases hr with hr | ⟨r0, r1, oc⟩
 ·omega
 refine Def.bind (szSeg_spec N hM s r r0 (by omega) hs) fun r2 hr2 => ?_
 refine Def.dif (fun e => Def.ret rfl) (fun e4 => ?_)
 rcases hr2 with hr2 | ⟨r3, r4, os⟩
 ·omega
 refine Def.bind (sz_query N hM' N q hq r2 r3 (by omega) (by omega)) fun r5 hr5 => ?_
 refine Def.dif (fun e => Def.ret rfl) (fun e5 => ?_)
 rcases hr5 with hr5 | ⟨r6, r7, gq⟩
 ·omega
 exact h ⟨oc, os, gq, by omega⟩
theorem Args3.fit {N : Nat} {c : EConf} {s : ESeg} {q : DQ} (h : Args3 N c s q) (hM : Sm < N) (hN : N ≤ 16777216) : Fit N c s q := ⟨hM, hN, h.oc, fun x hx => h.os.1.2 x hx, h.os.1.1, GQ.bq 4 N q h.gq⟩
theorem fnExactScoreOf_gen (N : Nat) (hM : Sm < N) (hN : N ≤ 16777216) (c : EConf) (s : ESeg) (q : DQ) (id : Int) (hc : okD BigN TConf c) (hs : okD BigN TSeg s) (hq : OkQ BigN q) : l_FnExactScoreOf_m N c.1 c.2 s.1 s.2 q.kind q.field q.words q.lo q.hi q.kids id = some true := by
 have hM' : 1048576 < N := hM
 have hN' : N ≤ 1099511627776 := by omega
 refine Def.get ?_
 unfold l_FnExactScoreOf_m
 refine args3 hM hN c s q hc hs hq fun a => ?_
 have F := a.fit hM hN
 have t1 := toConf_spec N hM hN' c a.oc
 have t2 := toSeg_spec N hM hN' s a.os
 have t3 := to_query N hN' hM' N q a.gq
 have t4 := eqConf_spec N hM hN' c c a.oc
 have t5 := eqSeg_spec N hM hN' s s a.os
 have t6 := eq_query N hN' hM' N q a.gq
 have t7 := score_s F id
 have t8 := score_i F id
 simp only [t1, t2, t3, t4, t5, t6, t7, t8, za, decide_true, zn, ze]
 exact Def.ret rfl
abbrev EQuery : Type := Int × List UInt8 × List (List UInt8) × Int × Int × List DQ
abbrev TQuery : Tp := .pair (.int .i64) (.pair .str (.pair (.sl .str) (.pair (.int .i64) (.pair (.int .i64) (.sl .q)))))
def qOf (x : EQuery) : DQ := .mk x.1 x.2.1 x.2.2.1 x.2.2.2.1 x.2.2.2.2.1 x.2.2.2.2.2
theorem qOf_ok {x : EQuery} (h : okD BigN TQuery x) : OkQ BigN (qOf x) := OkQ.mk h.1 h.2.1 h.2.2.1.1 h.2.2.1.2 h.2.2.2.1 h.2.2.2.2.1 h.2.2.2.2.2.1 h.2.2.2.2.2.2
theorem fnExactScoreOf_law (x0 : EConf) (x1 : ESeg) (x2 : EQuery) (x3 : Int) (o0 : okD BigN TConf x0) (o1 : okD BigN TSeg x1) (o2 : okD BigN TQuery x2) (o3 : okD BigN (.int .i64) x3) : l_FnExactScoreOf_m 1048700 x0.1 x0.2 x1.1 x1.2 x2.1 x2.2.1 x2.2.2.1 x2.2.2.2.1 x2.2.2.2.2.1 x2.2.2.2.2.2 x3 = some true :=
 fnExactScoreOf_gen 1048700 (by decide) (by decide) x0 x1 (qOf x2) x3 o0 o1 (qOf_ok o2)
end Go.Proofs.YtobfngpkemkojaaGreatDoor
