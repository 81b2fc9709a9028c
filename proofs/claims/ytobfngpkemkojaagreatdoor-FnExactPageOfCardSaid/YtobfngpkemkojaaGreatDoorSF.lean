import Derived.Test.YtobfngpkemkojaaGreatDoorSD
import Derived.Test.YtobfngpkemkojaaGreatDoorMK
import Derived.Test.YtobfngpkemkojaaGreatDoorSE
set_option linter.unusedVariables false
set_option linter.unusedSimpArgs false
namespace Go.Proofs.YtobfngpkemkojaaGreatDoor
open Go.RowKit
theorem jD2 {α : Type} (Z : α → Int → Option Int) (N : Nat) (hN : 1048576 < N) (P : α → Prop) (T : α → Nat) (a : List α) (left : Int) (hl : a.length ≤ BigN) (h0 : 0 ≤ left) (h1 : left ≤ 1048576) (hZ : ∀ x, x ∈ a → ∀ l : Int, 0 ≤ l → l < left → SzP (T x) l (Z x l) (P x)) :
  SzP (mcnt T a + a.length) left (jgu Z N a left) (a.length ≤ 1048576 ∧ ∀ x, x ∈ a → P x) := by
 unfold SzP jgu
 have hl' : (a.length : Int) ≤ 9223372036854775807 := by have : a.length ≤ 9223372036854775807 := hl; omega
 refine Def.ite (by unfold fits; omega) ?_
 refine Def.dif (fun e => Def.ret (.inl rfl)) (fun e => ?_)
 refine Def.upto a.length (fun n g => ∃ l : Int, 0 ≤ l ∧ l + (mcnt T (a.take n) + a.length : Nat) ≤ left ∧ (∀ x, x ∈ a.take n → P x) ∧ g = (a, l, (n : Int))) ?_ ?_ N 0 _ (zaf _) ⟨_, by omega, by simp only [zbJ, mcnt]; omega, by simp, rfl⟩ (by omega)
 ·rintro go _ ⟨l, hl0, hl1, hP, rfl⟩
  dsimp only
  rw [zd (zm _), ze]
  rw [zq] at hl1
  exact Def.ret (.inr ⟨hl0, hl1, by omega, by rwa [zq] at hP⟩)
 ·rintro go n _ hn ⟨l, hl0, hl1, hP, rfl⟩ hgo
  dsimp only
  have hmc := jbm T a n hn
  rw [zb (by omega : (n : Int) < (a.length : Int)), zg, idx_at hn, za]
  refine Def.bind (hZ _ (zr hn) l hl0 (by omega)) fun r hr => ?_
  refine Def.dif (fun e => Def.ret (.inl rfl)) (fun e => ?_)
  rcases hr with hr | ⟨r0, r1, hx⟩
  ·omega
  refine Def.ite (fits_nat (n := n) (by omega)) ?_
  refine hgo _ ⟨r, r0, by omega, fun x hx' => ?_, by rw [cast_succ']⟩
  rw [zo hn, zaB, zaD] at hx'
  rcases hx' with hx' | rfl
  ·exact hP x hx'
  ·exact hx
def tQ : Nat → DQ → Nat
 | 0, _ => 0
 | n + 1, q => q.words.length + (mcnt (tQ n) q.kids + q.kids.length)
def GQ : Nat → DQ → Prop
 | 0, _ => False
 | n + 1, q => q.field.length ≤ 1048576 ∧ q.words.length ≤ 1048576 ∧ (∀ w, w ∈ q.words → w.length ≤ 1048576) ∧ q.kids.length ≤ 1048576 ∧ ∀ c, c ∈ q.kids → GQ n c
theorem GQ.bq : ∀ (n d : Nat) (q : DQ), GQ d q → BQ n q
 | 0, _, _, _ => True.intro
 | _ + 1, 0, _, h => h.elim
 | n + 1, d + 1, q, ⟨h1, h2, h3, h4, h5⟩ => ⟨h1, h2, h3, h4, fun c hc => GQ.bq n d c (h5 c hc)⟩
theorem sz_query (N : Nat) (hN : 1048576 < N) : ∀ (D : Nat) (q : DQ), OkQ BigN q → ∀ left : Int, 0 ≤ left → left ≤ 1048576 → left < D → SzP (tQ D q) left (l_szQuery_m N D q.kind q.field q.words q.lo q.hi q.kids left) (GQ D q)
 | 0, _, _, left, h0, _, h => by omega
 | D + 1, q, ho, left, h0, h1, h => by
  obtain @⟨k, a, b, f, ws, kids, hk, hf, hn, hw, ha, hb, hm, hq⟩ := ho
  rw [l_szQuery_m]
  refine (SzP.len (k := mcnt (tQ D) kids + kids.length + (mcnt List.length ws + ws.length)) hf h0 h1 (fun g0 g1 => ?_) (R := GQ (D + 1) (DQ.mk k f ws a b kids)) (Q := ws.length ≤ 1048576 ∧ (∀ w, w ∈ ws → w.length ≤ 1048576) ∧ kids.length ≤ 1048576 ∧ ∀ c, c ∈ kids → GQ D c) (fun hl hr => ⟨hl, hr.1, hr.2.1, hr.2.2.1, hr.2.2.2⟩)).imp (by unfold tQ; dsimp only [DQ.words, DQ.kids]; omega) id
  refine SzP.then (j := mcnt (tQ D) kids + kids.length) (jq4 N hN ws _ hn g0 (by omega) hw) (fun r r0 r1 => ?_) (Q := kids.length ≤ 1048576 ∧ ∀ c, c ∈ kids → GQ D c) (fun x y => ⟨x.1, x.2, y.1, y.2⟩)
  exact SzP.neg (jD2 (fun (x : DQ) l => l_szQuery_m N D x.kind x.field x.words x.lo x.hi x.kids l) N hN (GQ D) (tQ D) kids r hm r0 (by omega) (fun x hx l l0 l1 => sz_query N hN D x (hq x hx) l l0 (by omega) (by omega))) id
abbrev jAe {α β : Type} (T : α → Option β) (G : β → α) (z : α) (m : Int) (N : Nat) (a : List α) : Option (List α) :=
 (if (a.length : Int) = (a.length : Int) ∧ 0 ≤ (a.length : Int) ∧ (a.length : Int) * m ≤ 140737488355328 ∧ (a.length : Int) ≤ 140737488355328 then
  (iter (fun (go : (List α × List α × Int) → Option (List α)) (g : List α × List α × Int) =>
    match g with
    | (a2, out, i) =>
    (bif (decide (i < (a2.length : Int))) then
     (Option.bind (idx a2 i) fun (e : α) =>
      (Option.bind (T e) fun (r : β) =>
       (if 0 ≤ i ∧ i < (out.length : Int) then
        (Option.bind (out[i.toNat]?) fun (e2 : α) =>
         (if fits (i + 1) then (go (a2, (out.set i.toNat (G r)), (i + 1))) else none))
        else none)))
     else
     (some out))) N (a, (List.replicate (a.length : Int).toNat z), 0))
  else none)
theorem jB0 {α β : Type} (T : α → Option β) (G : β → α) (z : α) (m : Int) (N : Nat) (a : List α) (h : a.length < N) (hN : N ≤ 1099511627776) (hm : (a.length : Int) * m ≤ 140737488355328) (hT : ∀ x, x ∈ a → ∃ r, T x = some r ∧ G r = x) : jAe T G z m N a = some a := by
 unfold jAe
 rw [zf ⟨rfl, by omega, hm, by omega⟩]
 refine (iter_scan _ a.length (fun n => (a, a.take n ++ List.replicate (a.length - n) z, (n : Int))) (fun n => some a) (fun go => ?_) (fun go n hn hgo => ?_) N 0 (zaf _) (by omega))
 ·dsimp only
  rw [zd (zm _), ze, zq, Nat.sub_self]
  simp
 ·have hn' : (n : Int) < (a.length : Int) := by omega
  have hol : (a.take n ++ List.replicate (a.length - n) z).length = a.length := by simp; omega
  obtain ⟨r, hr, hg⟩ := hT _ (zr hn)
  dsimp only
  rw [zb hn', zg, idx_at hn, za, hr, za, zf (by omega), zai, zc (by omega), za, zf (fits_nat (n := n) (by omega)), hg, jkc a z n hn]
  simp only [cast_succ'] at hgo
  exact hgo
theorem to_query (N : Nat) (hN : N ≤ 1099511627776) (hM : 1048576 < N) : ∀ (D : Nat) (q : DQ), GQ D q → jxF N D q.kind q.field q.words q.lo q.hi q.kids = some (q.kind, q.field, q.words, q.lo, q.hi, q.kids)
 | D + 1, q, ⟨h1, h2, h3, h4, h5⟩ => by
  have e1 : jci N q.words = some q.words := jV some [] 16 N q.words (by omega) hN (by omega) (fun x hx => rfl)
  have e2 : jyE N (fun a => jxF N D a.1 a.2.1 a.2.2.1 a.2.2.2.1 a.2.2.2.2.1 a.2.2.2.2.2) q.kids = some q.kids :=
   jB0 (fun (e : DQ) => jxF N D e.kind e.field e.words e.lo e.hi e.kids) (fun r => DQ.mk r.1 r.2.1 r.2.2.1 r.2.2.2.1 r.2.2.2.2.1 r.2.2.2.2.2) _ 88 N q.kids (by omega) hN (by omega)
    (fun x hx => ⟨_, to_query N hN hM D x (h5 x hx), by cases x; rfl⟩)
  rw [jxF, e1, za, e2, za]
theorem eqLoop_self {α : Type} (E : α → α → Option Bool) (N : Nat) (a : List α) (h : a.length < N) (hN : N ≤ 1099511627776) (hE : ∀ x, x ∈ a → E x x = some true) : jf3 E N a a = some true := by
 unfold jf3
 rw [zb rfl, zn, ze]
 refine (iter_scan _ a.length (fun n => (a, a, (n : Int))) (fun n => some true) (fun go => ?_) (fun go n hn hgo => ?_) N 0 (zaf _) (by omega))
 ·dsimp only
  rw [zd (zm _), ze]
 ·dsimp only
  rw [zb (by omega : (n : Int) < (a.length : Int)), zg, idx_at hn, za, za, hE _ (zr hn), za, zn, ze, zf (fits_nat (n := n) (by omega))]
  simp only [cast_succ'] at hgo
  exact hgo
theorem eq_query (N : Nat) (hN : N ≤ 1099511627776) (hM : 1048576 < N) : ∀ (D : Nat) (q : DQ), GQ D q → jxK N D q.kind q.field q.words q.lo q.hi q.kids q.kind q.field q.words q.lo q.hi q.kids = some true
 | D + 1, q, ⟨h1, h2, h3, h4, h5⟩ => by
  have e1 : j0 N q.words q.words = some true := eqLoop_self (fun e e2 => some (decide (e = e2))) N q.words (by omega) hN (fun x hx => by rw [zb rfl])
  have e2 : jyS N (fun a => jxK N D a.1 a.2.1 a.2.2.1 a.2.2.2.1 a.2.2.2.2.1 a.2.2.2.2.2.1 a.2.2.2.2.2.2.1 a.2.2.2.2.2.2.2.1 a.2.2.2.2.2.2.2.2.1 a.2.2.2.2.2.2.2.2.2.1 a.2.2.2.2.2.2.2.2.2.2.1 a.2.2.2.2.2.2.2.2.2.2.2) q.kids q.kids = some true :=
   eqLoop_self (fun (x y : DQ) => jxK N D x.kind x.field x.words x.lo x.hi x.kids y.kind y.field y.words y.lo y.hi y.kids) N q.kids (by omega) hN (fun x hx => eq_query N hN hM D x (h5 x hx))
  rw [jxK]
  simp only [decide_true, zn, ze, e1, e2, za]
theorem mcnt_str (l : List (List UInt8)) : mcnt cStr l = l.length := by
 induction l with
 | nil => rfl
 | cons x l ih => rw [mcnt, ih, zi]; unfold cStr; omega
theorem mcnt_hit (l : List EHit) : mcnt cHit l = 2 * l.length := by
 induction l with
 | nil => rfl
 | cons x l ih => rw [mcnt, ih, zi]; unfold cHit; omega
theorem jCY (k : Int) (f : List UInt8) (w : List (List UInt8)) (a b : Int) (c : List DQ) : (DQ.mk k f w a b c).kind = k := rfl
theorem jAH (k : Int) (f : List UInt8) (w : List (List UInt8)) (a b : Int) (c : List DQ) : (DQ.mk k f w a b c).field = f := rfl
theorem jCR (k : Int) (f : List UInt8) (w : List (List UInt8)) (a b : Int) (c : List DQ) : (DQ.mk k f w a b c).words = w := rfl
theorem jDb (k : Int) (f : List UInt8) (w : List (List UInt8)) (a b : Int) (c : List DQ) : (DQ.mk k f w a b c).lo = a := rfl
theorem jBV (k : Int) (f : List UInt8) (w : List (List UInt8)) (a b : Int) (c : List DQ) : (DQ.mk k f w a b c).hi = b := rfl
theorem jBl (k : Int) (f : List UInt8) (w : List (List UInt8)) (a b : Int) (c : List DQ) : (DQ.mk k f w a b c).kids = c := rfl
theorem mark_queries (N : Nat) (hM : Sm < N) (hN : N ≤ 1099511627776) : ∀ (d D : Nat), d < D → ∀ (l : List DQ) (k : Int), l.length ≤ 1048576 → (∀ x, x ∈ l → GQ d x) → 0 ≤ k → k + 4 * (mcnt (tQ d) l + l.length : Nat) ≤ 1000000000000 → Def (jxQ N D l k) fun r => k ≤ r.1 ∧ r.1 ≤ k + 4 * (mcnt (tQ d) l + l.length : Nat)
 | _, 0, h, _, _, _, _, _, _ => absurd h (zbN _)
 | d, D + 1, hD, l, k, hl, hg, hk0, hk => by
  have hM' : 1048576 < N := hM
  rw [jxQ]
  refine Def.upto l.length (fun n g => ∃ (a2 : List DQ) (k2 : Int), a2.length = l.length ∧ a2.drop n = l.drop n ∧ k ≤ k2 ∧ k2 ≤ k + 4 * (mcnt (tQ d) (l.take n) + n : Nat) ∧ g = (a2, k2, (n : Int))) ?_ ?_ N 0 _ (zaf _) ⟨l, k, rfl, rfl, zbD _, by simp only [zbJ, mcnt]; omega, rfl⟩ (by omega)
  ·rintro go _ ⟨a2, k2, e1, e2, h1, h2, rfl⟩
   dsimp only
   rw [e1, zd (zm _), ze]
   rw [zq] at h2
   exact Def.ret ⟨h1, h2⟩
  ·rintro go n _ hn ⟨a2, k2, e1, e2, h1, h2, rfl⟩ hgo
   dsimp only
   have hn2 : n < a2.length := by omega
   have hcond : 0 ≤ (n : Int) ∧ (n : Int) < (a2.length : Int) := by omega
   rw [zan hn2, zan hn, List.cons.injEq] at e2
   obtain ⟨e3, e4⟩ := e2
   have hget : a2[n]? = some l[n] := by rw [zc hn2, e3]
   have hmc := jbm (tQ d) l n hn
   have hmle := jcY (tQ d) l (n + 1)
   have hgx := hg _ (zr hn)
   have hset : ∀ v : DQ, (a2.set n v)[n]? = some v := fun v => zbL hn2
   cases d with
   | zero => exact hgx.elim
   | succ d =>
   obtain ⟨g1, g2, g3, g4, g5⟩ := hgx
   have ht : tQ (d + 1) l[n] = l[n].words.length + (mcnt (tQ d) l[n].kids + l[n].kids.length) := rfl
   have hst := mcnt_str l[n].words
   have hms := markStringS_spec N hM hN l[n].words (k2 + 1 + 1) (by omega) (by omega) ⟨g2, fun x hx => g3 x hx⟩
   rw [zb (by omega : (n : Int) < (a2.length : Int)), zg]
   simp only [zai, zap, List.set_set, zf hcond, hget, hset, za, jCY, jAH, jCR, jDb, jBV, jBl]
   rw [zf (by unfold fits; omega), jU N (k2 + 1) (by omega) (by omega) (by omega), za, zf (by unfold fits; omega), hms, za]
   dsimp only
   rw [zf (by unfold fits; omega), zf (by unfold fits; omega)]
   refine Def.bind (mark_queries N hM hN d D (by omega) l[n].kids _ g4 g5 (by omega) (by omega)) fun r hr => ?_
   rw [zf (fits_nat (n := n) (by omega))]
   refine hgo _ ⟨_, _, ?_, ?_, ?_, ?_, by rw [cast_succ']⟩
   ·rw [zaC, zaC, zap]
    exact e1
   ·rw [jac, jac, List.drop_set_of_lt (by omega)]
    exact e4
   ·omega
   ·omega
end Go.Proofs.YtobfngpkemkojaaGreatDoor
namespace Go.Proofs.YtobfngpkemkojaaGreatDoor
open Go.RowKit
structure Args3 (N : Nat) (c : EConf) (s : ESeg) (q : DQ) : Prop where
 oc : okD Sm TConf c
 os : okD Sm TSeg s
 gq : GQ N q
 all : tot TConf c + tot TSeg s + tQ N q ≤ 1048576
theorem args3 {N : Nat} (hM : Sm < N) (hN : N ≤ 16777216) (c : EConf) (s : ESeg) (q : DQ) (hc : okD BigN TConf c) (hs : okD BigN TSeg s) (hq : OkQ BigN q) {f : Option Bool} (h : Args3 N c s q → Def f fun r => r = true) :
  Def (Option.bind (l_szConf_m N c.1 c.2 1048576) fun r => bif decide (r < 0) then some true else Option.bind (l_szSeg_m N s.1 s.2 r) fun r2 => bif decide (r2 < 0) then some true else Option.bind (l_szQuery_m N N q.kind q.field q.words q.lo q.hi q.kids r2) fun r3 => bif decide (r3 < 0) then some true else f) fun r => r = true := by
 have hM' : 1048576 < N := hM
 refine Def.bind (szConf_spec N hM c 1048576 (by omega) (by omega) hc) fun r hr => ?_
 refine Def.dif (fun e => Def.ret rfl) (fun e3 => ?_)
 rcases hr with hr | ⟨r0, r1, oc⟩
 ·omega
 refine Def.bind (szSeg_spec N hM s r r0 (by omega) hs) fun r2 hr2 => ?_
 refine Def.dif (fun e => Def.ret rfl) (fun e4 => ?_)
 rcases hr2 with hr2 | ⟨r3, r4, os⟩
 ·omega
 refine Def.bind (sz_query N hM' N q hq r2 r3 (by omega) (by omega)) fun r5 hr5 => ?_
 refine Def.dif (fun e => Def.ret rfl) (fun e5 => ?_)
 rcases hr5 with hr5 | ⟨r6, r7, gq⟩
 ·omega
 exact h ⟨oc, os, gq, by omega⟩
theorem Args3.fit {N : Nat} {c : EConf} {s : ESeg} {q : DQ} (h : Args3 N c s q) (hM : Sm < N) (hN : N ≤ 16777216) : Fit N c s q := ⟨hM, hN, h.oc, fun x hx => h.os.1.2 x hx, h.os.1.1, GQ.bq 4 N q h.gq⟩
theorem mark_query (N : Nat) (hM : Sm < N) (hN : N ≤ 1099511627776) (q : DQ) (hq : GQ N q) (k : Int) (hk0 : 0 ≤ k) (hk : k + 4 * (tQ N q : Nat) ≤ 1000000000000) : Def (l_markQuery_m N q.kind q.field q.words q.lo q.hi q.kids k) fun r => 0 ≤ r.1 := by
 have hM' : 1048576 < N := hM
 obtain ⟨n, rfl⟩ : ∃ n, N = n + 1 := ⟨N - 1, by omega⟩
 obtain ⟨g1, g2, g3, g4, g5⟩ := hq
 have ht : tQ (n + 1) q = q.words.length + (mcnt (tQ n) q.kids + q.kids.length) := rfl
 have hst := mcnt_str q.words
 unfold l_markQuery_m
 rw [markStringS_spec (n + 1) hM hN q.words k hk0 (by omega) ⟨g2, fun x hx => g3 x hx⟩, za]
 refine Def.bind (mark_queries (n + 1) hM hN n (n + 1) (by omega) q.kids _ g4 g5 (by omega) (by omega)) fun r hr => ?_
 exact Def.ret (by show 0 ≤ r.1; omega)
theorem hits_ok {N : Nat} {c : EConf} {s : ESeg} {q : DQ} (h : Fit N c s q) (P : EHit → Bool) : ∀ x, x ∈ hitsR N c s q P → okD Sm THit x := by
 intro x hx
 unfold hitsR at hx
 cases hs : okSeg c s with
 | false => rw [hs] at hx; cases hx
 | true =>
  cases hq : okQ 4 q with
  | false => rw [hs, hq] at hx; cases hx
  | true =>
   rw [hs, hq] at hx
   obtain ⟨d, hd, rfl, h0, _⟩ := hitsP_mem (V := fun d => valS N N c s d q) hx
   have g := h.good hs
   have hb := score_both N g d (docOf_self g.dok.inn.ids d hd) q hq
   have h1 := hb.low
   have h2 := hb.top
   refine ⟨(h.od d hd).1, ?_⟩
   show IntKind.i64.min ≤ _ ∧ _ ≤ IntKind.i64.max
   have h4 : IntKind.i64.min = -9223372036854775808 := rfl
   have h5 : IntKind.i64.max = 9223372036854775807 := rfl
   rw [h4, h5]
   dsimp only
   omega
theorem topR_ok {N : Nat} {c : EConf} {s : ESeg} {q : DQ} (h : Fit N c s q) (P : EHit → Bool) (most : Nat) : (topR N c s q P most).length ≤ 16 ∧ okD Sm (.sl THit) (topR N c s q P most) := by
 unfold topR
 have hl := hitsR_len N c s q P
 have hsl : (sortH (hitsR N c s q P)).length ≤ 16 := by
  rw [show sortH _ = List.foldl insH [] _ from rfl, sortH_len]
  simp only [zac]
  omega
 have hlt : ((sortH (hitsR N c s q P)).take most).length ≤ 16 := by rw [zah]; omega
 refine ⟨hlt, ⟨zau hlt (by decide), fun x hx => ?_⟩⟩
 exact hits_ok h P x (((sortH_ok (hitsR_dist N c s q P)).2 x).1 (zaP hx))
abbrev EQuery : Type := Int × List UInt8 × List (List UInt8) × Int × Int × List DQ
abbrev TQuery : Tp := .pair (.int .i64) (.pair .str (.pair (.sl .str) (.pair (.int .i64) (.pair (.int .i64) (.sl .q)))))
def qOf (x : EQuery) : DQ := .mk x.1 x.2.1 x.2.2.1 x.2.2.2.1 x.2.2.2.2.1 x.2.2.2.2.2
theorem qOf_ok {x : EQuery} (h : okD BigN TQuery x) : OkQ BigN (qOf x) := OkQ.mk h.1 h.2.1 h.2.2.1.1 h.2.2.1.2 h.2.2.2.1 h.2.2.2.2.1 h.2.2.2.2.2.1 h.2.2.2.2.2.2
end Go.Proofs.YtobfngpkemkojaaGreatDoor
namespace Go.Proofs.YtobfngpkemkojaaGreatDoor
open Go.RowKit
def pagesN (k : Nat) (l : List EHit) (n : Nat) : List (List EHit) := (List.range n).map fun i => (l.drop (k * i)).take k
theorem pagesN_succ (k : Nat) (l : List EHit) (n : Nat) : pagesN k l (n + 1) = pagesN k l n ++ [(l.drop (k * n)).take k] := by
 unfold pagesN
 rw [List.range_succ, zaK]
 rfl
theorem pagesN_len (k : Nat) (l : List EHit) (n : Nat) : (pagesN k l n).length = n := by
 unfold pagesN
 rw [zar, List.length_range]
def rounds (k : Nat) (l : List EHit) : Nat := (l.length + k - 1) / k
theorem rounds_in {k : Nat} (hk : 1 ≤ k) (l : List EHit) {n : Nat} (h : n < rounds k l) : k * n < l.length := by
 have h1 := (Nat.le_div_iff_mul_le (show 0 < k by omega)).1 (show n + 1 ≤ (l.length + k - 1) / k from h)
 rw [Nat.succ_mul, zbx n k] at h1
 omega
theorem rounds_end {k : Nat} (hk : 1 ≤ k) (l : List EHit) : l.length ≤ k * rounds k l := by
 have h1 := Nat.div_add_mod (l.length + k - 1) k
 have h2 := Nat.mod_lt (l.length + k - 1) (show 0 < k by omega)
 unfold rounds
 omega
theorem rounds_le {k : Nat} (hk : 1 ≤ k) (l : List EHit) : rounds k l ≤ l.length := by
 cases h : rounds k l with
 | zero => exact zaf _
 | succ n =>
  have h1 := rounds_in hk l (show n < rounds k l by omega)
  have h2 := Nat.le_mul_of_pos_left n (show 0 < k by omega)
  omega
def pagesF (k : Nat) (l : List EHit) : List (List EHit) := pagesN k l (rounds k l)
theorem cut_mid {α : Type} (l : List α) (a k : Nat) (h : a < l.length) : cut l (a : Int) (if (l.length : Int) < (a : Int) + (k : Int) then (l.length : Int) else (a : Int) + (k : Int)) = some ((l.drop a).take k) := by
 have e : (if (l.length : Int) < (a : Int) + (k : Int) then (l.length : Int) else (a : Int) + (k : Int)) = ((min l.length (a + k) : Nat) : Int) := by split <;> omega
 rw [e]
 unfold cut
 rw [zf ⟨by omega, by omega, by omega⟩, zai, zai]
 congr 1
 rw [List.drop_take, List.take_eq_take_iff, zaQ]
 omega
theorem page_i {N : Nat} {c : EConf} {s : ESeg} {q : DQ} (h : Fit N c s q) (k : Nat) (h1 : 1 ≤ k) (h2 : k ≤ 16) : i_PageOf_m N c.1 c.2 s.1 s.2 q.kind q.field q.words q.lo q.hi q.kids k = some (pagesF k (topR N c s q allP 16)) := by
 have hM : 1048576 < N := h.big
 have hl := (topR_ok h allP 16).1
 have hb : (decide ((1 : Int) ≤ k) && decide ((k : Int) ≤ 16)) = true := by simp only [zj, zw]; omega
 have hf := first_spec h.big h.top c s q allP 16 (zae _)
 unfold i_PageOf_m
 rw [within_spec, za, hb, zn, ze, scores_spec h, za, show (16 : Int) = ((16 : Nat) : Int) from rfl, hf, za]
 generalize topR N c s q allP 16 = l at *
 have hr := rounds_le h1 l
 refine (iter_scan _ (rounds k l) (fun n => ((k : Int), pagesN k l n, l, ((k * n : Nat) : Int))) (fun n => some (pagesF k l)) (fun go => ?_) (fun go n hn hgo => ?_) N 0 (zaf _) (by omega)).trans rfl
 ·dsimp only
  have := rounds_end h1 l
  rw [zd (by omega), ze]
  rfl
 ·dsimp only
  have hin := rounds_in h1 l hn
  have hp := pagesN_len k l n
  have hfit : fits (((k * n : Nat) : Int) + (k : Int)) := fits_abs (by omega) (by omega)
  have hdl : ((l.drop (k * n)).take k).length ≤ 16 := by rw [zah]; omega
  rw [show k * (n + 1) = k * n + k from rfl, Int.natCast_add, pagesN_succ] at hgo
  rw [zb (by omega : ((k * n : Nat) : Int) < (l.length : Int)), zg, zf hfit, cut_mid l (k * n) k hin, za, zf (room_of (by rw [zac]; omega) (by rw [zac]; omega)), zf (room_of (by rw [zbE]; omega) (by rw [zbE]; omega)), zf hfit]
  exact hgo
theorem page_s {N : Nat} {c : EConf} {s : ESeg} {q : DQ} (h : Fit N c s q) (hs : okSeg c s = true) (hq : okQ 4 q = true) (k : Nat) (h1 : 1 ≤ k) (h2 : k ≤ 16) : s_PageOf_m N c.1 c.2 s.1 s.2 q.kind q.field q.words q.lo q.hi q.kids k = some (pagesF k (topR N c s q allP 16)) := by
 have hM : 1048576 < N := h.big
 have hl := (topR_ok h allP 16).1
 have hb : (decide ((1 : Int) ≤ k) && decide ((k : Int) ≤ 16)) = true := by simp only [zj, zw]; omega
 have hf := l13Top_spec h hs hq 16 (zae _)
 unfold s_PageOf_m
 rw [h.segS, za, hs, zn, ze, h.qS, za, hq, zn, ze, l1In_spec, za, hb, zn, ze, show (16 : Int) = ((16 : Nat) : Int) from rfl, hf, za]
 generalize topR N c s q allP 16 = l at *
 have hr := rounds_le h1 l
 refine (iter_scan _ (rounds k l) (fun n => ((k : Int), pagesN k l n, l.drop (k * n))) (fun n => some (pagesF k l)) (fun go => ?_) (fun go n hn hgo => ?_) N 0 (zaf _) (by omega)).trans rfl
 ·dsimp only
  have := rounds_end h1 l
  rw [zd (by rw [zaQ]; omega), ze]
  rfl
 ·dsimp only
  have hin := rounds_in h1 l hn
  have hp := pagesN_len k l n
  have hdl : ((l.drop (k * n)).take k).length ≤ 16 := by rw [zah]; omega
  have hd : (l.drop (k * n)).length = l.length - k * n := zaQ
  rw [show k * (n + 1) = k * n + k from rfl, pagesN_succ, ← List.drop_drop] at hgo
  rw [zb (by omega : (0 : Int) < ((l.drop (k * n)).length : Int)), zg, min_spec, za]
  generalize l.drop (k * n) = t at *
  have e : min (k : Int) (t.length : Int) = ((min k t.length : Nat) : Int) := by omega
  rw [e, cut_take t _ (Nat.min_le_right _ _), za, cut_drop t _ (Nat.min_le_right _ _), za, show t.take (min k t.length) = t.take k from by rw [← List.take_take, zq], zf (room_of (by rw [zac]; omega) (by rw [zac]; omega)), zf (room_of (by rw [zbE]; omega) (by rw [zbE]; omega)), show t.drop (min k t.length) = t.drop k from by
   by_cases hk : k ≤ t.length
   ·rw [Nat.min_eq_left hk]
   ·rw [Nat.min_eq_right (by omega), zbp, zbw (by omega)]]
  exact hgo
def pagesR (N : Nat) (c : EConf) (s : ESeg) (q : DQ) (size : Int) : List (List EHit) := bif inM size then pagesF size.toNat (topR N c s q allP 16) else []
theorem pageOf_i {N : Nat} {c : EConf} {s : ESeg} {q : DQ} (h : Fit N c s q) (size : Int) : i_PageOf_m N c.1 c.2 s.1 s.2 q.kind q.field q.words q.lo q.hi q.kids size = some (pagesR N c s q size) := by
 unfold pagesR
 cases hm : inM size with
 | false =>
  unfold i_PageOf_m
  rw [within_spec, za, show (decide ((1 : Int) ≤ size) && decide (size ≤ 16)) = false from hm]
  rfl
 | true =>
  obtain ⟨k, rfl, h1, h2⟩ := inM_nat hm
  exact page_i h k h1 h2
theorem pageOf_s {N : Nat} {c : EConf} {s : ESeg} {q : DQ} (h : Fit N c s q) (size : Int) : s_PageOf_m N c.1 c.2 s.1 s.2 q.kind q.field q.words q.lo q.hi q.kids size = some (pagesR N c s q size) := by
 have hno : (okSeg c s && okQ 4 q) = false → pagesR N c s q size = [] := fun hn => by
  unfold pagesR topR hitsR
  rw [hn]
  cases hm : inM size with
  | false => rfl
  | true =>
   obtain ⟨k, rfl, h1, h2⟩ := inM_nat hm
   rw [zg, ze, zai]
   show pagesF k [] = []
   unfold pagesF
   rw [show rounds k [] = 0 from Nat.div_eq_of_lt (by rw [zac]; omega)]
   rfl
 cases hs : okSeg c s with
 | false =>
  unfold s_PageOf_m
  rw [h.segS, za, hs, hno (by rw [hs]; rfl)]
  rfl
 | true =>
  cases hq : okQ 4 q with
  | false =>
   unfold s_PageOf_m
   rw [h.segS, za, hs, zn, ze, h.qS, za, hq, hno (by rw [hs, hq]; rfl)]
   rfl
  | true =>
   unfold pagesR
   cases hm : inM size with
   | false =>
    unfold s_PageOf_m
    rw [h.segS, za, hs, zn, ze, h.qS, za, hq, zn, ze, l1In_spec, za, show (decide ((1 : Int) ≤ size) && decide (size ≤ 16)) = false from hm]
    rfl
   | true =>
    obtain ⟨k, rfl, h1, h2⟩ := inM_nat hm
    exact page_s h hs hq k h1 h2
def cHits (l : List EHit) : Nat := mcnt cHit l
def mHits (N : Nat) (l : List EHit) (k : Int) : List EHit := markL (mHit N) cHit l k
theorem mod_const {α : Type} (a : List α) (n : Nat) (v : α) : (a.modify n fun _ => v) = a.set n v := by
 apply zbc
 intro i
 rw [zbT, zbm]
 by_cases e : n = i
 ·subst e
  by_cases h : n < a.length
  ·simp [h]
  ·simp [h]
 ·simp [e]
theorem markHitSS_spec (N : Nat) (hM : Sm < N) (hN : N ≤ 1099511627776) (a : List (List EHit)) (k : Int) (hk : 0 ≤ k) (hK : k + (mcnt cHits a : Nat) ≤ 1000000000000000000) (hl : a.length ≤ 1048576) (ho : ∀ x, x ∈ a → okD Sm (.sl THit) x) : l_markHitSS_m N a k = some (k + (mcnt cHits a : Nat), markL (mHits N) cHits a k) := by
 have hM1 : 1048576 < N := hM
 unfold l_markHitSS_m
 refine markLoop_spec (mHits N) cHits N 1000000000000000000 (okD Sm (.sl THit)) (fun go a k => ?_) (fun go a n hn k hn0 hx hk hK => ?_) a k hk hK (by omega) hN ho
 ·dsimp only
  rw [zd (zm _), ze]
 ·dsimp only
  rw [zb (by omega : (n : Int) < (a.length : Int)), zg, zf ⟨by omega, by omega⟩, zai, zc hn, za, markHitS_spec N hM hN a[n] k hk hK hx, za, zf (by unfold fits; omega), mod_const]
  rfl
theorem heldHitSS_spec (N : Nat) (hM : Sm < N) (hN : N ≤ 1099511627776) (a : List (List EHit)) (k : Int) (hk : 0 ≤ k) (hK : k + (mcnt cHits a : Nat) ≤ 1000000000000000000) (hl : a.length ≤ 1048576) (ho : ∀ x, x ∈ a → okD Sm (.sl THit) x) : l_heldHitSS_m N (markL (mHits N) cHits a k) k = some (k + (mcnt cHits a : Nat)) := by
 have hM1 : 1048576 < N := hM
 unfold l_heldHitSS_m
 refine heldLoop_spec (mHits N) cHits N 1000000000000000000 (okD Sm (.sl THit)) (fun go a k => ?_) (fun go a n hn k x hn0 hx ho hk hK => ?_) a k hk hK (by omega) hN ho
 ·dsimp only
  rw [zd (zm _), ze]
 ·dsimp only
  have hh := heldHitS_spec N hM hN x k hk hK ho
  have e0 : a[n] = markL (mHit N) cHit x k := hx
  rw [zb (by omega : (n : Int) < (a.length : Int)), zg, idx_at hn, za, e0, hh, za, zd (by omega), ze, zf (by unfold fits; omega)]
  rfl
theorem pagesR_ok {N : Nat} {c : EConf} {s : ESeg} {q : DQ} (h : Fit N c s q) (size : Int) : (pagesR N c s q size).length ≤ 16 ∧ ∀ x, x ∈ pagesR N c s q size → okD Sm (.sl THit) x ∧ x.length ≤ 16 := by
 unfold pagesR
 cases hm : inM size with
 | false => exact ⟨zaf _, fun x hx => by cases hx⟩
 | true =>
  obtain ⟨k, rfl, h1, h2⟩ := inM_nat hm
  rw [zg, zai]
  obtain ⟨hl, ho⟩ := topR_ok h allP 16
  generalize topR N c s q allP 16 = l at *
  have hr := rounds_le h1 l
  unfold pagesF
  refine ⟨by rw [pagesN_len]; omega, fun x hx => ?_⟩
  obtain ⟨i, _, rfl⟩ := zab.1 hx
  have hxl : ((l.drop (k * i)).take k).length ≤ 16 := by rw [zah]; omega
  exact ⟨⟨zau hxl (by decide), fun y hy => ho.2 y (zbP (zaP hy))⟩, hxl⟩
theorem fnExactPageOf_gen (N : Nat) (hM : Sm < N) (hN : N ≤ 16777216) (c : EConf) (s : ESeg) (q : DQ) (size : Int) (hc : okD BigN TConf c) (hs : okD BigN TSeg s) (hq : OkQ BigN q) : l_FnExactPageOf_m N c.1 c.2 s.1 s.2 q.kind q.field q.words q.lo q.hi q.kids size = some true := by
 have hM' : 1048576 < N := hM
 have hN' : N ≤ 1099511627776 := by omega
 refine Def.get ?_
 unfold l_FnExactPageOf_m
 refine args3 hM hN c s q hc hs hq fun ar => ?_
 have F := ar.fit hM hN
 have t1 := toConf_spec N hM hN' c ar.oc
 have t2 := toSeg_spec N hM hN' s ar.os
 have t3 := to_query N hN' hM' N q ar.gq
 have t4 := eqConf_spec N hM hN' c c ar.oc
 have t5 := eqSeg_spec N hM hN' s s ar.os
 have t6 := eq_query N hN' hM' N q ar.gq
 have t7 := pageOf_s F size
 have t8 := pageOf_i F size
 obtain ⟨hL, okL⟩ := pagesR_ok F size
 have c1 := cConf_le c
 have c2 := cSeg_le s
 have c3 := ar.all
 generalize pagesR N c s q size = L at *
 have hm : mcnt cHits L ≤ L.length * 32 := mcnt_le cHits 32 L fun x hx => by
  unfold cHits
  rw [mcnt_hit]
  have := (okL x hx).2
  omega
 have t9 : l_eqHitSS_m N L L = some true := eqLoop_self (fun e e2 => l_eqHitS_m N e e2) N L (by omega) hN' (fun x hx => by rw [eqHitS_spec N hM hN' x x (okL x hx).1, zb rfl])
 have m1 := markConf_spec N hM hN' c 1 (by omega) (by omega) ar.oc
 have m2 := markSeg_spec N hM hN' s (1 + (cConf c : Nat)) (by omega) (by omega) ar.os
 have m4 := markHitSS_spec N hM hN' L 1 (by omega) (by omega) (by omega) fun x hx => (okL x hx).1
 have m5 := heldHitSS_spec N hM hN' L 1 (by omega) (by omega) (by omega) fun x hx => (okL x hx).1
 simp only [t1, t2, t3, t4, t5, t6, t7, t8, t9, m1, za, decide_true, zn, ze]
 simp only [m2, za]
 refine Def.bind (mark_query N hM hN' q ar.gq _ (by omega) (by omega)) fun r hr => ?_
 rw [zd (by omega), ze]
 simp only [m4, m5, za, decide_true, zn, ze]
 rw [zd (by omega), ze]
 exact Def.ret rfl
theorem fnExactPageOf_law (x0 : EConf) (x1 : ESeg) (x2 : EQuery) (x3 : Int) (o0 : okD BigN TConf x0) (o1 : okD BigN TSeg x1) (o2 : okD BigN TQuery x2) (o3 : okD BigN (.int .i64) x3) : l_FnExactPageOf_m 1048700 x0.1 x0.2 x1.1 x1.2 x2.1 x2.2.1 x2.2.2.1 x2.2.2.2.1 x2.2.2.2.2.1 x2.2.2.2.2.2 x3 = some true :=
 fnExactPageOf_gen 1048700 (by decide) (by decide) x0 x1 (qOf x2) x3 o0 o1 (qOf_ok o2)
end Go.Proofs.YtobfngpkemkojaaGreatDoor
