import Derived.Test.YtobfngpkemkojaaGreatDoorSD
import Derived.Test.YtobfngpkemkojaaGreatDoorMK
import Derived.Test.YtobfngpkemkojaaGreatDoorSE
set_option linter.unusedVariables false
set_option linter.unusedSimpArgs false
namespace Go.Proofs.YtobfngpkemkojaaGreatDoor
open Go.RowKit
theorem jD2 {α : Type} (Z : α → Int → Option Int) (N : Nat) (hN : 1048576 < N) (P : α → Prop) (T : α → Nat) (a : List α) (left : Int) (hl : a.length ≤ BigN) (h0 : 0 ≤ left) (h1 : left ≤ 1048576) (hZ : ∀ x, x ∈ a → ∀ l : Int, 0 ≤ l → l < left → SzP (T x) l (Z x l) (P x)) :
  SzP (mcnt T a + a.length) left (jgu Z N a left) (a.length ≤ 1048576 ∧ ∀ x, x ∈ a → P x) := by
 unfold SzP jgu
 have hl' : (a.length : Int) ≤ 9223372036854775807 := by have : a.length ≤ 9223372036854775807 := hl; omega
 refine Def.ite (by unfold fits; omega) ?_
 refine Def.dif (fun e => Def.ret (.inl rfl)) (fun e => ?_)
 refine Def.upto a.length (fun n g => ∃ l : Int, 0 ≤ l ∧ l + (mcnt T (a.take n) + a.length : Nat) ≤ left ∧ (∀ x, x ∈ a.take n → P x) ∧ g = (a, l, (n : Int))) ?_ ?_ N 0 _ (zaf _) ⟨_, by omega, by simp only [List.take_zero, mcnt]; omega, by simp, rfl⟩ (by omega)
 ·rintro go _ ⟨l, hl0, hl1, hP, rfl⟩
  dsimp only
  rw [zd (zm _), ze]
  rw [zq] at hl1
  exact Def.ret (.inr ⟨hl0, hl1, by omega, by rwa [zq] at hP⟩)
 ·rintro go n _ hn ⟨l, hl0, hl1, hP, rfl⟩ hgo
  dsimp only
  have hmc := jbm T a n hn
  rw [zb (by omega : (n : Int) < (a.length : Int)), zg, idx_at hn, za]
  refine Def.bind (hZ _ (zr hn) l hl0 (by omega)) fun r hr => ?_
  refine Def.dif (fun e => Def.ret (.inl rfl)) (fun e => ?_)
  rcases hr with hr | ⟨r0, r1, hx⟩
  ·omega
  refine Def.ite (fits_nat (n := n) (by omega)) ?_
  refine hgo _ ⟨r, r0, by omega, fun x hx' => ?_, by rw [cast_succ']⟩
  rw [zo hn, zaB, zaD] at hx'
  rcases hx' with hx' | rfl
  ·exact hP x hx'
  ·exact hx
def tQ : Nat → DQ → Nat
 | 0, _ => 0
 | n + 1, q => q.words.length + (mcnt (tQ n) q.kids + q.kids.length)
def GQ : Nat → DQ → Prop
 | 0, _ => False
 | n + 1, q => q.field.length ≤ 1048576 ∧ q.words.length ≤ 1048576 ∧ (∀ w, w ∈ q.words → w.length ≤ 1048576) ∧ q.kids.length ≤ 1048576 ∧ ∀ c, c ∈ q.kids → GQ n c
theorem GQ.bq : ∀ (n d : Nat) (q : DQ), GQ d q → BQ n q
 | 0, _, _, _ => True.intro
 | _ + 1, 0, _, h => h.elim
 | n + 1, d + 1, q, ⟨h1, h2, h3, h4, h5⟩ => ⟨h1, h2, h3, h4, fun c hc => GQ.bq n d c (h5 c hc)⟩
theorem sz_query (N : Nat) (hN : 1048576 < N) : ∀ (D : Nat) (q : DQ), OkQ BigN q → ∀ left : Int, 0 ≤ left → left ≤ 1048576 → left < D → SzP (tQ D q) left (l_szQuery_m N D q.kind q.field q.words q.lo q.hi q.kids left) (GQ D q)
 | 0, _, _, left, h0, _, h => by omega
 | D + 1, q, ho, left, h0, h1, h => by
  obtain @⟨k, a, b, f, ws, kids, hk, hf, hn, hw, ha, hb, hm, hq⟩ := ho
  rw [l_szQuery_m]
  refine (SzP.len (k := mcnt (tQ D) kids + kids.length + (mcnt List.length ws + ws.length)) hf h0 h1 (fun g0 g1 => ?_) (R := GQ (D + 1) (DQ.mk k f ws a b kids)) (Q := ws.length ≤ 1048576 ∧ (∀ w, w ∈ ws → w.length ≤ 1048576) ∧ kids.length ≤ 1048576 ∧ ∀ c, c ∈ kids → GQ D c) (fun hl hr => ⟨hl, hr.1, hr.2.1, hr.2.2.1, hr.2.2.2⟩)).imp (by unfold tQ; dsimp only [DQ.words, DQ.kids]; omega) id
  refine SzP.then (j := mcnt (tQ D) kids + kids.length) (jq4 N hN ws _ hn g0 (by omega) hw) (fun r r0 r1 => ?_) (Q := kids.length ≤ 1048576 ∧ ∀ c, c ∈ kids → GQ D c) (fun x y => ⟨x.1, x.2, y.1, y.2⟩)
  exact SzP.neg (jD2 (fun (x : DQ) l => l_szQuery_m N D x.kind x.field x.words x.lo x.hi x.kids l) N hN (GQ D) (tQ D) kids r hm r0 (by omega) (fun x hx l l0 l1 => sz_query N hN D x (hq x hx) l l0 (by omega) (by omega))) id
abbrev jAe {α β : Type} (T : α → Option β) (G : β → α) (z : α) (m : Int) (N : Nat) (a : List α) : Option (List α) :=
 (if (a.length : Int) = (a.length : Int) ∧ 0 ≤ (a.length : Int) ∧ (a.length : Int) * m ≤ 140737488355328 ∧ (a.length : Int) ≤ 140737488355328 then
  (iter (fun (go : (List α × List α × Int) → Option (List α)) (g : List α × List α × Int) =>
    match g with
    | (a2, out, i) =>
    (bif (decide (i < (a2.length : Int))) then
     (Option.bind (idx a2 i) fun (e : α) =>
      (Option.bind (T e) fun (r : β) =>
       (if 0 ≤ i ∧ i < (out.length : Int) then
        (Option.bind (out[i.toNat]?) fun (e2 : α) =>
         (if fits (i + 1) then (go (a2, (out.set i.toNat (G r)), (i + 1))) else none))
        else none)))
     else
     (some out))) N (a, (List.replicate (a.length : Int).toNat z), 0))
  else none)
theorem jB0 {α β : Type} (T : α → Option β) (G : β → α) (z : α) (m : Int) (N : Nat) (a : List α) (h : a.length < N) (hN : N ≤ 1099511627776) (hm : (a.length : Int) * m ≤ 140737488355328) (hT : ∀ x, x ∈ a → ∃ r, T x = some r ∧ G r = x) : jAe T G z m N a = some a := by
 unfold jAe
 rw [zf ⟨rfl, by omega, hm, by omega⟩]
 refine (iter_scan _ a.length (fun n => (a, a.take n ++ List.replicate (a.length - n) z, (n : Int))) (fun n => some a) (fun go => ?_) (fun go n hn hgo => ?_) N 0 (zaf _) (by omega))
 ·dsimp only
  rw [zd (zm _), ze, zq, Nat.sub_self]
  simp
 ·have hn' : (n : Int) < (a.length : Int) := by omega
  have hol : (a.take n ++ List.replicate (a.length - n) z).length = a.length := by simp; omega
  obtain ⟨r, hr, hg⟩ := hT _ (zr hn)
  dsimp only
  rw [zb hn', zg, idx_at hn, za, hr, za, zf (by omega), zai, zc (by omega), za, zf (fits_nat (n := n) (by omega)), hg, jkc a z n hn]
  simp only [cast_succ'] at hgo
  exact hgo
theorem to_query (N : Nat) (hN : N ≤ 1099511627776) (hM : 1048576 < N) : ∀ (D : Nat) (q : DQ), GQ D q → jxF N D q.kind q.field q.words q.lo q.hi q.kids = some (q.kind, q.field, q.words, q.lo, q.hi, q.kids)
 | D + 1, q, ⟨h1, h2, h3, h4, h5⟩ => by
  have e1 : jci N q.words = some q.words := jV some [] 16 N q.words (by omega) hN (by omega) (fun x hx => rfl)
  have e2 : jyE N (fun a => jxF N D a.1 a.2.1 a.2.2.1 a.2.2.2.1 a.2.2.2.2.1 a.2.2.2.2.2) q.kids = some q.kids :=
   jB0 (fun (e : DQ) => jxF N D e.kind e.field e.words e.lo e.hi e.kids) (fun r => DQ.mk r.1 r.2.1 r.2.2.1 r.2.2.2.1 r.2.2.2.2.1 r.2.2.2.2.2) _ 88 N q.kids (by omega) hN (by omega)
    (fun x hx => ⟨_, to_query N hN hM D x (h5 x hx), by cases x; rfl⟩)
  rw [jxF, e1, za, e2, za]
theorem jzk {α : Type} (E : α → α → Option Bool) (N : Nat) (a : List α) (h : a.length < N) (hN : N ≤ 1099511627776) (hE : ∀ x, x ∈ a → E x x = some true) : jf3 E N a a = some true := by
 unfold jf3
 rw [zb rfl, zn, ze]
 refine (iter_scan _ a.length (fun n => (a, a, (n : Int))) (fun n => some true) (fun go => ?_) (fun go n hn hgo => ?_) N 0 (zaf _) (by omega))
 ·dsimp only
  rw [zd (zm _), ze]
 ·dsimp only
  rw [zb (by omega : (n : Int) < (a.length : Int)), zg, idx_at hn, za, za, hE _ (zr hn), za, zn, ze, zf (fits_nat (n := n) (by omega))]
  simp only [cast_succ'] at hgo
  exact hgo
theorem eq_query (N : Nat) (hN : N ≤ 1099511627776) (hM : 1048576 < N) : ∀ (D : Nat) (q : DQ), GQ D q → jxK N D q.kind q.field q.words q.lo q.hi q.kids q.kind q.field q.words q.lo q.hi q.kids = some true
 | D + 1, q, ⟨h1, h2, h3, h4, h5⟩ => by
  have e1 : j0 N q.words q.words = some true := jzk (fun e e2 => some (decide (e = e2))) N q.words (by omega) hN (fun x hx => by rw [zb rfl])
  have e2 : jyS N (fun a => jxK N D a.1 a.2.1 a.2.2.1 a.2.2.2.1 a.2.2.2.2.1 a.2.2.2.2.2.1 a.2.2.2.2.2.2.1 a.2.2.2.2.2.2.2.1 a.2.2.2.2.2.2.2.2.1 a.2.2.2.2.2.2.2.2.2.1 a.2.2.2.2.2.2.2.2.2.2.1 a.2.2.2.2.2.2.2.2.2.2.2) q.kids q.kids = some true :=
   jzk (fun (x y : DQ) => jxK N D x.kind x.field x.words x.lo x.hi x.kids y.kind y.field y.words y.lo y.hi y.kids) N q.kids (by omega) hN (fun x hx => eq_query N hN hM D x (h5 x hx))
  rw [jxK]
  simp only [decide_true, zn, ze, e1, e2, za]
theorem mcnt_str (l : List (List UInt8)) : mcnt cStr l = l.length := by
 induction l with
 | nil => rfl
 | cons x l ih => rw [mcnt, ih, zi]; unfold cStr; omega
theorem jCY (k : Int) (f : List UInt8) (w : List (List UInt8)) (a b : Int) (c : List DQ) : (DQ.mk k f w a b c).kind = k := rfl
theorem jAH (k : Int) (f : List UInt8) (w : List (List UInt8)) (a b : Int) (c : List DQ) : (DQ.mk k f w a b c).field = f := rfl
theorem jCR (k : Int) (f : List UInt8) (w : List (List UInt8)) (a b : Int) (c : List DQ) : (DQ.mk k f w a b c).words = w := rfl
theorem jDb (k : Int) (f : List UInt8) (w : List (List UInt8)) (a b : Int) (c : List DQ) : (DQ.mk k f w a b c).lo = a := rfl
theorem jBV (k : Int) (f : List UInt8) (w : List (List UInt8)) (a b : Int) (c : List DQ) : (DQ.mk k f w a b c).hi = b := rfl
theorem jBl (k : Int) (f : List UInt8) (w : List (List UInt8)) (a b : Int) (c : List DQ) : (DQ.mk k f w a b c).kids = c := rfl
theorem mark_queries (N : Nat) (hM : Sm < N) (hN : N ≤ 1099511627776) : ∀ (d D : Nat), d < D → ∀ (l : List DQ) (k : Int), l.length ≤ 1048576 → (∀ x, x ∈ l → GQ d x) → 0 ≤ k → k + 4 * (mcnt (tQ d) l + l.length : Nat) ≤ 1000000000000 → Def (jxQ N D l k) fun r => k ≤ r.1 ∧ r.1 ≤ k + 4 * (mcnt (tQ d) l + l.length : Nat)
 | _, 0, h, _, _, _, _, _, _ => absurd h (zbN _)
 | d, D + 1, hD, l, k, hl, hg, hk0, hk => by
  have hM' : 1048576 < N := hM
  rw [jxQ]
  refine Def.upto l.length (fun n g => ∃ (a2 : List DQ) (k2 : Int), a2.length = l.length ∧ a2.drop n = l.drop n ∧ k ≤ k2 ∧ k2 ≤ k + 4 * (mcnt (tQ d) (l.take n) + n : Nat) ∧ g = (a2, k2, (n : Int))) ?_ ?_ N 0 _ (zaf _) ⟨l, k, rfl, rfl, zbD _, by simp only [List.take_zero, mcnt]; omega, rfl⟩ (by omega)
  ·rintro go _ ⟨a2, k2, e1, e2, h1, h2, rfl⟩
   dsimp only
   rw [e1, zd (zm _), ze]
   rw [zq] at h2
   exact Def.ret ⟨h1, h2⟩
  ·rintro go n _ hn ⟨a2, k2, e1, e2, h1, h2, rfl⟩ hgo
   dsimp only
   have hn2 : n < a2.length := by omega
   have hcond : 0 ≤ (n : Int) ∧ (n : Int) < (a2.length : Int) := by omega
   rw [zan hn2, zan hn, List.cons.injEq] at e2
   obtain ⟨e3, e4⟩ := e2
   have hget : a2[n]? = some l[n] := by rw [zc hn2, e3]
   have hmc := jbm (tQ d) l n hn
   have hmle := jcY (tQ d) l (n + 1)
   have hgx := hg _ (zr hn)
   have hset : ∀ v : DQ, (a2.set n v)[n]? = some v := fun v => zbL hn2
   cases d with
   | zero => exact hgx.elim
   | succ d =>
   obtain ⟨g1, g2, g3, g4, g5⟩ := hgx
   have ht : tQ (d + 1) l[n] = l[n].words.length + (mcnt (tQ d) l[n].kids + l[n].kids.length) := rfl
   have hst := mcnt_str l[n].words
   have hms := markStringS_spec N hM hN l[n].words (k2 + 1 + 1) (by omega) (by omega) ⟨g2, fun x hx => g3 x hx⟩
   rw [zb (by omega : (n : Int) < (a2.length : Int)), zg]
   simp only [zai, zap, List.set_set, zf hcond, hget, hset, za, jCY, jAH, jCR, jDb, jBV, jBl]
   rw [zf (by unfold fits; omega), jU N (k2 + 1) (by omega) (by omega) (by omega), za, zf (by unfold fits; omega), hms, za]
   dsimp only
   rw [zf (by unfold fits; omega), zf (by unfold fits; omega)]
   refine Def.bind (mark_queries N hM hN d D (by omega) l[n].kids _ g4 g5 (by omega) (by omega)) fun r hr => ?_
   rw [zf (fits_nat (n := n) (by omega))]
   refine hgo _ ⟨_, _, ?_, ?_, ?_, ?_, by rw [cast_succ']⟩
   ·rw [zaC, zaC, zap]
    exact e1
   ·rw [jac, jac, List.drop_set_of_lt (by omega)]
    exact e4
   ·omega
   ·omega
end Go.Proofs.YtobfngpkemkojaaGreatDoor
namespace Go.Proofs.YtobfngpkemkojaaGreatDoor
open Go.RowKit
structure Args3 (N : Nat) (c : EConf) (s : ESeg) (q : DQ) : Prop where
 oc : okD Sm TConf c
 os : okD Sm TSeg s
 gq : GQ N q
 all : tot TConf c + tot TSeg s + tQ N q ≤ 1048576
theorem args3 {N : Nat} (hM : Sm < N) (hN : N ≤ 16777216) (c : EConf) (s : ESeg) (q : DQ) (hc : okD BigN TConf c) (hs : okD BigN TSeg s) (hq : OkQ BigN q) {f : Option Bool} (h : Args3 N c s q → Def f fun r => r = true) :
  Def (Option.bind (l_szConf_m N c.1 c.2 1048576) fun r => bif decide (r < 0) then some true else Option.bind (l_szSeg_m N s.1 s.2 r) fun r2 => bif decide (r2 < 0) then some true else Option.bind (l_szQuery_m N N q.kind q.field q.words q.lo q.hi q.kids r2) fun r3 => bif decide (r3 < 0) then some true else f) fun r => r = true := by
 have hM' : 1048576 < N := hM
 refine Def.bind (szConf_spec N hM c 1048576 (by omega) (by omega) hc) fun r hr => ?_
 refine Def.dif (fun e => Def.ret rfl) (fun e3 => ?_)
 rcases hr with hr | ⟨r0, r1, oc⟩
 ·omega
 refine Def.bind (szSeg_spec N hM s r r0 (by omega) hs) fun r2 hr2 => ?_
 refine Def.dif (fun e => Def.ret rfl) (fun e4 => ?_)
 rcases hr2 with hr2 | ⟨r3, r4, os⟩
 ·omega
 refine Def.bind (sz_query N hM' N q hq r2 r3 (by omega) (by omega)) fun r5 hr5 => ?_
 refine Def.dif (fun e => Def.ret rfl) (fun e5 => ?_)
 rcases hr5 with hr5 | ⟨r6, r7, gq⟩
 ·omega
 exact h ⟨oc, os, gq, by omega⟩
theorem Args3.fit {N : Nat} {c : EConf} {s : ESeg} {q : DQ} (h : Args3 N c s q) (hM : Sm < N) (hN : N ≤ 16777216) : Fit N c s q := ⟨hM, hN, h.oc, fun x hx => h.os.1.2 x hx, h.os.1.1, GQ.bq 4 N q h.gq⟩
theorem mark_query (N : Nat) (hM : Sm < N) (hN : N ≤ 1099511627776) (q : DQ) (hq : GQ N q) (k : Int) (hk0 : 0 ≤ k) (hk : k + 4 * (tQ N q : Nat) ≤ 1000000000000) : Def (l_markQuery_m N q.kind q.field q.words q.lo q.hi q.kids k) fun r => 0 ≤ r.1 := by
 have hM' : 1048576 < N := hM
 obtain ⟨n, rfl⟩ : ∃ n, N = n + 1 := ⟨N - 1, by omega⟩
 obtain ⟨g1, g2, g3, g4, g5⟩ := hq
 have ht : tQ (n + 1) q = q.words.length + (mcnt (tQ n) q.kids + q.kids.length) := rfl
 have hst := mcnt_str q.words
 unfold l_markQuery_m
 rw [markStringS_spec (n + 1) hM hN q.words k hk0 (by omega) ⟨g2, fun x hx => g3 x hx⟩, za]
 refine Def.bind (mark_queries (n + 1) hM hN n (n + 1) (by omega) q.kids _ g4 g5 (by omega) (by omega)) fun r hr => ?_
 exact Def.ret (by show 0 ≤ r.1; omega)
theorem mcnt_int (l : List Int) : mcnt cInt l = l.length := by
 induction l with
 | nil => rfl
 | cons x l ih => rw [mcnt, ih, zi]; unfold cInt; omega
theorem hits_ok {N : Nat} {c : EConf} {s : ESeg} {q : DQ} (h : Fit N c s q) (P : EHit → Bool) : ∀ x, x ∈ hitsR N c s q P → okD Sm THit x := by
 intro x hx
 unfold hitsR at hx
 cases hs : okSeg c s with
 | false => rw [hs] at hx; cases hx
 | true =>
  cases hq : okQ 4 q with
  | false => rw [hs, hq] at hx; cases hx
  | true =>
   rw [hs, hq] at hx
   obtain ⟨d, hd, rfl, h0, _⟩ := hitsP_mem (V := fun d => valS N N c s d q) hx
   have g := h.good hs
   have hb := score_both N g d (docOf_self g.dok.inn.ids d hd) q hq
   have h1 := hb.low
   have h2 := hb.top
   refine ⟨(h.od d hd).1, ?_⟩
   show IntKind.i64.min ≤ _ ∧ _ ≤ IntKind.i64.max
   have h4 : IntKind.i64.min = -9223372036854775808 := rfl
   have h5 : IntKind.i64.max = 9223372036854775807 := rfl
   rw [h4, h5]
   dsimp only
   omega
theorem matchR_ok {N : Nat} {c : EConf} {s : ESeg} {q : DQ} (h : Fit N c s q) : (matchR N c s q).length ≤ 16 ∧ okD Sm (.sl (.int .i64)) (matchR N c s q) := by
 unfold matchR
 have hl := hitsR_len N c s q allP
 refine ⟨by rw [zar]; exact hl, ⟨by rw [zar]; exact zau hl (by decide), fun x hx => ?_⟩⟩
 obtain ⟨y, hy, rfl⟩ := zab.1 hx
 exact (hits_ok h allP y hy).1
theorem fnExactMatchOf_gen (N : Nat) (hM : Sm < N) (hN : N ≤ 16777216) (c : EConf) (s : ESeg) (q : DQ) (hc : okD BigN TConf c) (hs : okD BigN TSeg s) (hq : OkQ BigN q) : l_FnExactMatchOf_m N c.1 c.2 s.1 s.2 q.kind q.field q.words q.lo q.hi q.kids = some true := by
 have hM' : 1048576 < N := hM
 have hN' : N ≤ 1099511627776 := by omega
 refine Def.get ?_
 unfold l_FnExactMatchOf_m
 refine args3 hM hN c s q hc hs hq fun a => ?_
 have F := a.fit hM hN
 have t1 := toConf_spec N hM hN' c a.oc
 have t2 := toSeg_spec N hM hN' s a.os
 have t3 := to_query N hN' hM' N q a.gq
 have t4 := eqConf_spec N hM hN' c c a.oc
 have t5 := eqSeg_spec N hM hN' s s a.os
 have t6 := eq_query N hN' hM' N q a.gq
 have t7 := match_s F
 have t8 := match_i F
 obtain ⟨hL, okL⟩ := matchR_ok F
 have c1 := cConf_le c
 have c2 := cSeg_le s
 have c3 := a.all
 generalize matchR N c s q = L at *
 have hm := mcnt_int L
 have t9 := eqIntS_spec N hM hN' L L okL
 have m1 := markConf_spec N hM hN' c 1 (by omega) (by omega) a.oc
 have m2 := markSeg_spec N hM hN' s (1 + (cConf c : Nat)) (by omega) (by omega) a.os
 have m4 := markIntS_spec N hM hN' L 1 (by omega) (by omega) okL
 have m5 := heldIntS_spec N hM hN' L 1 (by omega) (by omega) okL
 simp only [t1, t2, t3, t4, t5, t6, t7, t8, t9, m1, za, decide_true, zn, ze]
 simp only [m2, za]
 refine Def.bind (mark_query N hM hN' q a.gq _ (by omega) (by omega)) fun r hr => ?_
 rw [zd (by omega), ze]
 simp only [m4, m5, za, decide_true, zn, ze]
 rw [zd (by omega), ze]
 exact Def.ret rfl
abbrev EQuery : Type := Int × List UInt8 × List (List UInt8) × Int × Int × List DQ
abbrev TQuery : Tp := .pair (.int .i64) (.pair .str (.pair (.sl .str) (.pair (.int .i64) (.pair (.int .i64) (.sl .q)))))
def qOf (x : EQuery) : DQ := .mk x.1 x.2.1 x.2.2.1 x.2.2.2.1 x.2.2.2.2.1 x.2.2.2.2.2
theorem qOf_ok {x : EQuery} (h : okD BigN TQuery x) : OkQ BigN (qOf x) := OkQ.mk h.1 h.2.1 h.2.2.1.1 h.2.2.1.2 h.2.2.2.1 h.2.2.2.2.1 h.2.2.2.2.2.1 h.2.2.2.2.2.2
theorem fnExactMatchOf_law (x0 : EConf) (x1 : ESeg) (x2 : EQuery)  (o0 : okD BigN TConf x0) (o1 : okD BigN TSeg x1) (o2 : okD BigN TQuery x2) : l_FnExactMatchOf_m 1048700 x0.1 x0.2 x1.1 x1.2 x2.1 x2.2.1 x2.2.2.1 x2.2.2.2.1 x2.2.2.2.2.1 x2.2.2.2.2.2 = some true :=
 fnExactMatchOf_gen 1048700 (by decide) (by decide) x0 x1 (qOf x2) o0 o1 (qOf_ok o2)
end Go.Proofs.YtobfngpkemkojaaGreatDoor
