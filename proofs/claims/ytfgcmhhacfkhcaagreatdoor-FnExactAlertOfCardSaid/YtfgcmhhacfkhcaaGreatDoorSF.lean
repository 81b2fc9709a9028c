import Derived.Test.YtfgcmhhacfkhcaaGreatDoorSD
import Derived.Test.YtfgcmhhacfkhcaaGreatDoorMK
import Derived.Test.YtfgcmhhacfkhcaaGreatDoorSE
set_option linter.unusedVariables false
set_option linter.unusedSimpArgs false
namespace Go.Proofs.YtfgcmhhacfkhcaaGreatDoor
open Go.RowKit
theorem szLoop_less {α : Type} (Z : α → Int → Option Int) (N : Nat) (hN : 1048576 < N) (P : α → Prop) (T : α → Nat) (a : List α) (left : Int) (hl : a.length ≤ BigN) (h0 : 0 ≤ left) (h1 : left ≤ 1048576) (hZ : ∀ x, x ∈ a → ∀ l : Int, 0 ≤ l → l < left → SzP (T x) l (Z x l) (P x)) :
  SzP (mcnt T a + a.length) left (jgu Z N a left) (a.length ≤ 1048576 ∧ ∀ x, x ∈ a → P x) := by
 unfold SzP jgu
 have hl' : (a.length : Int) ≤ 9223372036854775807 := by have : a.length ≤ 9223372036854775807 := hl; omega
 refine Def.ite (by unfold fits; omega) ?_
 refine Def.dif (fun e => Def.ret (.inl rfl)) (fun e => ?_)
 refine Def.upto a.length (fun n g => ∃ l : Int, 0 ≤ l ∧ l + (mcnt T (a.take n) + a.length : Nat) ≤ left ∧ (∀ x, x ∈ a.take n → P x) ∧ g = (a, l, (n : Int))) ?_ ?_ N 0 _ (zaf _) ⟨_, by omega, by simp only [zbJ, mcnt]; omega, by simp, rfl⟩ (by omega)
 ·rintro go _ ⟨l, hl0, hl1, hP, rfl⟩
  dsimp only
  rw [zd (zm _), ze]
  rw [zq] at hl1
  exact Def.ret (.inr ⟨hl0, hl1, by omega, by rwa [zq] at hP⟩)
 ·rintro go n _ hn ⟨l, hl0, hl1, hP, rfl⟩ hgo
  dsimp only
  have hmc := mcnt_take T a n hn
  rw [zb (by omega : (n : Int) < (a.length : Int)), zg, idx_at hn, za]
  refine Def.bind (hZ _ (zr hn) l hl0 (by omega)) fun r hr => ?_
  refine Def.dif (fun e => Def.ret (.inl rfl)) (fun e => ?_)
  rcases hr with hr | ⟨r0, r1, hx⟩
  ·omega
  refine Def.ite (fits_nat (n := n) (by omega)) ?_
  refine hgo _ ⟨r, r0, by omega, fun x hx' => ?_, by rw [cast_succ']⟩
  rw [zo hn, zaB, zaD] at hx'
  rcases hx' with hx' | rfl
  ·exact hP x hx'
  ·exact hx
def tQ : Nat → DQ → Nat
 | 0, _ => 0
 | n + 1, q => q.words.length + (mcnt (tQ n) q.kids + q.kids.length)
def GQ : Nat → DQ → Prop
 | 0, _ => False
 | n + 1, q => q.field.length ≤ 1048576 ∧ q.words.length ≤ 1048576 ∧ (∀ w, w ∈ q.words → w.length ≤ 1048576) ∧ q.kids.length ≤ 1048576 ∧ ∀ c, c ∈ q.kids → GQ n c
theorem GQ.bq : ∀ (n d : Nat) (q : DQ), GQ d q → BQ n q
 | 0, _, _, _ => True.intro
 | _ + 1, 0, _, h => h.elim
 | n + 1, d + 1, q, ⟨h1, h2, h3, h4, h5⟩ => ⟨h1, h2, h3, h4, fun c hc => GQ.bq n d c (h5 c hc)⟩
theorem sz_query (N : Nat) (hN : 1048576 < N) : ∀ (D : Nat) (q : DQ), OkQ BigN q → ∀ left : Int, 0 ≤ left → left ≤ 1048576 → left < D → SzP (tQ D q) left (jGR N D q.kind q.field q.words q.lo q.hi q.kids left) (GQ D q)
 | 0, _, _, left, h0, _, h => by omega
 | D + 1, q, ho, left, h0, h1, h => by
  obtain @⟨k, a, b, f, ws, kids, hk, hf, hn, hw, ha, hb, hm, hq⟩ := ho
  rw [jGR]
  refine (SzP.len (k := mcnt (tQ D) kids + kids.length + (mcnt List.length ws + ws.length)) hf h0 h1 (fun g0 g1 => ?_) (R := GQ (D + 1) (DQ.mk k f ws a b kids)) (Q := ws.length ≤ 1048576 ∧ (∀ w, w ∈ ws → w.length ≤ 1048576) ∧ kids.length ≤ 1048576 ∧ ∀ c, c ∈ kids → GQ D c) (fun hl hr => ⟨hl, hr.1, hr.2.1, hr.2.2.1, hr.2.2.2⟩)).imp (by unfold tQ; dsimp only [DQ.words, DQ.kids]; omega) id
  refine SzP.then (j := mcnt (tQ D) kids + kids.length) (jq4 N hN ws _ hn g0 (by omega) hw) (fun r r0 r1 => ?_) (Q := kids.length ≤ 1048576 ∧ ∀ c, c ∈ kids → GQ D c) (fun x y => ⟨x.1, x.2, y.1, y.2⟩)
  exact SzP.neg (szLoop_less (fun (x : DQ) l => jGR N D x.kind x.field x.words x.lo x.hi x.kids l) N hN (GQ D) (tQ D) kids r hm r0 (by omega) (fun x hx l l0 l1 => sz_query N hN D x (hq x hx) l l0 (by omega) (by omega))) id
abbrev jAe {α β : Type} (T : α → Option β) (G : β → α) (z : α) (m : Int) (N : Nat) (a : List α) : Option (List α) :=
 (if (a.length : Int) = (a.length : Int) ∧ 0 ≤ (a.length : Int) ∧ (a.length : Int) * m ≤ 140737488355328 ∧ (a.length : Int) ≤ 140737488355328 then
  (iter (fun (go : (List α × List α × Int) → Option (List α)) (g : List α × List α × Int) =>
    match g with
    | (a2, out, i) =>
    (bif (decide (i < (a2.length : Int))) then
     (Option.bind (idx a2 i) fun (e : α) =>
      (Option.bind (T e) fun (r : β) =>
       (if 0 ≤ i ∧ i < (out.length : Int) then
        (Option.bind (out[i.toNat]?) fun (e2 : α) =>
         (if fits (i + 1) then (go (a2, (out.set i.toNat (G r)), (i + 1))) else none))
        else none)))
     else
     (some out))) N (a, (List.replicate (a.length : Int).toNat z), 0))
  else none)
theorem toLoop2_spec {α β : Type} (T : α → Option β) (G : β → α) (z : α) (m : Int) (N : Nat) (a : List α) (h : a.length < N) (hN : N ≤ 1099511627776) (hm : (a.length : Int) * m ≤ 140737488355328) (hT : ∀ x, x ∈ a → ∃ r, T x = some r ∧ G r = x) : jAe T G z m N a = some a := by
 unfold jAe
 rw [zf ⟨rfl, by omega, hm, by omega⟩]
 refine (iter_scan _ a.length (fun n => (a, a.take n ++ List.replicate (a.length - n) z, (n : Int))) (fun n => some a) (fun go => ?_) (fun go n hn hgo => ?_) N 0 (zaf _) (by omega))
 ·dsimp only
  rw [zd (zm _), ze, zq, Nat.sub_self]
  simp
 ·have hn' : (n : Int) < (a.length : Int) := by omega
  have hol : (a.take n ++ List.replicate (a.length - n) z).length = a.length := by simp; omega
  obtain ⟨r, hr, hg⟩ := hT _ (zr hn)
  dsimp only
  rw [zb hn', zg, idx_at hn, za, hr, za, zf (by omega), zai, zc (by omega), za, zf (fits_nat (n := n) (by omega)), hg, jkc a z n hn]
  simp only [cast_succ'] at hgo
  exact hgo
theorem to_query (N : Nat) (hN : N ≤ 1099511627776) (hM : 1048576 < N) : ∀ (D : Nat) (q : DQ), GQ D q → jxF N D q.kind q.field q.words q.lo q.hi q.kids = some (q.kind, q.field, q.words, q.lo, q.hi, q.kids)
 | D + 1, q, ⟨h1, h2, h3, h4, h5⟩ => by
  have e1 : jci N q.words = some q.words := jV some [] 16 N q.words (by omega) hN (by omega) (fun x hx => rfl)
  have e2 : jyE N (fun a => jxF N D a.1 a.2.1 a.2.2.1 a.2.2.2.1 a.2.2.2.2.1 a.2.2.2.2.2) q.kids = some q.kids :=
   toLoop2_spec (fun (e : DQ) => jxF N D e.kind e.field e.words e.lo e.hi e.kids) (fun r => DQ.mk r.1 r.2.1 r.2.2.1 r.2.2.2.1 r.2.2.2.2.1 r.2.2.2.2.2) _ 88 N q.kids (by omega) hN (by omega)
    (fun x hx => ⟨_, to_query N hN hM D x (h5 x hx), by cases x; rfl⟩)
  rw [jxF, e1, za, e2, za]
theorem eqLoop_self {α : Type} (E : α → α → Option Bool) (N : Nat) (a : List α) (h : a.length < N) (hN : N ≤ 1099511627776) (hE : ∀ x, x ∈ a → E x x = some true) : jf3 E N a a = some true := by
 unfold jf3
 rw [zb rfl, zn, ze]
 refine (iter_scan _ a.length (fun n => (a, a, (n : Int))) (fun n => some true) (fun go => ?_) (fun go n hn hgo => ?_) N 0 (zaf _) (by omega))
 ·dsimp only
  rw [zd (zm _), ze]
 ·dsimp only
  rw [zb (by omega : (n : Int) < (a.length : Int)), zg, idx_at hn, za, za, hE _ (zr hn), za, zn, ze, zf (fits_nat (n := n) (by omega))]
  simp only [cast_succ'] at hgo
  exact hgo
theorem eq_query (N : Nat) (hN : N ≤ 1099511627776) (hM : 1048576 < N) : ∀ (D : Nat) (q : DQ), GQ D q → jxK N D q.kind q.field q.words q.lo q.hi q.kids q.kind q.field q.words q.lo q.hi q.kids = some true
 | D + 1, q, ⟨h1, h2, h3, h4, h5⟩ => by
  have e1 : j0 N q.words q.words = some true := eqLoop_self (fun e e2 => some (decide (e = e2))) N q.words (by omega) hN (fun x hx => by rw [zb rfl])
  have e2 : jyS N (fun a => jxK N D a.1 a.2.1 a.2.2.1 a.2.2.2.1 a.2.2.2.2.1 a.2.2.2.2.2.1 a.2.2.2.2.2.2.1 a.2.2.2.2.2.2.2.1 a.2.2.2.2.2.2.2.2.1 a.2.2.2.2.2.2.2.2.2.1 a.2.2.2.2.2.2.2.2.2.2.1 a.2.2.2.2.2.2.2.2.2.2.2) q.kids q.kids = some true :=
   eqLoop_self (fun (x y : DQ) => jxK N D x.kind x.field x.words x.lo x.hi x.kids y.kind y.field y.words y.lo y.hi y.kids) N q.kids (by omega) hN (fun x hx => eq_query N hN hM D x (h5 x hx))
  rw [jxK]
  simp only [decide_true, zn, ze, e1, e2, za]
theorem mcnt_str (l : List (List UInt8)) : mcnt cStr l = l.length := by
 induction l with
 | nil => rfl
 | cons x l ih => rw [mcnt, ih, zi]; unfold cStr; omega
theorem mk_kind (k : Int) (f : List UInt8) (w : List (List UInt8)) (a b : Int) (c : List DQ) : (DQ.mk k f w a b c).kind = k := rfl
theorem mk_field (k : Int) (f : List UInt8) (w : List (List UInt8)) (a b : Int) (c : List DQ) : (DQ.mk k f w a b c).field = f := rfl
theorem mk_words (k : Int) (f : List UInt8) (w : List (List UInt8)) (a b : Int) (c : List DQ) : (DQ.mk k f w a b c).words = w := rfl
theorem mk_lo (k : Int) (f : List UInt8) (w : List (List UInt8)) (a b : Int) (c : List DQ) : (DQ.mk k f w a b c).lo = a := rfl
theorem mk_hi (k : Int) (f : List UInt8) (w : List (List UInt8)) (a b : Int) (c : List DQ) : (DQ.mk k f w a b c).hi = b := rfl
theorem mk_kids (k : Int) (f : List UInt8) (w : List (List UInt8)) (a b : Int) (c : List DQ) : (DQ.mk k f w a b c).kids = c := rfl
theorem mark_queries (N : Nat) (hM : Sm < N) (hN : N ≤ 1099511627776) : ∀ (d D : Nat), d < D → ∀ (l : List DQ) (k : Int), l.length ≤ 1048576 → (∀ x, x ∈ l → GQ d x) → 0 ≤ k → k + 4 * (mcnt (tQ d) l + l.length : Nat) ≤ 1000000000000 → Def (jxQ N D l k) fun r => k ≤ r.1 ∧ r.1 ≤ k + 4 * (mcnt (tQ d) l + l.length : Nat)
 | _, 0, h, _, _, _, _, _, _ => absurd h (zbN _)
 | d, D + 1, hD, l, k, hl, hg, hk0, hk => by
  have hM' : 1048576 < N := hM
  rw [jxQ]
  refine Def.upto l.length (fun n g => ∃ (a2 : List DQ) (k2 : Int), a2.length = l.length ∧ a2.drop n = l.drop n ∧ k ≤ k2 ∧ k2 ≤ k + 4 * (mcnt (tQ d) (l.take n) + n : Nat) ∧ g = (a2, k2, (n : Int))) ?_ ?_ N 0 _ (zaf _) ⟨l, k, rfl, rfl, zbD _, by simp only [zbJ, mcnt]; omega, rfl⟩ (by omega)
  ·rintro go _ ⟨a2, k2, e1, e2, h1, h2, rfl⟩
   dsimp only
   rw [e1, zd (zm _), ze]
   rw [zq] at h2
   exact Def.ret ⟨h1, h2⟩
  ·rintro go n _ hn ⟨a2, k2, e1, e2, h1, h2, rfl⟩ hgo
   dsimp only
   have hn2 : n < a2.length := by omega
   have hcond : 0 ≤ (n : Int) ∧ (n : Int) < (a2.length : Int) := by omega
   rw [zan hn2, zan hn, List.cons.injEq] at e2
   obtain ⟨e3, e4⟩ := e2
   have hget : a2[n]? = some l[n] := by rw [zc hn2, e3]
   have hmc := mcnt_take (tQ d) l n hn
   have hmle := mcnt_take_le (tQ d) l (n + 1)
   have hgx := hg _ (zr hn)
   have hset : ∀ v : DQ, (a2.set n v)[n]? = some v := fun v => zbL hn2
   cases d with
   | zero => exact hgx.elim
   | succ d =>
   obtain ⟨g1, g2, g3, g4, g5⟩ := hgx
   have ht : tQ (d + 1) l[n] = l[n].words.length + (mcnt (tQ d) l[n].kids + l[n].kids.length) := rfl
   have hst := mcnt_str l[n].words
   have hms := markStringS_spec N hM hN l[n].words (k2 + 1 + 1) (by omega) (by omega) ⟨g2, fun x hx => g3 x hx⟩
   rw [zb (by omega : (n : Int) < (a2.length : Int)), zg]
   simp only [zai, zap, List.set_set, zf hcond, hget, hset, za, mk_kind, mk_field, mk_words, mk_lo, mk_hi, mk_kids]
   rw [zf (by unfold fits; omega), markText_spec N (k2 + 1) (by omega) (by omega) (by omega), za, zf (by unfold fits; omega), hms, za]
   dsimp only
   rw [zf (by unfold fits; omega), zf (by unfold fits; omega)]
   refine Def.bind (mark_queries N hM hN d D (by omega) l[n].kids _ g4 g5 (by omega) (by omega)) fun r hr => ?_
   rw [zf (fits_nat (n := n) (by omega))]
   refine hgo _ ⟨_, _, ?_, ?_, ?_, ?_, by rw [cast_succ']⟩
   ·rw [zaC, zaC, zap]
    exact e1
   ·rw [mod_set, mod_set, List.drop_set_of_lt (by omega)]
    exact e4
   ·omega
   ·omega
end Go.Proofs.YtfgcmhhacfkhcaaGreatDoor
namespace Go.Proofs.YtfgcmhhacfkhcaaGreatDoor
open Go.RowKit
abbrev EAl : Type := List UInt8 × DQ
def GB (x : EAl) : Prop := x.1.length ≤ 1048576 ∧ BQ 4 x.2
def alAt (xs : List EAl) (n : Nat) : EAl := xs[n]?.getD ([], .mk 0 [] [] 0 0 [])
theorem jE3 {xs : List EAl} {n : Nat} (h : n < xs.length) : xs[n] = alAt xs n := by unfold alAt; rw [zc h]; rfl
def okAl (xs : List EAl) (n : Nat) : Bool := okW (alAt xs n).1 && okQ 4 (alAt xs n).2 && (decide (n = 0) || Op.bytesLess (alAt xs (n - 1)).1 (alAt xs n).1)
def okAls (xs : List EAl) : Bool := allN xs.length (okAl xs) && decide ((xs.length : Int) ≤ 6)
theorem al_impl (N : Nat) (hM : Sm < N) (hN : N ≤ 1099511627776) (xs : List EAl) (h : xs.length ≤ 1048576) (hx : ∀ x, x ∈ xs → GB x) : jGU N xs = some (okAls xs) := by
 have hM' : 1048576 < N := hM
 unfold jGU okAls
 refine jG _ xs.length (fun n => (xs, xs, (xs.length : Int), (n : Int))) (okAl xs) _ (fun go => ?_) (fun go n hn => ?_) N (by omega)
 ·dsimp only
  rw [zd (zm _), ze]
 ·dsimp only
  have hm := hx _ (zr hn)
  have hf : fits ((n : Int) + 1) := fits_nat (by omega)
  rw [zb (by omega : (n : Int) < (xs.length : Int)), zg, idx_at hn, za, wordOk_spec N _ (by have := hm.1; omega) hN, za, queryOk_i N hM hN _ hm.2, za]
  simp only [zf hf, cast_succ', jE3 hn]
  unfold okAl
  match n, hn with
  | 0, hn =>
   rw [zd (by omega), ze, zb rfl, zbV, zaV]
   cases okW (alAt xs 0).1 <;> cases okQ 4 (alAt xs 0).2 <;> rfl
  | n + 1, hn =>
   rw [zb (by omega), zg, show ((n + 1 : Nat) : Int) - 1 = (n : Int) from by omega, zf (by unfold fits; omega), idx_at (by omega : n < xs.length), za, jE3 (by omega : n < xs.length), zd (by omega), zbf, zbq]
   cases okW (alAt xs (n + 1)).1 <;> cases okQ 4 (alAt xs (n + 1)).2 <;> cases Op.bytesLess (alAt xs n).1 (alAt xs (n + 1)).1 <;> rfl
theorem al_spec (N : Nat) (hM : Sm < N) (hN : N ≤ 1099511627776) (xs : List EAl) (h : xs.length ≤ 1048576) (hx : ∀ x, x ∈ xs → GB x) : jE4 N xs = some (okAls xs) := by
 have hM' : 1048576 < N := hM
 unfold jE4 okAls
 refine jG _ xs.length (fun n => (xs, (n : Int))) (okAl xs) (decide ((xs.length : Int) ≤ 6)) (fun go => ?_) (fun go n hn => ?_) N (by omega)
 ·dsimp only
  rw [zd (zm _), ze]
 ·dsimp only
  have hm := hx _ (zr hn)
  rw [jE3 hn] at hm
  have hf : fits ((n : Int) + 1) := fits_nat (by omega)
  rw [zb (by omega : (n : Int) < (xs.length : Int)), zg, idx_at hn]
  simp only [za, jE3 hn, ja7 N _ (by have := hm.1; omega : (alAt xs n).1.length < N) hN, jFU N hM hN _ hm.2, zf hf, cast_succ', bytesLess_or]
  unfold okAl
  match n, hn with
  | 0, hn =>
   rw [zd (by omega), ze, zb rfl, zbV, zaV]
   cases okW (alAt xs 0).1 <;> cases okQ 4 (alAt xs 0).2 <;> rfl
  | n + 1, hn =>
   rw [zb (by omega), zg, show ((n + 1 : Nat) : Int) - 1 = (n : Int) from by omega, zf (by unfold fits; omega), idx_at (by omega : n < xs.length), za, jE3 (by omega : n < xs.length), zd (by omega), zbf, zbq]
   cases okW (alAt xs (n + 1)).1 <;> cases okQ 4 (alAt xs (n + 1)).2 <;> cases Op.bytesLess (alAt xs n).1 (alAt xs (n + 1)).1 <;> rfl
theorem okAls_each {xs : List EAl} (h : okAls xs = true) : xs.length ≤ 6 ∧ ∀ x, x ∈ xs → okW x.1 = true ∧ okQ 4 x.2 = true := by
 unfold okAls at h
 rw [zj, zw] at h
 refine ⟨by omega, fun x hx => ?_⟩
 obtain ⟨n, hn, rfl⟩ := zav.1 hx
 have := allN_at h.1 hn
 unfold okAl at this
 rw [zj, zj, ← jE3 hn] at this
 exact this.1
abbrev oneS (c : EConf) (d : EDoc) : ESeg := ([d], entriesS c [d])
theorem okDocs_one (d : EDoc) : okDocs [d] = okDoc d := by
 unfold okDocs
 rw [zb (by simp : (([d] : List EDoc).length : Int) ≤ 16), zaV]
 simp [allN, okDc, dAt, List.range_succ]
theorem okSeg_one {c : EConf} {d : EDoc} (hc : okConf c = true) (hd : okDoc d = true) : okSeg c (oneS c d) = true := by
 unfold okSeg
 rw [hc, okDocs_one, hd, zb rfl]
 rfl
theorem fit_one {N : Nat} (hM : Sm < N) (hN : N ≤ 16777216) {c : EConf} {d : EDoc} (oc : okD Sm TConf c) (od : okD Sm TDoc d) {q : DQ} (hq : BQ 4 q) : Fit N c (oneS c d) q :=
 ⟨hM, hN, oc, fun x hx => by rw [zaD.1 hx]; exact od, by show (1 : Nat) ≤ _; decide, hq⟩
theorem docOf_one (d : EDoc) : docOf [d] d.1 = some d := by
 unfold docOf
 rw [zbA, zb rfl]
def alP (N : Nat) (c : EConf) (d : EDoc) (x : EAl) : Bool := decide (0 < valS N N c (oneS c d) d x.2)
def alR (N : Nat) (xs : List EAl) (c : EConf) (d : EDoc) : List (List UInt8) := bif okAls xs && (okConf c && okDoc d) then (xs.filter (alP N c d)).map (·.1) else []
end Go.Proofs.YtfgcmhhacfkhcaaGreatDoor
namespace Go.Proofs.YtfgcmhhacfkhcaaGreatDoor
open Go.RowKit
def alT (N : Nat) (c : EConf) (d : EDoc) (l : List EAl) : List (List UInt8) := (l.filter (alP N c d)).map (·.1)
theorem alT_take (N : Nat) (c : EConf) (d : EDoc) (xs : List EAl) {n : Nat} (h : n < xs.length) : alT N c d (xs.take (n + 1)) = bif alP N c d xs[n] then alT N c d (xs.take n) ++ [xs[n].1] else alT N c d (xs.take n) := by
 unfold alT
 rw [zo h, za6, zaK]
 cases e : alP N c d xs[n] <;> simp [e]
theorem alT_len (N : Nat) (c : EConf) (d : EDoc) (l : List EAl) : (alT N c d l).length ≤ l.length := by
 unfold alT
 rw [zar]
 exact zbh _ _
structure FitA (N : Nat) (xs : List EAl) (c : EConf) (d : EDoc) : Prop where
 big : Sm < N
 top : N ≤ 16777216
 oc : okD Sm TConf c
 od : okD Sm TDoc d
 len : xs.length ≤ 1048576
 each : ∀ x, x ∈ xs → GB x
theorem FitA.fit {N : Nat} {xs : List EAl} {c : EConf} {d : EDoc} (h : FitA N xs c d) {x : EAl} (hx : x ∈ xs) : Fit N c (oneS c d) x.2 := fit_one h.big h.top h.oc h.od (h.each x hx).2
theorem score_one (N : Nat) {c : EConf} {d : EDoc} (hs : okSeg c (oneS c d) = true) {q : DQ} (hq : okQ 4 q = true) : scoreR N c (oneS c d) q d.1 = valS N N c (oneS c d) d q := by
 unfold scoreR
 rw [hs, hq, zaV, zg]
 show (match docOf [d] d.1 with | some d' => valS N N c (oneS c d) d' q | none => 0) = _
 rw [docOf_one]
theorem alertOf_i {N : Nat} {xs : List EAl} {c : EConf} {d : EDoc} (h : FitA N xs c d) : i_AlertOf_m N xs c.1 c.2 d.1 d.2.1 d.2.2 = some (alR N xs c d) := by
 have hM : 1048576 < N := h.big
 have hN := h.top
 unfold i_AlertOf_m alR
 rw [al_impl N h.big (by omega) xs h.len h.each, za, confOk_spec N h.big (by omega) c h.oc, za, docOk_spec N h.big (by omega) d.1 d.2.1 d.2.2 h.od, za]
 cases ha : okAls xs with
 | false => rfl
 | true =>
  cases hc : okConf c with
  | false => rfl
  | true =>
   cases hd : okDoc d with
   | false => rfl
   | true =>
    have hs := okSeg_one hc hd
    obtain ⟨hl, he⟩ := okAls_each ha
    have hsg : i_SegOf_m N c.1 c.2 ([(d.1, d.2.1, d.2.2)] : List EDoc) = some (oneS c d) := by
     rw [segOf_spec N h.big h.top c h.oc [d] (fun x hx => by rw [zaD.1 hx]; exact h.od) (by show (1 : Nat) ≤ _; decide), hc, okDocs_one, hd]
     rfl
    simp only [zn, ze, Bool.and_self, zg]
    rw [hsg, za]
    refine (iter_scan _ xs.length (fun n => (alT N c d (xs.take n), xs, (xs.length : Int), (n : Int), c.1, c.2, d.1, d.2.1, d.2.2, (oneS c d).1, (oneS c d).2)) (fun n => some (alT N c d xs)) (fun go => ?_) (fun go n hn hgo => ?_) N 0 (zaf _) (by omega)).trans rfl
    ·dsimp only
     rw [zd (zm _), ze, zq]
    ·dsimp only
     have hm := zr hn
     have hll := alT_len N c d (xs.take n)
     rw [zah] at hll
     have hsc : i_ScoreOf_m N c.1 c.2 (oneS c d).1 (oneS c d).2 xs[n].2.kind xs[n].2.field xs[n].2.words xs[n].2.lo xs[n].2.hi xs[n].2.kids d.1 = some (valS N N c (oneS c d) d xs[n].2) := by
      rw [score_i (h.fit hm) d.1, score_one N hs (he _ hm).2]
     simp only [cast_succ', alT_take N c d xs hn, alP] at hgo
     generalize alT N c d (xs.take n) = out at *
     rw [zb (by omega : (n : Int) < (xs.length : Int)), zg, idx_at hn, za, hsc, za, zf (room_of (by rw [zbE]; omega) (by rw [zbE]; omega)), ← hgo]
     simp only [zf (fits_nat (n := n) (by omega))]
     cases decide (0 < valS N N c (oneS c d) d xs[n].2) <;> rfl
theorem alertOf_s {N : Nat} {xs : List EAl} {c : EConf} {d : EDoc} (h : FitA N xs c d) : s_AlertOf_m N xs c.1 c.2 d.1 d.2.1 d.2.2 = some (alR N xs c d) := by
 have hM : 1048576 < N := h.big
 have hN := h.top
 unfold s_AlertOf_m alR
 rw [al_spec N h.big (by omega) xs h.len h.each, za, l2Ok_spec N h.big (by omega) c h.oc, za, l6Ok_spec N h.big (by omega) d.1 d.2.1 d.2.2 h.od, za]
 cases ha : okAls xs with
 | false => rfl
 | true =>
  cases hc : okConf c with
  | false => rfl
  | true =>
   cases hd : okDoc d with
   | false => rfl
   | true =>
    have hs := okSeg_one hc hd
    obtain ⟨hl, he⟩ := okAls_each ha
    have hk : okDocs [d] = true := by rw [okDocs_one, hd]
    have hsg : s_l7Of_m N c.1 c.2 ([(d.1, d.2.1, d.2.2)] : List EDoc) = some (oneS c d) := l7Of_spec N c hc (okDocs_ok hk) hM
    simp only [zn, ze, Bool.and_self, zg]
    rw [hsg, za]
    refine (iter_scan _ xs.length (fun n => (xs, alT N c d (xs.take n), (n : Int), c.1, c.2, d.1, d.2.1, d.2.2, (oneS c d).1, (oneS c d).2)) (fun n => some (alT N c d xs)) (fun go => ?_) (fun go n hn hgo => ?_) N 0 (zaf _) (by omega)).trans rfl
    ·dsimp only
     rw [zd (zm _), ze, zq]
    ·dsimp only
     have hm := zr hn
     have hll := alT_len N c d (xs.take n)
     rw [zah] at hll
     have g := (h.fit hm).good hs
     have hb := score_both N g d (docOf_one d) xs[n].2 (he _ hm).2
     have hsc := hb.ref
     simp only [cast_succ', alT_take N c d xs hn, alP] at hgo
     generalize alT N c d (xs.take n) = out at *
     rw [zb (by omega : (n : Int) < (xs.length : Int)), zg, idx_at hn, za, hsc, za, za, zf (room_of (by rw [zbE]; omega) (by rw [zbE]; omega)), ← hgo]
     simp only [zf (fits_nat (n := n) (by omega))]
     cases decide (0 < valS N N c (oneS c d) d xs[n].2) <;> rfl
theorem alR_len (N : Nat) (xs : List EAl) (c : EConf) (d : EDoc) : (alR N xs c d).length ≤ 6 := by
 unfold alR
 cases ha : okAls xs with
 | false => exact zaf _
 | true =>
  cases okConf c && okDoc d
  ·exact zaf _
  ·exact zau (alT_len N c d xs) (okAls_each ha).1
end Go.Proofs.YtfgcmhhacfkhcaaGreatDoor
namespace Go.Proofs.YtfgcmhhacfkhcaaGreatDoor
open Go.RowKit
def GA (D : Nat) (x : EAl) : Prop := x.1.length ≤ 1048576 ∧ GQ D x.2
def tA (N : Nat) (x : EAl) : Nat := tQ N x.2
theorem GA.gb {D : Nat} {x : EAl} (h : GA D x) : GB x := ⟨h.1, h.2.bq 4 D⟩
theorem sz_alerts (N : Nat) (hN : 1048576 < N) (xs : List EAl) (ho : okD BigN (.sl (.pair .str .q)) xs) (left : Int) (h0 : 0 ≤ left) (h1 : left ≤ 1048576) : SzP (mcnt (tA N) xs + xs.length) left (l_szAlertS_m N xs left) (xs.length ≤ 1048576 ∧ ∀ x, x ∈ xs → GA N x) := by
 refine szLoop_less (fun (x : EAl) l => l_szAlert_m N x.1 x.2.kind x.2.field x.2.words x.2.lo x.2.hi x.2.kids l) N hN (GA N) (tA N) xs left ho.1 h0 h1 (fun x hx l l0 l1 => ?_)
 have hx' := ho.2 x hx
 refine (SzP.len (k := tA N x) hx'.1 l0 (by omega) (fun g0 g1 => ?_) (R := GA N x) (Q := GQ N x.2) (fun a b => ⟨a, b⟩)).imp (by omega) id
 exact SzP.neg (sz_query N hN N x.2 hx'.2 _ g0 (by omega) (by omega)) id
theorem to_alerts (N : Nat) (hN : N ≤ 1099511627776) (hM : 1048576 < N) (xs : List EAl) (h : xs.length ≤ 1048576) (hx : ∀ x, x ∈ xs → GA N x) : l_toAlertS_m N xs = some xs :=
 toLoop2_spec (fun (e : EAl) => l_toAlert_m N e.1 e.2.kind e.2.field e.2.words e.2.lo e.2.hi e.2.kids) (fun r => (r.1, (DQ.mk r.2.1 r.2.2.1 r.2.2.2.1 r.2.2.2.2.1 r.2.2.2.2.2.1 r.2.2.2.2.2.2))) _ 104 N xs (by omega) hN (by omega)
  (fun x hm => ⟨(x.1, x.2.kind, x.2.field, x.2.words, x.2.lo, x.2.hi, x.2.kids), by show l_toAlert_m N _ _ _ _ _ _ _ = _; unfold l_toAlert_m; rw [to_query N hN hM N x.2 (hx x hm).2, za], by obtain ⟨s, q⟩ := x; cases q; rfl⟩)
theorem eq_alerts (N : Nat) (hN : N ≤ 1099511627776) (hM : 1048576 < N) (xs : List EAl) (h : xs.length ≤ 1048576) (hx : ∀ x, x ∈ xs → GA N x) : l_eqAlertS_m N xs xs = some true :=
 eqLoop_self (fun (e e2 : EAl) => l_eqAlert_m N e.1 e.2.kind e.2.field e.2.words e.2.lo e.2.hi e.2.kids e2.1 e2.2.kind e2.2.field e2.2.words e2.2.lo e2.2.hi e2.2.kids) N xs (by omega) hN
  (fun x hm => by show l_eqAlert_m N _ _ _ _ _ _ _ _ _ _ _ _ _ _ = _; unfold l_eqAlert_m; simp only [decide_true, zn, ze, eq_query N hN hM N x.2 (hx x hm).2, za])
theorem mark_alerts (N : Nat) (hM : Sm < N) (hN : N ≤ 1099511627776) (l : List EAl) (k : Int) (hl : l.length ≤ 1048576) (hg : ∀ x, x ∈ l → GA N x) (hk0 : 0 ≤ k) (hk : k + 8 * (mcnt (tA N) l + l.length : Nat) ≤ 100000000000) : Def (l_markAlertS_m N l k) fun r => k ≤ r.1 ∧ r.1 ≤ k + 8 * (mcnt (tA N) l + l.length : Nat) := by
 have hM' : 1048576 < N := hM
 unfold l_markAlertS_m
 refine Def.upto l.length (fun n g => ∃ (a2 : List EAl) (k2 : Int), a2.length = l.length ∧ a2.drop n = l.drop n ∧ k ≤ k2 ∧ k2 ≤ k + 8 * (mcnt (tA N) (l.take n) + n : Nat) ∧ g = (a2, k2, (n : Int))) ?_ ?_ N 0 _ (zaf _) ⟨l, k, rfl, rfl, zbD _, by simp only [zbJ, mcnt]; omega, rfl⟩ (by omega)
 ·rintro go _ ⟨a2, k2, e1, e2, h1, h2, rfl⟩
  dsimp only
  rw [e1, zd (zm _), ze]
  rw [zq] at h2
  exact Def.ret ⟨h1, h2⟩
 ·rintro go n _ hn ⟨a2, k2, e1, e2, h1, h2, rfl⟩ hgo
  dsimp only
  have hn2 : n < a2.length := by omega
  have hcond : 0 ≤ (n : Int) ∧ (n : Int) < (a2.length : Int) := by omega
  rw [zan hn2, zan hn, List.cons.injEq] at e2
  obtain ⟨e3, e4⟩ := e2
  have hget : a2[n]? = some l[n] := by rw [zc hn2, e3]
  have hmc := mcnt_take (tA N) l n hn
  have hmle := mcnt_take_le (tA N) l (n + 1)
  obtain ⟨_, hgx⟩ := hg _ (zr hn)
  have hset : ∀ v : EAl, (a2.set n v)[n]? = some v := fun v => zbL hn2
  obtain ⟨d, rfl⟩ : ∃ d, N = d + 1 := ⟨N - 1, by omega⟩
  obtain ⟨g1, g2, g3, g4, g5⟩ := hgx
  have ht : tA (d + 1) l[n] = l[n].2.words.length + (mcnt (tQ d) l[n].2.kids + l[n].2.kids.length) := rfl
  have hst := mcnt_str l[n].2.words
  have hms := markStringS_spec (d + 1) hM hN l[n].2.words (k2 + 1 + 1 + 1) (by omega) (by omega) ⟨g2, fun x hx => g3 x hx⟩
  rw [zb (by omega : (n : Int) < (a2.length : Int)), zg, markText_spec (d + 1) k2 (by omega) (by omega) (by omega), za]
  simp only [zai, zap, List.set_set, zf hcond, hget, hset, za, mk_kind, mk_field, mk_words, mk_lo, mk_hi, mk_kids]
  rw [zf (by unfold fits; omega), zf (by unfold fits; omega), markText_spec (d + 1) (k2 + 1 + 1) (by omega) (by omega) (by omega), za, zf (by unfold fits; omega), hms, za]
  dsimp only
  rw [zf (by unfold fits; omega), zf (by unfold fits; omega)]
  refine Def.bind (mark_queries (d + 1) hM hN d (d + 1) (by omega) l[n].2.kids _ g4 g5 (by omega) (by omega)) fun r hr => ?_
  rw [zf (fits_nat (n := n) (by omega))]
  refine hgo _ ⟨_, _, ?_, ?_, ?_, ?_, by rw [cast_succ']⟩
  ·simp only [zaC, zap]
   exact e1
  ·simp only [mod_set]
   rw [List.drop_set_of_lt (by omega)]
   exact e4
  ·omega
  ·omega
theorem fnExactAlertOf_gen (N : Nat) (hM : Sm < N) (hN : N ≤ 16777216) (xs : List EAl) (c : EConf) (d : EDoc) (ha : okD BigN (.sl (.pair .str .q)) xs) (hc : okD BigN TConf c) (hd : okD BigN TDoc d) : l_FnExactAlertOf_m N xs c.1 c.2 d.1 d.2.1 d.2.2 = some true := by
 have hM' : 1048576 < N := hM
 have hN' : N ≤ 1099511627776 := by omega
 refine Def.get ?_
 unfold l_FnExactAlertOf_m
 refine Def.bind (sz_alerts N hM' xs ha 1048576 (by omega) (by omega)) fun r hr => ?_
 refine Def.dif (fun e => Def.ret rfl) (fun e => ?_)
 rcases hr with hr | ⟨r0, r1, hl, hx⟩
 ·omega
 refine Def.bind (szConf_spec N hM c r r0 (by omega) hc) fun r2 hr2 => ?_
 refine Def.dif (fun e => Def.ret rfl) (fun e => ?_)
 rcases hr2 with hr2 | ⟨r3, r4, oc⟩
 ·omega
 refine Def.bind (szDoc_spec N hM d r2 r3 (by omega) hd) fun r5 hr5 => ?_
 refine Def.dif (fun e => Def.ret rfl) (fun e => ?_)
 rcases hr5 with hr5 | ⟨r6, r7, od⟩
 ·omega
 have F : FitA N xs c d := ⟨hM, hN, oc, od, hl, fun x h => (hx x h).gb⟩
 have t1 := to_alerts N hN' hM' xs hl hx
 have t2 := toConf_spec N hM hN' c oc
 have t3 := toDoc_spec N hM hN' d od
 have t4 := eq_alerts N hN' hM' xs hl hx
 have t5 := eqConf_spec N hM hN' c c oc
 have t6 := eqDoc_spec N hM hN' d d od
 have t7 := alertOf_s F
 have t8 := alertOf_i F
 have hL := alR_len N xs c d
 have okL : okD Sm (.sl .str) (alR N xs c d) := by
  refine ⟨zau hL (by decide), fun w hw => ?_⟩
  unfold alR at hw
  cases hk : okAls xs && (okConf c && okDoc d) with
  | false => rw [hk] at hw; cases hw
  | true =>
   rw [hk] at hw
   obtain ⟨x, hxm, rfl⟩ := zab.1 hw
   exact (hx x (zaZ.1 hxm).1).1
 have c1 := cConf_le c
 have c2 := cDoc_le d
 generalize alR N xs c d = L at *
 have hm := mcnt_str L
 have t9 := eqStringS_spec N hM hN' L L okL
 have m4 := markStringS_spec N hM hN' L 1 (by omega) (by omega) okL
 have m5 := heldStringS_spec N hM hN' L 1 (by omega) (by omega) okL
 simp only [t1, t2, t3, t4, t5, t6, t7, t8, t9, za, decide_true, zn, ze]
 refine Def.bind (mark_alerts N hM hN' xs 1 hl hx (by omega) (by omega)) fun r8 ⟨h8, h9⟩ => ?_
 have m1 := markConf_spec N hM hN' c r8.1 (by omega) (by omega) oc
 rw [m1, za]
 refine Def.bind (markDoc_def N hM hN' d _ (by dsimp only; omega) (by dsimp only; omega) od) fun r9 h10 => ?_
 rw [zd (by omega), ze]
 simp only [m4, m5, za, decide_true, zn, ze]
 rw [zd (by omega), ze]
 exact Def.ret rfl
theorem fnExactAlertOf_law (x0 : List EAl) (x1 : EConf) (x2 : EDoc) (o0 : okD BigN (.sl (.pair .str .q)) x0) (o1 : okD BigN TConf x1) (o2 : okD BigN TDoc x2) : l_FnExactAlertOf_m 1048700 x0 x1.1 x1.2 x2.1 x2.2.1 x2.2.2 = some true :=
 fnExactAlertOf_gen 1048700 (by decide) (by decide) x0 x1 x2 o0 o1 o2
end Go.Proofs.YtfgcmhhacfkhcaaGreatDoor
