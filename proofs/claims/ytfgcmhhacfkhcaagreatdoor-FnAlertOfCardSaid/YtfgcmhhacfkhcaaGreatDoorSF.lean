import Derived.Test.YtfgcmhhacfkhcaaGreatDoorSE
import Derived.Test.YtfgcmhhacfkhcaaGreatDoorP1
import Derived.Test.YtfgcmhhacfkhcaaGreatDoorSC
set_option linter.unusedVariables false
set_option linter.unusedSimpArgs false
namespace Go.Proofs.YtfgcmhhacfkhcaaGreatDoor
open Go.RowKit
abbrev EAl : Type := List UInt8 × DQ
def GB (x : EAl) : Prop := x.1.length ≤ 1048576 ∧ BQ 4 x.2
def alAt (xs : List EAl) (n : Nat) : EAl := xs[n]?.getD ([], .mk 0 [] [] 0 0 [])
theorem jE3 {xs : List EAl} {n : Nat} (h : n < xs.length) : xs[n] = alAt xs n := by unfold alAt; rw [zc h]; rfl
def okAl (xs : List EAl) (n : Nat) : Bool := okW (alAt xs n).1 && okQ 4 (alAt xs n).2 && (decide (n = 0) || Op.bytesLess (alAt xs (n - 1)).1 (alAt xs n).1)
def okAls (xs : List EAl) : Bool := allN xs.length (okAl xs) && decide ((xs.length : Int) ≤ 6)
theorem al_impl (N : Nat) (hM : Sm < N) (hN : N ≤ 1099511627776) (xs : List EAl) (h : xs.length ≤ 1048576) (hx : ∀ x, x ∈ xs → GB x) : i_AlertsOk_m N xs = some (okAls xs) := by
 have hM' : 1048576 < N := hM
 unfold i_AlertsOk_m okAls
 refine jG _ xs.length (fun n => (xs, xs, (xs.length : Int), (n : Int))) (okAl xs) _ (fun go => ?_) (fun go n hn => ?_) N (by omega)
 ·dsimp only
  rw [zd (zm _), ze]
 ·dsimp only
  have hm := hx _ (zr hn)
  have hf : fits ((n : Int) + 1) := fits_nat (by omega)
  rw [zb (by omega : (n : Int) < (xs.length : Int)), zg, idx_at hn, za, wordOk_spec N _ (by have := hm.1; omega) hN, za, queryOk_i N hM hN _ hm.2, za]
  simp only [zf hf, cast_succ', jE3 hn]
  unfold okAl
  match n, hn with
  | 0, hn =>
   rw [zd (by omega), ze, zb rfl, zbV, zaV]
   cases okW (alAt xs 0).1 <;> cases okQ 4 (alAt xs 0).2 <;> rfl
  | n + 1, hn =>
   rw [zb (by omega), zg, show ((n + 1 : Nat) : Int) - 1 = (n : Int) from by omega, zf (by unfold fits; omega), idx_at (by omega : n < xs.length), za, jE3 (by omega : n < xs.length), zd (by omega), zbf, zbq]
   cases okW (alAt xs (n + 1)).1 <;> cases okQ 4 (alAt xs (n + 1)).2 <;> cases Op.bytesLess (alAt xs n).1 (alAt xs (n + 1)).1 <;> rfl
theorem al_spec (N : Nat) (hM : Sm < N) (hN : N ≤ 1099511627776) (xs : List EAl) (h : xs.length ≤ 1048576) (hx : ∀ x, x ∈ xs → GB x) : jE4 N xs = some (okAls xs) := by
 have hM' : 1048576 < N := hM
 unfold jE4 okAls
 refine jG _ xs.length (fun n => (xs, (n : Int))) (okAl xs) (decide ((xs.length : Int) ≤ 6)) (fun go => ?_) (fun go n hn => ?_) N (by omega)
 ·dsimp only
  rw [zd (zm _), ze]
 ·dsimp only
  have hm := hx _ (zr hn)
  rw [jE3 hn] at hm
  have hf : fits ((n : Int) + 1) := fits_nat (by omega)
  rw [zb (by omega : (n : Int) < (xs.length : Int)), zg, idx_at hn]
  simp only [za, jE3 hn, ja7 N _ (by have := hm.1; omega : (alAt xs n).1.length < N) hN, jFU N hM hN _ hm.2, zf hf, cast_succ', bytesLess_or]
  unfold okAl
  match n, hn with
  | 0, hn =>
   rw [zd (by omega), ze, zb rfl, zbV, zaV]
   cases okW (alAt xs 0).1 <;> cases okQ 4 (alAt xs 0).2 <;> rfl
  | n + 1, hn =>
   rw [zb (by omega), zg, show ((n + 1 : Nat) : Int) - 1 = (n : Int) from by omega, zf (by unfold fits; omega), idx_at (by omega : n < xs.length), za, jE3 (by omega : n < xs.length), zd (by omega), zbf, zbq]
   cases okW (alAt xs (n + 1)).1 <;> cases okQ 4 (alAt xs (n + 1)).2 <;> cases Op.bytesLess (alAt xs n).1 (alAt xs (n + 1)).1 <;> rfl
theorem okAls_each {xs : List EAl} (h : okAls xs = true) : xs.length ≤ 6 ∧ ∀ x, x ∈ xs → okW x.1 = true ∧ okQ 4 x.2 = true := by
 unfold okAls at h
 rw [zj, zw] at h
 refine ⟨by omega, fun x hx => ?_⟩
 obtain ⟨n, hn, rfl⟩ := zav.1 hx
 have := allN_at h.1 hn
 unfold okAl at this
 rw [zj, zj, ← jE3 hn] at this
 exact this.1
abbrev oneS (c : EConf) (d : EDoc) : ESeg := ([d], entriesS c [d])
theorem okDocs_one (d : EDoc) : okDocs [d] = okDoc d := by
 unfold okDocs
 rw [zb (by simp : (([d] : List EDoc).length : Int) ≤ 16), zaV]
 simp [allN, okDc, dAt, List.range_succ]
theorem okSeg_one {c : EConf} {d : EDoc} (hc : okConf c = true) (hd : okDoc d = true) : okSeg c (oneS c d) = true := by
 unfold okSeg
 rw [hc, okDocs_one, hd, zb rfl]
 rfl
theorem fit_one {N : Nat} (hM : Sm < N) (hN : N ≤ 16777216) {c : EConf} {d : EDoc} (oc : okD Sm TConf c) (od : okD Sm TDoc d) {q : DQ} (hq : BQ 4 q) : Fit N c (oneS c d) q :=
 ⟨hM, hN, oc, fun x hx => by rw [zaD.1 hx]; exact od, by show (1 : Nat) ≤ _; decide, hq⟩
theorem docOf_one (d : EDoc) : docOf [d] d.1 = some d := by
 unfold docOf
 rw [zbA, zb rfl]
def alP (N : Nat) (c : EConf) (d : EDoc) (x : EAl) : Bool := decide (0 < valS N N c (oneS c d) d x.2)
def alR (N : Nat) (xs : List EAl) (c : EConf) (d : EDoc) : List (List UInt8) := bif okAls xs && (okConf c && okDoc d) then (xs.filter (alP N c d)).map (·.1) else []
end Go.Proofs.YtfgcmhhacfkhcaaGreatDoor
namespace Go.Proofs.YtfgcmhhacfkhcaaGreatDoor
open Go.RowKit
def alT (N : Nat) (c : EConf) (d : EDoc) (l : List EAl) : List (List UInt8) := (l.filter (alP N c d)).map (·.1)
theorem alT_take (N : Nat) (c : EConf) (d : EDoc) (xs : List EAl) {n : Nat} (h : n < xs.length) : alT N c d (xs.take (n + 1)) = bif alP N c d xs[n] then alT N c d (xs.take n) ++ [xs[n].1] else alT N c d (xs.take n) := by
 unfold alT
 rw [zo h, za6, zaK]
 cases e : alP N c d xs[n] <;> simp [e]
theorem alT_len (N : Nat) (c : EConf) (d : EDoc) (l : List EAl) : (alT N c d l).length ≤ l.length := by
 unfold alT
 rw [zar]
 exact zbh _ _
structure FitA (N : Nat) (xs : List EAl) (c : EConf) (d : EDoc) : Prop where
 big : Sm < N
 top : N ≤ 16777216
 oc : okD Sm TConf c
 od : okD Sm TDoc d
 len : xs.length ≤ 1048576
 each : ∀ x, x ∈ xs → GB x
theorem FitA.fit {N : Nat} {xs : List EAl} {c : EConf} {d : EDoc} (h : FitA N xs c d) {x : EAl} (hx : x ∈ xs) : Fit N c (oneS c d) x.2 := fit_one h.big h.top h.oc h.od (h.each x hx).2
theorem score_one (N : Nat) {c : EConf} {d : EDoc} (hs : okSeg c (oneS c d) = true) {q : DQ} (hq : okQ 4 q = true) : scoreR N c (oneS c d) q d.1 = valS N N c (oneS c d) d q := by
 unfold scoreR
 rw [hs, hq, zaV, zg]
 show (match docOf [d] d.1 with | some d' => valS N N c (oneS c d) d' q | none => 0) = _
 rw [docOf_one]
theorem alertOf_i {N : Nat} {xs : List EAl} {c : EConf} {d : EDoc} (h : FitA N xs c d) : i_AlertOf_m N xs c.1 c.2 d.1 d.2.1 d.2.2 = some (alR N xs c d) := by
 have hM : 1048576 < N := h.big
 have hN := h.top
 unfold i_AlertOf_m alR
 rw [al_impl N h.big (by omega) xs h.len h.each, za, confOk_spec N h.big (by omega) c h.oc, za, docOk_spec N h.big (by omega) d.1 d.2.1 d.2.2 h.od, za]
 cases ha : okAls xs with
 | false => rfl
 | true =>
  cases hc : okConf c with
  | false => rfl
  | true =>
   cases hd : okDoc d with
   | false => rfl
   | true =>
    have hs := okSeg_one hc hd
    obtain ⟨hl, he⟩ := okAls_each ha
    have hsg : i_SegOf_m N c.1 c.2 ([(d.1, d.2.1, d.2.2)] : List EDoc) = some (oneS c d) := by
     rw [segOf_spec N h.big h.top c h.oc [d] (fun x hx => by rw [zaD.1 hx]; exact h.od) (by show (1 : Nat) ≤ _; decide), hc, okDocs_one, hd]
     rfl
    simp only [zn, ze, Bool.and_self, zg]
    rw [hsg, za]
    refine (iter_scan _ xs.length (fun n => (alT N c d (xs.take n), xs, (xs.length : Int), (n : Int), c.1, c.2, d.1, d.2.1, d.2.2, (oneS c d).1, (oneS c d).2)) (fun n => some (alT N c d xs)) (fun go => ?_) (fun go n hn hgo => ?_) N 0 (zaf _) (by omega)).trans rfl
    ·dsimp only
     rw [zd (zm _), ze, zq]
    ·dsimp only
     have hm := zr hn
     have hll := alT_len N c d (xs.take n)
     rw [zah] at hll
     have hsc : i_ScoreOf_m N c.1 c.2 (oneS c d).1 (oneS c d).2 xs[n].2.kind xs[n].2.field xs[n].2.words xs[n].2.lo xs[n].2.hi xs[n].2.kids d.1 = some (valS N N c (oneS c d) d xs[n].2) := by
      rw [score_i (h.fit hm) d.1, score_one N hs (he _ hm).2]
     simp only [cast_succ', alT_take N c d xs hn, alP] at hgo
     generalize alT N c d (xs.take n) = out at *
     rw [zb (by omega : (n : Int) < (xs.length : Int)), zg, idx_at hn, za, hsc, za, zf (room_of (by rw [zbE]; omega) (by rw [zbE]; omega)), ← hgo]
     simp only [zf (fits_nat (n := n) (by omega))]
     cases decide (0 < valS N N c (oneS c d) d xs[n].2) <;> rfl
theorem alertOf_s {N : Nat} {xs : List EAl} {c : EConf} {d : EDoc} (h : FitA N xs c d) : s_AlertOf_m N xs c.1 c.2 d.1 d.2.1 d.2.2 = some (alR N xs c d) := by
 have hM : 1048576 < N := h.big
 have hN := h.top
 unfold s_AlertOf_m alR
 rw [al_spec N h.big (by omega) xs h.len h.each, za, l2Ok_spec N h.big (by omega) c h.oc, za, l6Ok_spec N h.big (by omega) d.1 d.2.1 d.2.2 h.od, za]
 cases ha : okAls xs with
 | false => rfl
 | true =>
  cases hc : okConf c with
  | false => rfl
  | true =>
   cases hd : okDoc d with
   | false => rfl
   | true =>
    have hs := okSeg_one hc hd
    obtain ⟨hl, he⟩ := okAls_each ha
    have hk : okDocs [d] = true := by rw [okDocs_one, hd]
    have hsg : s_l7Of_m N c.1 c.2 ([(d.1, d.2.1, d.2.2)] : List EDoc) = some (oneS c d) := l7Of_spec N c hc (okDocs_ok hk) hM
    simp only [zn, ze, Bool.and_self, zg]
    rw [hsg, za]
    refine (iter_scan _ xs.length (fun n => (xs, alT N c d (xs.take n), (n : Int), c.1, c.2, d.1, d.2.1, d.2.2, (oneS c d).1, (oneS c d).2)) (fun n => some (alT N c d xs)) (fun go => ?_) (fun go n hn hgo => ?_) N 0 (zaf _) (by omega)).trans rfl
    ·dsimp only
     rw [zd (zm _), ze, zq]
    ·dsimp only
     have hm := zr hn
     have hll := alT_len N c d (xs.take n)
     rw [zah] at hll
     have g := (h.fit hm).good hs
     have hb := score_both N g d (docOf_one d) xs[n].2 (he _ hm).2
     have hsc := hb.ref
     simp only [cast_succ', alT_take N c d xs hn, alP] at hgo
     generalize alT N c d (xs.take n) = out at *
     rw [zb (by omega : (n : Int) < (xs.length : Int)), zg, idx_at hn, za, hsc, za, za, zf (room_of (by rw [zbE]; omega) (by rw [zbE]; omega)), ← hgo]
     simp only [zf (fits_nat (n := n) (by omega))]
     cases decide (0 < valS N N c (oneS c d) d xs[n].2) <;> rfl
theorem alR_len (N : Nat) (xs : List EAl) (c : EConf) (d : EDoc) : (alR N xs c d).length ≤ 6 := by
 unfold alR
 cases ha : okAls xs with
 | false => exact zaf _
 | true =>
  cases okConf c && okDoc d
  ·exact zaf _
  ·exact zau (alT_len N c d xs) (okAls_each ha).1
end Go.Proofs.YtfgcmhhacfkhcaaGreatDoor
namespace Go.Proofs.YtfgcmhhacfkhcaaGreatDoor
open Go.RowKit
theorem cut_spec {α : Type} (xs : List α) (n : Nat) (h : n ≤ xs.length) : cut xs 0 (n : Int) = some (xs.take n) := by
 unfold cut
 rw [zf (by omega)]
 simp
theorem open_spec (N : Nat) (code : List Int) (hb : Bs code) : ∃ y, s_l30Open_m N code = some (y, 0) ∧ Bs y ∧ y.length ≤ 2000 := by
 unfold s_l30Open_m
 by_cases h : (2000 : Int) < (code.length : Int)
 ·simp only [h, decide_true, zg]
  rw [show (2000 : Int) = ((2000 : Nat) : Int) from rfl, cut_spec code 2000 (by omega)]
  exact ⟨_, rfl, fun x hx => hb x (zaP hx), by simp; omega⟩
 ·simp only [h, decide_false, ze]
  exact ⟨_, rfl, hb, by omega⟩
def Rdr (b : List Int) (k : Int) (j : Nat) : Prop := Bs b ∧ b.length ≤ 2000 ∧ 0 ≤ k ∧ k ≤ j
theorem Rdr.le {b : List Int} {k : Int} {j j' : Nat} (h : Rdr b k j) (hj : j ≤ j') : Rdr b k j' := ⟨h.1, h.2.1, h.2.2.1, by have := h.2.2.2; omega⟩
theorem pick_def (N : Nat) (n : Int) {b : List Int} {k : Int} {j : Nat} (h : Rdr b k j) (hj : j ≤ 1000000) : Def (s_l30Rd_pick_m N n b k) fun r => 0 ≤ r.1 ∧ (1 ≤ n → r.1 < n) ∧ (n < 1 → r.1 = 0) ∧ Rdr r.2.1 r.2.2 (j + 1) := by
 obtain ⟨v, h1, h2, h3, h4⟩ := pick_spec N n b k h.1 h.2.2.1 (by have := h.2.2.2; omega) h.2.1
 exact ⟨_, h1, h2, h3, h4, h.1, h.2.1, by have := h.2.2.1; show (0:Int) ≤ k + 1; omega, by have := h.2.2.2; show k + 1 ≤ ((j + 1 : Nat) : Int); omega⟩
theorem of_def (N : Nat) {l : List (List UInt8)} {b : List Int} {k : Int} {j : Nat} (hl : 0 < l.length) (h : Rdr b k j) (hj : j ≤ 1000000) : Def (s_l30Rd_of_m N l b k) fun r => r.1 ∈ l ∧ Rdr r.2.1 r.2.2 (j + 1) := by
 unfold s_l30Rd_of_m
 refine Def.bind (pick_def N _ h hj) fun r ⟨h0, h1, _, h3⟩ => ?_
 exact Def.idx h0 (h1 (by omega)) fun x hx _ => Def.ret ⟨hx, h3⟩
theorem open_def (N : Nat) {code : List Int} (hb : Bs code) : Def (s_l30Open_m N code) fun r => Rdr r.1 r.2 0 := by
 obtain ⟨y, h1, h2, h3⟩ := open_spec N code hb
 exact ⟨_, h1, h2, h3, zbD _, zbD _⟩
def okC (c : UInt8) : Bool := decide (32 ≤ c.toNat) && decide (c.toNat ≤ 126)
def okS (n : Nat) (s : List UInt8) : Bool := s.all okC && decide (s.length ≤ n)
theorem okS_app {n m : Nat} {s t : List UInt8} (h : okS n s = true) (k : okS m t = true) : okS (n + m) (s ++ t) = true := by
 unfold okS at *
 simp only [zj, zw, List.all_append, zam] at *
 exact ⟨⟨h.1, k.1⟩, by omega⟩
theorem okS_le {n m : Nat} {s : List UInt8} (h : okS n s = true) (hm : n ≤ m) : okS m s = true := by
 unfold okS at *
 simp only [zj, zw] at *
 exact ⟨h.1, by omega⟩
theorem okS_len {n : Nat} {s : List UInt8} (h : okS n s = true) : s.length ≤ n := by
 unfold okS at h
 simp only [zj, zw] at h
 exact h.2
theorem raw_def (N : Nat) {b : List Int} {k : Int} {j : Nat} (h : Rdr b k j) (hj : j ≤ 100000) : Def (s_l30Raw_m N b k) fun r => okS 17 r.1 = true ∧ Rdr r.2.1 r.2.2 (j + 1) := by
 unfold s_l30Raw_m
 refine Def.bind (of_def N (by decide) h (by omega)) fun r ⟨m1, h1⟩ => Def.ret ⟨?_, h1⟩
 exact (by decide : ∀ w, w ∈ ([([99, 97, 116] : List UInt8), ([67, 97, 116, 115] : List UInt8), ([100, 111, 103] : List UInt8), ([100, 111, 103, 115] : List UInt8), ([114, 117, 110] : List UInt8), ([82, 85, 78, 78, 73, 78, 71] : List UInt8), ([116, 104, 101] : List UInt8), ([114, 101, 100] : List UInt8), ([98, 105, 103] : List UInt8), ([110, 101, 119, 32, 121, 111, 114, 107] : List UInt8), ([78, 101, 119, 32, 32, 89, 111, 114, 107] : List UInt8), ([110, 121] : List UInt8), ([102, 111, 120] : List UInt8), ([112, 97, 115, 115, 101, 100] : List UInt8), ([120, 49] : List UInt8), ([97, 118, 101, 114, 121, 118, 101, 114, 121, 108, 111, 110, 103, 119, 111, 114, 100] : List UInt8)] : List (List UInt8)) → okS 17 w = true) _ m1
theorem text_def (N : Nat) {b : List Int} {k : Int} {j : Nat} (h : Rdr b k j) (hj : j ≤ 10000) (hN : 20 ≤ N) : Def (s_l30Text_m N b k) fun r => okS 160 r.1 = true ∧ Rdr r.2.1 r.2.2 (j + 30) := by
 unfold s_l30Text_m
 refine Def.bind (pick_def N 9 h (by omega)) fun r ⟨p0, p1, _, h1⟩ => ?_
 have p1 := p1 (by omega)
 refine Def.iter (fun g => ∃ s : List UInt8, ∃ n : Nat, ∃ x y, n ≤ 8 ∧ okS (19 * (8 - n)) s = true ∧ Rdr x y (j + 1 + 2 * (8 - n)) ∧ g = (s, (n : Int), x, y)) (fun g => g.2.1.toNat) ?_ N _ ⟨[], r.1.toNat, _, _, by omega, by unfold okS; simp, h1.le (by omega), by rw [zbU p0]⟩ (by show r.1.toNat < N; omega)
 rintro go _ ⟨s, n, x, y, hn, hs, hr, rfl⟩ hgo
 dsimp only
 have hsl := okS_len hs
 refine Def.dif (fun e => ?_) (fun e => Def.ret ⟨okS_le hs (by omega), hr.le (by omega)⟩)
 refine Def.bind (raw_def N hr (by omega)) fun r2 ⟨l2, h2⟩ => ?_
 have hl2 := okS_len l2
 refine Def.ite (by omega) ?_
 refine Def.bind (of_def N (by decide) h2 (by omega)) fun r3 ⟨m3, h3⟩ => ?_
 have l3 : okS 2 r3.1 = true := (by decide : ∀ w, w ∈ ([([32] : List UInt8), ([32] : List UInt8), ([44, 32] : List UInt8), ([45] : List UInt8), ([46, 32] : List UInt8)] : List (List UInt8)) → okS 2 w = true) _ m3
 have hl3 := okS_len l3
 refine Def.ite (by rw [zam]; omega) (Def.ite (by unfold fits; omega) (hgo _ ⟨(s ++ r2.1) ++ r3.1, n - 1, _, _, by omega, okS_le (okS_app (okS_app hs l2) l3) (by omega), h3.le (by omega), ?_⟩ ?_))
 ·rw [show ((n : Int) - 1) = ((n - 1 : Nat) : Int) from by omega]
 ·show ((n : Int) - 1).toNat < (n : Int).toNat
  omega
structure SmallDoc (fs : List EField) (ats : List EAttr) (n : Nat) : Prop where
 fl : fs.length ≤ n
 al : ats.length ≤ n
 f : ∀ x, x ∈ fs → x.1.length ≤ 1000 ∧ x.2.length ≤ 1000
 a : ∀ x, x ∈ ats → x.1.length ≤ 4 ∧ -1 ≤ x.2 ∧ x.2 ≤ 1000000000
theorem SmallDoc.ok {fs : List EField} {ats : List EAttr} {n : Nat} (h : SmallDoc fs ats n) (hn : n ≤ 1000) {id : Int} (h0 : 0 ≤ id ∧ id ≤ 1000000) : okD Sm TDoc (id, fs, ats) := by
 have e1 : IntKind.i64.min = -9223372036854775808 := by decide
 have e2 : IntKind.i64.max = 9223372036854775807 := by decide
 have hfl := h.fl; have hal := h.al
 refine ⟨⟨by rw [e1]; show _ ≤ id; omega, by rw [e2]; show id ≤ _; omega⟩, ⟨by show fs.length ≤ 1048576; omega, fun x hx => ?_⟩, ⟨by show ats.length ≤ 1048576; omega, fun x hx => ?_⟩⟩
 ·have := h.f x hx
  exact ⟨by show x.1.length ≤ 1048576; omega, by show x.2.length ≤ 1048576; omega⟩
 ·have := h.a x hx
  exact ⟨by show x.1.length ≤ 1048576; omega, by rw [e1]; exact Int.le_trans (by decide) this.2.1, by rw [e2]; exact Int.le_trans this.2.2 (by decide)⟩
theorem SmallDoc.addF {fs : List EField} {ats : List EAttr} {n : Nat} (h : SmallDoc fs ats n) {x : EField} (h1 : x.1.length ≤ 1000) (h2 : x.2.length ≤ 1000) : SmallDoc (fs ++ [x]) ats (n + 1) := by
 have hfl := h.fl; have hal := h.al
 refine ⟨by simp only [zam, zi, zac]; omega, by omega, fun y hy => ?_, h.a⟩
 rcases zaB.1 hy with hy | hy
 ·exact h.f y hy
 ·rw [zaD.1 hy]; exact ⟨h1, h2⟩
theorem SmallDoc.addA {fs : List EField} {ats : List EAttr} {n : Nat} (h : SmallDoc fs ats n) {x : EAttr} (h1 : x.1.length ≤ 4) (h2 : -1 ≤ x.2) (h3 : x.2 ≤ 1000000000) : SmallDoc fs (ats ++ [x]) (n + 1) := by
 have hfl := h.fl; have hal := h.al
 refine ⟨by omega, by simp only [zam, zi, zac]; omega, h.f, fun y hy => ?_⟩
 rcases zaB.1 hy with hy | hy
 ·exact h.a y hy
 ·rw [zaD.1 hy]; exact ⟨h1, h2, h3⟩
theorem SmallDoc.le {fs : List EField} {ats : List EAttr} {n m : Nat} (h : SmallDoc fs ats n) (hm : n ≤ m) : SmallDoc fs ats m := ⟨zau h.fl hm, zau h.al hm, h.f, h.a⟩
theorem SmallDoc.nil : SmallDoc [] [] 0 := ⟨zae _, zae _, (fun x hx => by cases hx), (fun x hx => by cases hx)⟩
theorem SmallDoc.room {n : Nat} {b : Nat} (hn : n ≤ 1000) (hb : b ≤ 1000) : room n 1 b := by
 have : (n + 1) * b ≤ 1001 * 1000 := zbX (by omega) hb
 exact room_of (by omega) (by omega)
abbrev nBody : List UInt8 := [98, 111, 100, 121]
abbrev nTitle : List UInt8 := [116, 105, 116, 108, 101]
structure FG (fs : List EField) (ns : List (List UInt8)) : Prop where
 names : (fs.map (·.1)).Sublist ns
 texts : ∀ x, x ∈ fs → okS 160 x.2 = true
theorem FG.add {fs : List EField} {ns : List (List UInt8)} (h : FG fs ns) (n t : List UInt8) (ht : okS 160 t = true) : FG (fs ++ [(n, t)]) (ns ++ [n]) := by
 refine ⟨?_, fun x hx => ?_⟩
 ·rw [zaK]
  exact List.Sublist.append h.names (List.Sublist.refl _)
 ·rcases zaB.1 hx with hx | hx
  ·exact h.texts x hx
  ·rw [zaD] at hx; subst hx; exact ht
theorem FG.skip {fs : List EField} {ns : List (List UInt8)} (h : FG fs ns) (n : List UInt8) : FG fs (ns ++ [n]) := ⟨h.names.trans (List.sublist_append_left _ _), h.texts⟩
theorem doc_def (N : Nat) (id : Int) {b : List Int} {k : Int} {j : Nat} (h : Rdr b k j) (hj : j ≤ 5000) (hN : 20 ≤ N) : Def (s_l30Doc_m N id b k) fun r => r.1 = id ∧ (SmallDoc r.2.1 r.2.2.1 4 ∧ FG r.2.1 [nBody, nTitle] ∧ r.2.2.1.length ≤ 2) ∧ Rdr r.2.2.2.1 r.2.2.2.2 (j + 100) := by
 unfold s_l30Doc_m
 refine Def.meet (fun g => ∃ fs x y, SmallDoc fs [] 1 ∧ FG fs [nBody] ∧ Rdr x y (j + 31) ∧ g = (0, id, fs, x, y)) ?_ fun J hJ => ?_
 ·rintro _ ⟨fs, x, y, hs, hg, hr, rfl⟩
  dsimp only
  refine Def.meet (fun g => ∃ fs x y, SmallDoc fs [] 2 ∧ FG fs [nBody, nTitle] ∧ Rdr x y (j + 65) ∧ g = (0, id, fs, x, y)) ?_ fun J hJ => ?_
  ·rintro _ ⟨fs, x, y, hs, hg, hr, rfl⟩
   dsimp only
   refine Def.meet (fun g => ∃ fs ats x y, SmallDoc fs ats 3 ∧ (FG fs [nBody, nTitle] ∧ ats.length ≤ 1) ∧ Rdr x y (j + 70) ∧ g = (0, id, fs, ats, x, y)) ?_ fun J hJ => ?_
   ·rintro _ ⟨fs, ats, x, y, hs, ⟨hg, ha⟩, hr, rfl⟩
    dsimp only
    refine Def.bind (pick_def N 3 hr (by omega)) fun r7 ⟨_, _, _, h7⟩ => ?_
    refine Def.dif (fun _ => ?_) (fun _ => Def.ret ⟨rfl, ⟨hs.le (by omega), hg, by dsimp only; omega⟩, h7.le (by omega)⟩)
    refine Def.bind (pick_def N 30 h7 (by omega)) fun r8 ⟨q0, q1, _, h8⟩ => ?_
    have q1 := q1 (by omega)
    have hal := hs.al
    exact Def.ite (by unfold fits; omega) (Def.ite (SmallDoc.room (by omega) (by omega)) (Def.ret ⟨rfl, ⟨hs.addA (by simp) (by dsimp only; omega) (by dsimp only; omega), hg, by simp only [zam, zi, zac]; omega⟩, h8.le (by omega)⟩))
   ·refine Def.bind (pick_def N 3 hr (by omega)) fun r5 ⟨_, _, _, h5⟩ => ?_
    refine Def.dif (fun _ => ?_) (fun _ => hJ _ ⟨_, _, _, _, hs.le (by omega), ⟨hg, by simp⟩, h5.le (by omega), rfl⟩)
    refine Def.bind (pick_def N 4 h5 (by omega)) fun r6 ⟨q0, q1, _, h6⟩ => ?_
    have q1 := q1 (by omega)
    exact Def.ite (SmallDoc.room (by simp) (by omega)) (hJ _ ⟨_, _, _, _, hs.addA (x := (([114, 97, 116, 101] : List UInt8), r6.1)) (by simp) (by dsimp only; omega) (by dsimp only; omega), ⟨hg, by simp⟩, h6.le (by omega), rfl⟩)
  ·refine Def.bind (pick_def N 3 hr (by omega)) fun r3 ⟨_, _, _, h3⟩ => ?_
   refine Def.dif (fun _ => ?_) (fun _ => hJ _ ⟨_, _, _, hs.le (by omega), hg.skip nTitle, h3.le (by omega), rfl⟩)
   refine Def.bind (text_def N h3 (by omega) hN) fun r4 ⟨l4, h4⟩ => ?_
   have hfl := hs.fl
   have hl4 := okS_len l4
   exact Def.ite (SmallDoc.room (by omega) (by omega)) (hJ _ ⟨_, _, _, hs.addF (x := (([116, 105, 116, 108, 101] : List UInt8), r4.1)) (by simp) (by dsimp only; omega), hg.add nTitle _ l4, h4.le (by omega), rfl⟩)
 ·refine Def.bind (pick_def N 6 h (by omega)) fun r ⟨_, _, _, h1⟩ => ?_
  have g0 : FG [] [] := ⟨List.Sublist.refl _, fun x hx => by cases hx⟩
  refine Def.dif (fun _ => ?_) (fun _ => hJ _ ⟨_, _, _, SmallDoc.nil.le (by omega), g0.skip nBody, h1.le (by omega), rfl⟩)
  refine Def.bind (text_def N h1 (by omega) hN) fun r2 ⟨l2, h2⟩ => ?_
  have hl2 := okS_len l2
  exact Def.ite (SmallDoc.room (by simp) (by omega)) (hJ _ ⟨_, _, _, SmallDoc.nil.addF (x := (([98, 111, 100, 121] : List UInt8), r2.1)) (by simp) (by dsimp only; omega), g0.add nBody _ l2, h2.le (by omega), rfl⟩)
structure DrawnDocs (docs : List EDoc) (m : Int) : Prop where
 few : docs.length ≤ 6
 ids : docs.Pairwise fun a b => a.1 < b.1
 top : ∀ d, d ∈ docs → 1 ≤ d.1 ∧ d.1 ≤ m
 each : ∀ d, d ∈ docs → okD Sm TDoc d ∧ FG d.2.1 [nBody, nTitle] ∧ d.2.2.length ≤ 2
end Go.Proofs.YtfgcmhhacfkhcaaGreatDoor
namespace Go.Proofs.YtfgcmhhacfkhcaaGreatDoor
open Go.RowKit
def okSynW' (st : List (List UInt8)) (w : List UInt8) : Bool := okW w && (decide (once w = none) && !decide (w ∈ st))
def okSyn' (st : List (List UInt8)) (y : ESyn) : Bool := (decide ((1 : Int) ≤ (y.1.length : Int)) && decide ((y.1.length : Int) ≤ 3)) && (okW y.2 && (decide (once y.2 = none) && y.1.all (okSynW' st)))
def okConf' (c : EConf) : Bool := decide ((c.1.length : Int) ≤ 6) && (allN c.1.length (okUp c.1) && (decide ((c.2.length : Int) ≤ 4) && c.2.all (okSyn' c.1)))
def fewC (c : EConf) : Bool := decide (c.1.length ≤ 10) && c.1.all (fun w => decide (w.length ≤ 20)) && decide (c.2.length ≤ 10) && c.2.all (fun y => decide (y.1.length ≤ 10) && y.1.all (fun w => decide (w.length ≤ 20)) && decide (y.2.length ≤ 20))
theorem fewC_ok (c : EConf) (h : fewC c = true) : okD Sm TConf c := by
 unfold fewC at h
 simp only [zj, zw, zax] at h
 obtain ⟨⟨⟨h1, h2⟩, h3⟩, h4⟩ := h
 refine ⟨⟨by show c.1.length ≤ 1048576; omega, fun x hx => by have := h2 x hx; show x.length ≤ 1048576; omega⟩, ⟨by show c.2.length ≤ 1048576; omega, fun y hy => ?_⟩⟩
 have h5 := h4 y hy
 exact ⟨⟨by show y.1.length ≤ 1048576; omega, fun x hx => by have := h5.1.2 x hx; show x.length ≤ 1048576; omega⟩, by show y.2.length ≤ 1048576; omega⟩
def stops3 : List (List (List UInt8)) := [[], [[116, 104, 101]], [[100, 111, 103], [116, 104, 101]]]
def syns3 : List (List ESyn) := [[], [([[110, 101, 119], [121, 111, 114, 107]], [110, 121])], [([[98, 105, 103]], [108, 97, 114, 103]), ([[98, 105, 103], [114, 101, 100], [102, 111, 120]], [102, 111, 120]), ([[110, 101, 119], [121, 111, 114, 107]], [110, 121])]]
theorem confs_ok : ∀ s, s ∈ stops3 → ∀ y, y ∈ syns3 → okConf' (s, y) = true ∧ fewC (s, y) = true := by decide +kernel
structure Drawn (c : EConf) (s : ESeg) : Prop where
 conf : okD Sm TConf c
 docs : ∀ x, x ∈ s.1 → okD Sm TDoc x
 few : s.1.length ≤ 1048576
end Go.Proofs.YtfgcmhhacfkhcaaGreatDoor
namespace Go.Proofs.YtfgcmhhacfkhcaaGreatDoor
open Go.RowKit
theorem one_def (N : Nat) {l : List Int} {b : List Int} {k : Int} {j : Nat} (hl : 0 < l.length) (h : Rdr b k j) (hj : j ≤ 1000000) : Def (s_l30Rd_one_m N l b k) fun r => r.1 ∈ l ∧ Rdr r.2.1 r.2.2 (j + 1) := by
 unfold s_l30Rd_one_m
 refine Def.bind (pick_def N _ h hj) fun r ⟨h0, h1, _, h3⟩ => ?_
 exact Def.idx h0 (h1 (by omega)) fun x hx _ => Def.ret ⟨hx, h3⟩
theorem anyText_def (N : Nat) {b : List Int} {k : Int} {j : Nat} (h : Rdr b k j) (hj : j ≤ 10000) (hN : 20 ≤ N) : Def (s_l30AnyText_m N b k) fun r => r.1.length ≤ 1000 ∧ Rdr r.2.1 r.2.2 (j + 40) := by
 unfold s_l30AnyText_m
 refine Def.bind (text_def N h hj hN) fun r ⟨l1, h1⟩ => ?_
 have l1 := okS_len l1
 refine Def.bind (pick_def N 12 h1 (by omega)) fun r2 ⟨_, _, _, h2⟩ => ?_
 refine Def.dif (fun e => ?_) (fun e => Def.ret ⟨by dsimp only; omega, h2.le (by omega)⟩)
 refine Def.bind (Def.mono (of_def N (by simp) h2 (by omega)) (Q := fun r3 => r3.1.length ≤ 200 ∧ Rdr r3.2.1 r3.2.2 (j + 40)) ?_) fun r3 ⟨l3, h3⟩ => ?_
 ·rintro r3 ⟨m3, h3⟩
  refine ⟨?_, h3.le (by omega)⟩
  simp only [zp, zbY, or_false] at m3
  rcases m3 with m | m | m <;> rw [m] <;> simp
 ·exact Def.ite (by omega) (Def.ret ⟨by dsimp only; rw [zam]; omega, h3⟩)
theorem anyDoc_def (N : Nat) {b : List Int} {k : Int} {j : Nat} (h : Rdr b k j) (hj : j ≤ 4000) (hN : 20 ≤ N) : Def (s_l30AnyDoc_m N b k) fun r => okD Sm TDoc (r.1, r.2.1, r.2.2.1) ∧ Rdr r.2.2.2.1 r.2.2.2.2 (j + 200) := by
 unfold s_l30AnyDoc_m
 refine Def.bind (pick_def N 9 h (by omega)) fun r ⟨p0, p1, _, h1⟩ => ?_
 have p1 := p1 (by omega)
 refine Def.ite (by unfold fits; omega) ?_
 refine Def.bind (doc_def N _ h1 (by omega) hN) fun r2 ⟨e2, ⟨s2, _, _⟩, h2⟩ => ?_
 have hid : 0 ≤ r2.1 ∧ r2.1 ≤ 1000000 := by rw [e2]; omega
 have hfl := s2.fl; have hal := s2.al
 refine Def.bind (pick_def N 14 h2 (by omega)) fun r3 ⟨_, _, _, h3⟩ => ?_
 refine Def.dif (fun _ => ?_) (fun _ => ?_)
 ·refine Def.bind (one_def N (by simp) h3 (by omega)) fun r4 ⟨m4, h4⟩ => Def.ret ⟨s2.ok (by omega) ?_, h4.le (by omega)⟩
  simp only [zp, zbY, or_false] at m4
  omega
 refine Def.dif (fun _ => Def.ite (SmallDoc.room (by omega) (by omega)) (Def.ret ⟨(s2.addF (x := (([98, 111, 100, 121] : List UInt8), ([97, 103, 97, 105, 110] : List UInt8))) (by simp) (by simp)).ok (by omega) hid, h3.le (by omega)⟩)) (fun _ => ?_)
 refine Def.dif (fun _ => ?_) (fun _ => ?_)
 ·refine Def.bind (one_def N (by simp) h3 (by omega)) fun r5 ⟨m5, h5⟩ => ?_
  simp only [zp, zbY, or_false] at m5
  exact Def.ite (SmallDoc.room (by omega) (by omega)) (Def.ret ⟨(s2.addA (x := (([122, 122] : List UInt8), r5.1)) (by simp) (by dsimp only; omega) (by dsimp only; omega)).ok (by omega) hid, h5.le (by omega)⟩)
 refine Def.dif (fun _ => ?_) (fun _ => Def.ret ⟨s2.ok (by omega) hid, h3.le (by omega)⟩)
 refine Def.bind (anyText_def N h3 (by omega) hN) fun r6 ⟨l6, h6⟩ => ?_
 exact Def.ite (SmallDoc.room (by omega) (by omega)) (Def.ret ⟨(s2.addF (x := (([122, 101, 100] : List UInt8), r6.1)) (by simp) l6).ok (by omega) hid, h6.le (by omega)⟩)
theorem confs_any : ∀ s, s ∈ stops3 → ∀ y, y ∈ syns3 → fewC ([[116, 104, 101], [97]], y) = true ∧ fewC (s, y ++ [([[99, 97, 116, 115]], [99, 97, 116])]) = true ∧ fewC (s, y ++ [([], [99, 97, 116])]) = true ∧ fewC (s, y ++ [([[116, 104, 101], [99, 97, 116]], [99, 97, 116])]) = true ∧ y.length ≤ 10 := by decide +kernel
theorem conf_def2 (N : Nat) {b : List Int} {k : Int} {j : Nat} (h : Rdr b k j) (hj : j ≤ 10000) : Def (s_l30Conf_m N b k) fun r => (r.1 ∈ stops3 ∧ r.2.1 ∈ syns3) ∧ Rdr r.2.2.1 r.2.2.2 (j + 3) := by
 unfold s_l30Conf_m
 refine Def.meet (fun g => ∃ c x y, c ∈ stops3 ∧ Rdr x y (j + 1) ∧ g = (c, x, y)) ?_ fun J hJ => ?_
 ·rintro _ ⟨c, x, y, hc, hr, rfl⟩
  dsimp only
  refine Def.meet (fun g => ∃ c x y, c ∈ stops3 ∧ Rdr x y (j + 2) ∧ g = (c, x, y)) ?_ fun J hJ => ?_
  ·rintro _ ⟨c, x, y, hc, hr, rfl⟩
   dsimp only
   refine Def.bind (pick_def N 4 hr (by omega)) fun r3 ⟨_, _, _, h3⟩ => ?_
   refine Def.dif (fun _ => Def.ret ⟨⟨hc, by simp [syns3]⟩, h3⟩) (fun _ => ?_)
   exact Def.dif (fun _ => Def.ret ⟨⟨hc, by simp [syns3]⟩, h3⟩) (fun _ => Def.ret ⟨⟨hc, by simp [syns3]⟩, h3⟩)
  ·refine Def.bind (pick_def N 4 hr (by omega)) fun r2 ⟨_, _, _, h2⟩ => ?_
   exact Def.dif (fun _ => hJ _ ⟨_, _, _, by decide, h2, rfl⟩) (fun _ => hJ _ ⟨_, _, _, hc, h2, rfl⟩)
 ·refine Def.bind (pick_def N 3 h (by omega)) fun r ⟨_, _, _, h1⟩ => ?_
  exact Def.dif (fun _ => hJ _ ⟨_, _, _, by decide, h1, rfl⟩) (fun _ => hJ _ ⟨_, _, _, by decide, h1, rfl⟩)
theorem anyConf_def (N : Nat) {b : List Int} {k : Int} {j : Nat} (h : Rdr b k j) (hj : j ≤ 10000) : Def (s_l30AnyConf_m N b k) fun r => okD Sm TConf (r.1, r.2.1) ∧ Rdr r.2.2.1 r.2.2.2 (j + 4) := by
 unfold s_l30AnyConf_m
 refine Def.bind (conf_def2 N h hj) fun r ⟨⟨m1, m2⟩, h1⟩ => ?_
 obtain ⟨f1, f2, f3, f4, f5⟩ := confs_any _ m1 _ m2
 have f0 := (confs_ok _ m1 _ m2).2
 refine Def.bind (pick_def N 14 h1 (by omega)) fun r2 ⟨_, _, _, h2⟩ => ?_
 refine Def.dif (fun _ => Def.ret ⟨fewC_ok _ f1, h2⟩) (fun _ => ?_)
 refine Def.dif (fun _ => Def.ite (room_of (by simp; omega) (by simp; omega)) (Def.ret ⟨fewC_ok _ f2, h2⟩)) (fun _ => ?_)
 refine Def.dif (fun _ => Def.ite (room_of (by simp; omega) (by simp; omega)) (Def.ret ⟨fewC_ok _ f3, h2⟩)) (fun _ => ?_)
 refine Def.dif (fun _ => Def.ite (room_of (by simp; omega) (by simp; omega)) (Def.ret ⟨fewC_ok _ f4, h2⟩)) (fun _ => ?_)
 exact Def.ret ⟨fewC_ok _ f0, h2⟩
def AQ (q : DQ) : Prop := ∀ n, BQ n q
theorem AQ.mk' {k : Int} {f : List UInt8} {ws : List (List UInt8)} {a b : Int} {kids : List DQ} (h1 : f.length ≤ 1000) (h2 : ws.length ≤ 1000) (h3 : ∀ w, w ∈ ws → w.length ≤ 1000) (h4 : kids.length ≤ 1000) (h5 : ∀ c, c ∈ kids → AQ c) : AQ (.mk k f ws a b kids)
 | 0 => True.intro
 | n + 1 => ⟨by show f.length ≤ _; omega, by show ws.length ≤ _; omega, fun w hw => by have := h3 w hw; omega, by show kids.length ≤ _; omega, fun c hc => h5 c hc n⟩
theorem nil100 : ([] : List UInt8).length ≤ 100 := by decide
theorem nilW : ([] : List (List UInt8)).length ≤ 100 := by decide
theorem nilK : ([] : List DQ).length ≤ 100 := by decide
structure Own (q : Int) (f : List UInt8) (ws : List (List UInt8)) (kids : List DQ) : Prop where
 f : f.length ≤ 100
 n : ws.length ≤ 100
 w : ∀ w, w ∈ ws → w.length ≤ 100
 k : kids.length ≤ 100
 c : ∀ c, c ∈ kids → AQ c
theorem Own.aq {q : Int} {f : List UInt8} {ws : List (List UInt8)} {a b : Int} {kids : List DQ} (h : Own q f ws kids) : AQ (.mk q f ws a b kids) :=
 AQ.mk' (by have := h.f; omega) (by have := h.n; omega) (fun w hw => by have := h.w w hw; omega) (by have := h.k; omega) h.c
theorem known_def (N : Nat) {b : List Int} {k : Int} {j : Nat} (h : Rdr b k j) (hj : j ≤ 200000) : Def (s_l30Known_m N) fun r3 => Def (s_l30Rd_of_m N r3 b k) fun r => r.1.length ≤ 100 ∧ Rdr r.2.1 r.2.2 (j + 1) := by
 unfold s_l30Known_m
 refine Def.ret ?_
 refine Def.mono (of_def N (by decide) h (by omega)) fun r ⟨m, hr⟩ => ⟨?_, hr⟩
 have hall : ∀ (l : List (List UInt8)), l.all (fun w => decide (w.length ≤ 100)) = true → ∀ w, w ∈ l → w.length ≤ 100 := fun l h w hw => of_decide_eq_true (zax.1 h w hw)
 exact hall _ (by decide) _ m
theorem leaf_def (N : Nat) {b : List Int} {k : Int} {j : Nat} (h : Rdr b k j) (hj : j ≤ 100000) : Def (s_l30Leaf_m N b k) fun r => Own r.1 r.2.1 r.2.2.1 [] ∧ Rdr r.2.2.2.2.2.1 r.2.2.2.2.2.2 (j + 10) := by
 have nok : ∀ c, c ∈ ([] : List DQ) → AQ c := fun c hc => by cases hc
 unfold s_l30Leaf_m
 refine Def.bind (of_def N (by decide) h (by omega)) fun r ⟨m, h1⟩ => ?_
 have hf : r.1.length ≤ 100 := (by decide : ∀ w, w ∈ ([([98, 111, 100, 121] : List UInt8), ([98, 111, 100, 121] : List UInt8), ([116, 105, 116, 108, 101] : List UInt8)] : List (List UInt8)) → w.length ≤ 100) _ m
 refine Def.bind (pick_def N 9 h1 (by omega)) fun r2 ⟨_, _, _, h2⟩ => ?_
 refine Def.dif (fun _ => Def.ret ⟨⟨nil100, nilW, (fun w hw => by cases hw), nilK, nok⟩, h2.le (by omega)⟩) (fun _ => ?_)
 refine Def.dif (fun _ => ?_) (fun _ => ?_)
 ·refine Def.bind (known_def N h2 (by omega)) fun r3 d3 => Def.bind d3 fun r4 ⟨l4, h4⟩ => ?_
  refine Def.bind (known_def N h4 (by omega)) fun r5 d5 => Def.bind d5 fun r6 ⟨l6, h6⟩ => ?_
  refine Def.bind (pick_def N 3 h6 (by omega)) fun r7 ⟨_, _, _, h7⟩ => Def.ret ⟨⟨hf, by simp, fun w hw => ?_, nilK, nok⟩, h7.le (by omega)⟩
  simp only [zp, zbY, or_false] at hw
  rcases hw with e | e <;> rw [e] <;> assumption
 refine Def.dif (fun _ => ?_) (fun _ => ?_)
 ·refine Def.bind (of_def N (by decide) h2 (by omega)) fun r8 ⟨m8, h8⟩ => ?_
  have l8 : r8.1.length ≤ 100 := (by decide : ∀ w, w ∈ ([([99, 111, 116] : List UInt8), ([100, 117, 103] : List UInt8), ([114, 110] : List UInt8), ([102, 111, 103] : List UInt8)] : List (List UInt8)) → w.length ≤ 100) _ m8
  refine Def.bind (pick_def N 2 h8 (by omega)) fun r9 ⟨p0, p1, _, h9⟩ => ?_
  have p1 := p1 (by omega)
  exact Def.ite (by unfold fits; omega) (Def.ret ⟨⟨hf, by simp, (fun w hw => by rw [zaD.1 hw]; exact l8), nilK, nok⟩, h9.le (by omega)⟩)
 refine Def.dif (fun _ => ?_) (fun _ => ?_)
 ·refine Def.bind (of_def N (by decide) h2 (by omega)) fun r8 ⟨m8, h8⟩ => ?_
  have l8 : r8.1.length ≤ 100 := (by decide : ∀ w, w ∈ ([([99, 42] : List UInt8), ([63, 111, 63] : List UInt8), ([42, 110] : List UInt8), ([42] : List UInt8)] : List (List UInt8)) → w.length ≤ 100) _ m8
  exact Def.ret ⟨⟨hf, by simp, (fun w hw => by rw [zaD.1 hw]; exact l8), nilK, nok⟩, h8.le (by omega)⟩
 refine Def.dif (fun _ => ?_) (fun _ => ?_)
 ·refine Def.bind (pick_def N 4 h2 (by omega)) fun r8 ⟨p0, p1, _, h8⟩ => ?_
  refine Def.bind (pick_def N 3 h8 (by omega)) fun r9 ⟨q0, q1, _, h9⟩ => ?_
  have p1 := p1 (by omega)
  have q1 := q1 (by omega)
  exact Def.ite (by unfold fits; omega) (Def.ret ⟨⟨by simp, nilW, (fun w hw => by cases hw), nilK, nok⟩, h9.le (by omega)⟩)
 ·refine Def.bind (known_def N h2 (by omega)) fun r3 d3 => Def.bind d3 fun r4 ⟨l4, h4⟩ => ?_
  exact Def.ret ⟨⟨hf, by simp, (fun w hw => by rw [zaD.1 hw]; exact l4), nilK, nok⟩, h4.le (by omega)⟩
def dT : Nat → Nat
 | 0 => 10
 | n + 1 => 3 * dT n + 3
theorem dT_ge : ∀ n, 10 ≤ dT n
 | 0 => zae _
 | n + 1 => by have := dT_ge n; show 10 ≤ 3 * dT n + 3; omega
theorem query_def (N : Nat) (hN : 20 ≤ N) : ∀ (D deep : Nat), deep < D → ∀ {b : List Int} {k : Int} {j : Nat}, Rdr b k j → j + dT deep ≤ 100000 → deep ≤ 10 → Def (s_l30Query_m N D (deep : Int) b k) fun r => Own r.1 r.2.1 r.2.2.1 r.2.2.2.2.2.1 ∧ Rdr r.2.2.2.2.2.2.1 r.2.2.2.2.2.2.2 (j + dT deep)
 | 0, _, hd, _, _, _, _, _, _ => absurd hd (Nat.not_lt_zero _)
 | D + 1, deep, hd, b, k, j, h, hj, hdd => by
  have hg := dT_ge deep
  rw [s_l30Query_m]
  refine Def.dif (fun e => ?_) (fun e => ?_)
  ·exact Def.bind (leaf_def N h (by omega)) fun r ⟨o, h1⟩ => Def.ret ⟨o, h1.le (by omega)⟩
  obtain ⟨d, rfl⟩ : ∃ d, deep = d + 1 := ⟨deep - 1, by omega⟩
  have hdt : dT (d + 1) = 3 * dT d + 3 := rfl
  have hg2 := dT_ge d
  have e1 : ((d + 1 : Nat) : Int) - 1 = (d : Int) := by omega
  refine Def.bind (pick_def N 3 h (by omega)) fun r2 ⟨_, _, _, h2⟩ => ?_
  refine Def.dif (fun _ => Def.bind (leaf_def N h2 (by omega)) fun r ⟨o, h1⟩ => Def.ret ⟨o, h1.le (by omega)⟩) (fun _ => ?_)
  refine Def.bind (pick_def N 6 h2 (by omega)) fun r4 ⟨_, _, _, h4⟩ => ?_
  refine Def.dif (fun _ => ?_) (fun _ => ?_)
  ·refine Def.ite (by unfold fits; omega) ?_
   rw [e1]
   refine Def.bind (query_def N hN D d (by omega) h4 (by omega) (by omega)) fun r5 ⟨o5, h5⟩ => ?_
   refine Def.ite (by unfold fits; omega) ?_
   refine Def.bind (query_def N hN D d (by omega) h5 (by omega) (by omega)) fun r6 ⟨o6, h6⟩ => ?_
   refine Def.ret ⟨⟨nil100, nilW, (fun w hw => by cases hw), by simp, fun c hc => ?_⟩, h6.le (by omega)⟩
   simp only [zp, zbY, or_false] at hc
   rcases hc with rfl | rfl
   ·exact o5.aq
   ·exact o6.aq
  refine Def.dif (fun _ => ?_) (fun _ => ?_)
  ·refine Def.bind (pick_def N 4 h4 (by omega)) fun r7 ⟨p0, p1, _, h7⟩ => ?_
   have p1 := p1 (by omega)
   refine Def.ite (by unfold fits; omega) (Def.ite (by unfold fits; omega) ?_)
   rw [e1]
   refine Def.bind (query_def N hN D d (by omega) h7 (by omega) (by omega)) fun r8 ⟨o8, h8⟩ => ?_
   exact Def.ret ⟨⟨nil100, nilW, (fun w hw => by cases hw), by simp, (fun c hc => by rw [zaD.1 hc]; exact o8.aq)⟩, h8.le (by omega)⟩
  refine Def.meet (fun g => ∃ (t : Bool) (x : List Int) (y : Int), Rdr x y (j + 2) ∧ g = (((d + 1 : Nat) : Int), t, 0, ([] : List UInt8), 0, 0, x, y)) ?_ fun J hJ => ?_
  ·rintro _ ⟨t, x, y, hr, rfl⟩
   dsimp only
   refine Def.bif (fun _ => ?_) (fun _ => ?_)
   ·refine Def.ite (by unfold fits; omega) ?_
    rw [e1]
    refine Def.bind (query_def N hN D d (by omega) hr (by omega) (by omega)) fun r5 ⟨o5, h5⟩ => ?_
    refine Def.ite (by unfold fits; omega) ?_
    refine Def.bind (query_def N hN D d (by omega) h5 (by omega) (by omega)) fun r6 ⟨o6, h6⟩ => ?_
    refine Def.ret ⟨⟨nil100, nilW, (fun w hw => by cases hw), by simp, fun c hc => ?_⟩, h6.le (by omega)⟩
    simp only [zp, zbY, or_false] at hc
    rcases hc with rfl | rfl
    ·exact o5.aq
    ·exact o6.aq
   ·refine Def.bind (pick_def N 2 hr (by omega)) fun r11 ⟨p0, p1, _, h11⟩ => ?_
    have p1 := p1 (by omega)
    refine Def.ite (by unfold fits; omega) ?_
    refine Def.iter (fun g => ∃ (n : Nat) (kids : List DQ) (x : List Int) (y : Int), kids.length + n ≤ 3 ∧ (∀ c, c ∈ kids → AQ c) ∧ Rdr x y (j + 3 + (3 - n) * dT d) ∧ g = (((d + 1 : Nat) : Int), (n : Int), 0, ([] : List UInt8), 0, 0, 8, ([] : List UInt8), 0, 0, kids, x, y)) (fun g => g.2.1.toNat) ?_ N _
     ⟨(2 + r11.1).toNat, [], _, _, by simp; omega, (fun c hc => by cases hc), h11.le (by omega), by rw [zbU (by omega)]⟩ (by show (2 + r11.1).toNat < N; omega)
    rintro go _ ⟨n, kids, x, y, hn, hk, hr, rfl⟩ hgo
    dsimp only
    refine Def.dif (fun e3 => ?_) (fun e3 => ?_)
    ·refine Def.ite (by unfold fits; omega) ?_
     rw [e1]
     have hb : (3 - n) * dT d ≤ 2 * dT d := zag _ (by omega)
     refine Def.bind (query_def N hN D d (by omega) hr (by omega) (by omega)) fun r12 ⟨o12, h12⟩ => ?_
     refine Def.ite (room_of (by rw [zbE]; omega) (by rw [zbE]; omega)) (Def.ite (by unfold fits; omega) (hgo _ ⟨n - 1, kids ++ [DQ.mk r12.1 r12.2.1 r12.2.2.1 r12.2.2.2.1 r12.2.2.2.2.1 r12.2.2.2.2.2.1], _, _, by rw [zam, zbE]; omega, fun c hc => ?_, h12.le ?_, by rw [show ((n : Int) - 1) = ((n - 1 : Nat) : Int) from by omega]⟩ (by show ((n : Int) - 1).toNat < ((n : Int)).toNat; omega)))
     ·rcases zaB.1 hc with hc | hc
      ·exact hk c hc
      ·rw [zaD.1 hc]; exact o12.aq
     ·have e4 : 3 - (n - 1) = (3 - n) + 1 := by omega
      rw [e4, zaO, Nat.one_mul]; omega
    ·have hb : (3 - n) * dT d ≤ 3 * dT d := zag _ (by omega)
     exact Def.ret ⟨⟨nil100, nilW, (fun w hw => by cases hw), by dsimp only; omega, hk⟩, hr.le (by omega)⟩
  ·exact Def.dif (fun _ => hJ _ ⟨_, _, _, h4, rfl⟩) (fun _ => hJ _ ⟨_, _, _, h4, rfl⟩)
theorem query3_def (N : Nat) (hN : 20 ≤ N) {b : List Int} {k : Int} {j : Nat} (h : Rdr b k j) (hj : j ≤ 50000) : Def (s_l30Query_m N N 3 b k) fun r => Own r.1 r.2.1 r.2.2.1 r.2.2.2.2.2.1 ∧ Rdr r.2.2.2.2.2.2.1 r.2.2.2.2.2.2.2 (j + 309) :=
 query_def N hN N 3 (by omega) h (by show j + 309 ≤ _; omega) (by omega)
theorem anyQuery_def (N : Nat) (hN : 20 ≤ N) {b : List Int} {k : Int} {j : Nat} (h : Rdr b k j) (hj : j ≤ 50000) : Def (s_l30AnyQuery_m N b k) fun r => AQ (.mk r.1 r.2.1 r.2.2.1 r.2.2.2.1 r.2.2.2.2.1 r.2.2.2.2.2.1) ∧ Rdr r.2.2.2.2.2.2.1 r.2.2.2.2.2.2.2 (j + 312) := by
 unfold s_l30AnyQuery_m
 refine Def.bind (query3_def N hN h hj) fun r ⟨o, h1⟩ => ?_
 have o1 := o.f; have o2 := o.n; have o3 := o.k
 refine Def.bind (pick_def N 16 h1 (by omega)) fun r2 ⟨_, _, _, h2⟩ => ?_
 refine Def.dif (fun _ => ?_) (fun _ => ?_)
 ·exact Def.bind (one_def N (by simp) h2 (by omega)) fun r3 ⟨_, h3⟩ => Def.ret ⟨Own.aq ⟨o.f, o.n, o.w, o.k, o.c⟩, h3.le (by omega)⟩
 refine Def.dif (fun _ => ?_) (fun _ => ?_)
 ·exact Def.bind (one_def N (by simp) h2 (by omega)) fun r3 ⟨_, h3⟩ => Def.ret ⟨o.aq, h3.le (by omega)⟩
 refine Def.dif (fun _ => ?_) (fun _ => ?_)
 ·refine Def.ite (room_of (by rw [zbE]; omega) (by rw [zbE]; omega)) (Def.ret ⟨AQ.mk' (by dsimp only; omega) (by dsimp only; rw [zam, zbE]; omega) (fun w hw => ?_) (by dsimp only; omega) o.c, h2.le (by omega)⟩)
  rcases zaB.1 hw with hw | hw
  ·have := o.w w hw; omega
  ·rw [zaD.1 hw]; decide
 refine Def.dif (fun _ => ?_) (fun _ => Def.ret ⟨o.aq, h2.le (by omega)⟩)
 refine Def.ite (room_of (by rw [zbE]; omega) (by rw [zbE]; omega)) (Def.ret ⟨AQ.mk' (by dsimp only; omega) (by dsimp only; omega) (fun w hw => by have := o.w w hw; omega) (by dsimp only; rw [zam, zbE]; omega) (fun c hc => ?_), h2.le (by omega)⟩)
 rcases zaB.1 hc with hc | hc
 ·rw [zaD.1 hc]; exact o.aq
 ·exact o.c c hc
theorem alerts_def (N : Nat) (hN : 20 ≤ N) {b : List Int} {k : Int} {j : Nat} (h : Rdr b k j) (hj : j ≤ 10) : Def (s_l30Alerts_m N b k) fun r => (r.1.length ≤ 10 ∧ ∀ x, x ∈ r.1 → GB x) ∧ Rdr r.2.1 r.2.2 1600 := by
 unfold s_l30Alerts_m
 refine Def.bind (pick_def N 5 h (by omega)) fun r ⟨p0, p1, _, h1⟩ => ?_
 have p1 := p1 (by omega)
 refine Def.iter (fun g => ∃ (out : List EAl) (n : Nat) (x : List Int) (y : Int), out.length + n ≤ 4 ∧ (∀ z, z ∈ out → GB z) ∧ Rdr x y (11 + (4 - n) * 309) ∧ g = (out, ([([97] : List UInt8), ([98] : List UInt8), ([99] : List UInt8), ([100] : List UInt8)] : List (List UInt8)), (n : Int), x, y)) (fun g => g.2.2.1.toNat) ?_ N _
  ⟨[], r.1.toNat, _, _, by simp; omega, (fun z hz => by cases hz), h1.le (by omega), by rw [zbU p0]⟩ (by show r.1.toNat < N; omega)
 rintro go _ ⟨out, n, x, y, hn, ho, hr, rfl⟩ hgo
 dsimp only
 have hb : (4 - n) * 309 ≤ 4 * 309 := zag _ (by omega)
 refine Def.dif (fun e => ?_) (fun e => ?_)
 ·refine Def.idx (by omega) (by simp; omega) fun w hw _ => ?_
  have lw : w.length ≤ 100 := (by decide : ∀ w, w ∈ ([([97] : List UInt8), ([98] : List UInt8), ([99] : List UInt8), ([100] : List UInt8)] : List (List UInt8)) → w.length ≤ 100) _ hw
  refine Def.bind (query3_def N hN hr (by omega)) fun r2 ⟨o, h2⟩ => ?_
  refine Def.ite (room_of (by rw [zbE]; omega) (by rw [zbE]; omega)) (Def.ite (by unfold fits; omega) (hgo _ ⟨out ++ [(w, DQ.mk r2.1 r2.2.1 r2.2.2.1 r2.2.2.2.1 r2.2.2.2.2.1 r2.2.2.2.2.2.1)], n - 1, _, _, by rw [zam, zbE]; omega, fun z hz => ?_, h2.le (by omega), by rw [show ((n : Int) - 1) = ((n - 1 : Nat) : Int) from by omega]⟩ (by show ((n : Int) - 1).toNat < ((n : Int)).toNat; omega)))
  rcases zaB.1 hz with hz | hz
  ·exact ho z hz
  ·rw [zaD.1 hz]; exact ⟨by show w.length ≤ _; omega, o.aq 4⟩
 ·refine Def.bind (pick_def N 12 hr (by omega)) fun r3 ⟨_, _, _, h3⟩ => ?_
  refine Def.dif (fun _ => ?_) (fun _ => Def.ret ⟨⟨by dsimp only; omega, ho⟩, h3.le (by omega)⟩)
  refine Def.bind (anyQuery_def N hN h3 (by omega)) fun r4 ⟨o, h4⟩ => ?_
  refine Def.ite (room_of (by rw [zbE]; omega) (by rw [zbE]; omega)) (Def.ret ⟨⟨by dsimp only; rw [zam, zbE]; omega, fun z hz => ?_⟩, h4.le (by omega)⟩)
  rcases zaB.1 hz with hz | hz
  ·exact ho z hz
  ·rw [zaD.1 hz]; exact ⟨by show (1 : Nat) ≤ _; omega, o 4⟩
theorem drawAlertOf_def (N : Nat) (hM : 1048576 < N) {code : List Int} (hb : Bs code) : Def (s_DrawAlertOf_m N code) fun r => (r.1.length ≤ 10 ∧ ∀ x, x ∈ r.1 → GB x) ∧ okD Sm TConf (r.2.1, r.2.2.1) ∧ okD Sm TDoc (r.2.2.2.1, r.2.2.2.2.1, r.2.2.2.2.2) := by
 unfold s_DrawAlertOf_m
 refine Def.bind (open_def N hb) fun r h0 => ?_
 refine Def.bind (alerts_def N (by omega) h0 (by omega)) fun r2 ⟨a2, h2⟩ => ?_
 refine Def.bind (anyConf_def N h2 (by omega)) fun r3 ⟨a3, h3⟩ => ?_
 refine Def.bind (anyDoc_def N h3 (by omega) (by omega)) fun r4 ⟨a4, _⟩ => ?_
 exact Def.ret ⟨a2, a3, a4⟩
end Go.Proofs.YtfgcmhhacfkhcaaGreatDoor
namespace Go.Proofs.YtfgcmhhacfkhcaaGreatDoor
open Go.RowKit
theorem foTexts_same (N : Nat) (l : List (List UInt8)) (h : l.length < N) (hl : l.length ≤ 1000000) : l_foTexts_m N l l = some true := by
 refine Def.get ?_
 unfold l_foTexts_m
 rw [zb rfl, zn, ze]
 refine Def.upto l.length (fun n v => v = (l, l, (n : Int))) (fun go v hv => ?_) (fun go n v hn hv hgo => ?_) N 0 _ (zaf _) rfl (by omega)
 ·subst hv
  dsimp only
  rw [zd (zm _), ze]
  exact Def.ret rfl
 ·subst hv
  dsimp only
  rw [zb (by omega : (n : Int) < (l.length : Int)), zg, idx_at hn, za, za, zb rfl, zn, ze, zf (fits_nat (n := n) (by omega))]
  exact hgo _ (by rw [cast_succ'])
theorem match_one (N : Nat) {c : EConf} {d : EDoc} (hs : okSeg c (oneS c d) = true) {q : DQ} (hq : okQ 4 q = true) : decide ((0 : Int) < ((matchR N c (oneS c d) q).length : Int)) = decide (0 < valS N N c (oneS c d) d q) := by
 have e : matchR N c (oneS c d) q = if 0 < valS N N c (oneS c d) d q then [d.1] else [] := by
  unfold matchR hitsR
  rw [hs, hq]
  show (([d] : List EDoc).filterMap (hitP (fun d' => valS N N c (oneS c d) d' q) allP)).map (·.1) = _
  by_cases h : 0 < valS N N c (oneS c d) d q
  ·rw [zf h]
   simp [hitP, allP, h]
  ·rw [zu h]
   simp [hitP, allP, h]
 rw [e]
 by_cases h : 0 < valS N N c (oneS c d) d q
 ·rw [zf h, zb h]; rfl
 ·rw [zu h, zd h]; rfl
theorem fnAlertOf_gen (N : Nat) (hM : Sm < N) (hN : N ≤ 16777216) (code : List Int) (hb : Bs code) : l_FnAlertOf_m N code = some true := by
 have hM' : 1048576 < N := hM
 refine Def.get ?_
 unfold l_FnAlertOf_m
 refine Def.dif (fun e => Def.ret rfl) (fun e => ?_)
 refine Def.bind (drawAlertOf_def N hM' hb) fun r ⟨⟨al, ag⟩, oc, od⟩ => ?_
 generalize hc : ((r.2.1, r.2.2.1) : EConf) = c at *
 generalize hd : ((r.2.2.2.1, r.2.2.2.2.1, r.2.2.2.2.2) : EDoc) = d at *
 have c1 : r.2.1 = c.1 := by rw [← hc]
 have c2 : r.2.2.1 = c.2 := by rw [← hc]
 have d1 : r.2.2.2.1 = d.1 := by rw [← hd]
 have d2 : r.2.2.2.2.1 = d.2.1 := by rw [← hd]
 have d3 : r.2.2.2.2.2 = d.2.2 := by rw [← hd]
 have d0 : r.2.2.2 = d := by rw [← hd]
 generalize r.1 = xs at *
 have F : FitA N xs c d := ⟨hM, hN, oc, od, by omega, ag⟩
 have t1 := alertOf_i F
 have t2 := alertOf_s F
 have hL := alR_len N xs c d
 have t3 := foTexts_same N (alR N xs c d) (by omega) (by omega)
 have t4 := al_impl N hM (by omega) xs F.len ag
 have t5 : s_AlertsOk_m N xs = some (okAls xs) := by unfold s_AlertsOk_m; rw [al_spec N hM (by omega) xs F.len ag, za]
 have t6 := confOk_spec N hM (by omega) c oc
 have t7 := docOk_spec N hM (by omega) d.1 d.2.1 d.2.2 od
 rw [c1, c2, d1, d2, d3, d0]
 have tail : Def (Option.bind (s_AlertOf_m N xs c.1 c.2 d.1 d.2.1 d.2.2) fun r5 => Option.bind (l_foTexts_m N (alR N xs c d) r5) fun r6 => bif r6 then Option.bind (i_AlertsOk_m N xs) fun r7 => Option.bind (s_AlertsOk_m N xs) fun r8 => some (r7 == r8) else some false) fun r => r = true := by
  rw [t2, za, t3, za, zg, t4, za, t5, za]
  exact Def.ret (by simp)
 rw [t1, za]
 refine Def.bind (P := fun r => r = alR N xs c d) ⟨_, t2, rfl⟩ fun r3 h3 => ?_
 subst h3
 refine Def.bind (P := fun r => r = true) ⟨_, t3, rfl⟩ fun r4 h4 => ?_
 subst h4
 rw [zn, ze]
 refine Def.bind (P := fun r => r = okAls xs) ⟨_, t4, rfl⟩ fun r9 h9 => ?_
 subst h9
 refine Def.bind (P := fun r => r = okAls xs) ⟨_, t5, rfl⟩ fun r10 h10 => ?_
 subst h10
 refine Def.bif (fun _ => tail) (fun _ => ?_)
 refine Def.bind (P := fun r => r = okAls xs) ⟨_, t4, rfl⟩ fun r15 h15 => ?_
 subst h15
 refine Def.bif (fun _ => tail) (fun ha => ?_)
 rw [Bool.not_eq_false'] at ha
 refine Def.bind (P := fun r => r = okConf c) ⟨_, t6, rfl⟩ fun r20 h20 => ?_
 subst h20
 refine Def.bif (fun _ => tail) (fun hcf => ?_)
 rw [Bool.not_eq_false'] at hcf
 refine Def.bind (P := fun r => r = okDoc d) ⟨_, t7, rfl⟩ fun r25 h25 => ?_
 subst h25
 refine Def.bif (fun _ => tail) (fun hdc => ?_)
 rw [Bool.not_eq_false'] at hdc
 have hs := okSeg_one hcf hdc
 obtain ⟨hl6, he⟩ := okAls_each ha
 have hsg : i_SegOf_m N c.1 c.2 [d] = some (oneS c d) := by
  rw [segOf_spec N hM hN c oc [d] (fun x hx => by rw [zaD.1 hx]; exact od) (by show (1 : Nat) ≤ _; decide), hcf, okDocs_one, hdc]
  rfl
 refine Def.bind (P := fun r => r = oneS c d) ⟨_, hsg, rfl⟩ fun r30 h30 => ?_
 subst h30
 have hA : alR N xs c d = alT N c d xs := by unfold alR alT; rw [ha, hcf, hdc]; rfl
 rw [hA] at t3 hL ⊢
 refine Def.upto xs.length (fun n g => g = (xs, alT N c d xs, alT N c d (xs.take n), (n : Int), c.1, c.2, (oneS c d).1, (oneS c d).2)) ?_ ?_ N 0 _ (zaf _) rfl (by omega)
 ·rintro go _ rfl
  dsimp only
  rw [zd (zm _), ze, zq, t3, za]
  exact Def.ret rfl
 ·rintro go n _ hn rfl hgo
  dsimp only
  have hm := zr hn
  have hll := alT_len N c d (xs.take n)
  rw [zah] at hll
  have hmt := match_i (F.fit hm)
  have hmo := match_one N hs (he _ hm).2
  have hnext := alT_take N c d xs hn
  have hP : alP N c d xs[n] = decide (0 < valS N N c (oneS c d) d xs[n].2) := rfl
  rw [hP] at hnext
  rw [zb (by omega : (n : Int) < (xs.length : Int)), zg, idx_at hn, za, hmt, za, hmo, za, zf (fits_nat (n := n) (by omega))]
  have go' : ∀ z, z = alT N c d (xs.take (n + 1)) → Def (go (xs, alT N c d xs, z, (n : Int) + 1, c.1, c.2, (oneS c d).1, (oneS c d).2)) fun r => r = true := fun z hz => hgo _ (by rw [hz, cast_succ'])
  cases hv : decide (0 < valS N N c (oneS c d) d xs[n].2) with
  | true =>
   rw [hv, zg] at hnext
   rw [zg]
   exact Def.ite (room_of (by rw [zbE]; omega) (by rw [zbE]; omega)) (go' _ hnext.symm)
  | false =>
   rw [hv, ze] at hnext
   rw [ze]
   exact Def.ite (fits_nat (n := n) (by omega)) (go' _ hnext.symm)
theorem bytes_ok {code : List Int} (h : okD BigN (.sl (.int .u8)) code) : Bs code := fun x hx => by
 have := h.2 x hx
 have e1 : IntKind.u8.min = 0 := by decide
 have e2 : IntKind.u8.max = 255 := by decide
 exact ⟨by have h1 := this.1; rw [e1] at h1; exact h1, by have h1 := this.2; rw [e2] at h1; exact h1⟩
theorem fnAlertOf_law (x0 : List Int) (o0 : okD BigN (.sl (.int .u8)) x0) : l_FnAlertOf_m 1048700 x0 = some true :=
 fnAlertOf_gen 1048700 (by decide) (by decide) x0 (bytes_ok o0)
end Go.Proofs.YtfgcmhhacfkhcaaGreatDoor
