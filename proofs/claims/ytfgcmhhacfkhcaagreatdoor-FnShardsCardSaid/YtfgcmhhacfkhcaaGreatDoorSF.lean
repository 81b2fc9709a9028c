import Derived.Test.YtfgcmhhacfkhcaaGreatDoorSE
import Derived.Test.YtfgcmhhacfkhcaaGreatDoorP1
import Derived.Test.YtfgcmhhacfkhcaaGreatDoorSC
set_option linter.unusedVariables false
set_option linter.unusedSimpArgs false
namespace Go.Proofs.YtfgcmhhacfkhcaaGreatDoor
open Go.RowKit
theorem jHs (A : List EHit) : ∀ (B : List EHit) (m : Nat), (A.Pairwise fun a b => ltH a b = true) → (B.Pairwise fun a b => ltH a b = true) → (∀ x, x ∈ B → x ∈ A) → (∀ x, x ∈ A.take m → x ∈ B) → B.take m = A.take m := by
 induction A with
 | nil =>
  intro B m _ _ h _
  cases B with
  | nil => rfl
  | cons b B => exact absurd (h b (by simp)) (by simp)
 | cons a A ih =>
  intro B m hA hB h1 h2
  cases m with
  | zero => rfl
  | succ m =>
   rw [zas] at hA
   have ha : a ∈ B := h2 a (by rw [zbG]; simp)
   cases B with
   | nil => cases ha
   | cons b B =>
    rw [zas] at hB
    have e : b = a := by
     rcases zp.1 ha with e | ha'
     ·exact e.symm
     ·exfalso
      have k1 := hB.1 a ha'
      rcases zp.1 (h1 b (by simp)) with e | hb
      ·rw [e, ltH_irrefl] at k1; cases k1
      ·rw [jC0 (hA.1 b hb)] at k1; cases k1
    subst e
    rw [zbG, zbG]
    congr 1
    refine ih B m hA.2 hB.2 (fun x hx => ?_) (fun x hx => ?_)
    ·rcases zp.1 (h1 x (by simp [hx])) with e | h
     ·have := hB.1 x hx
      rw [e, ltH_irrefl] at this
      cases this
     ·exact h
    ·rcases zp.1 (h2 x (by rw [zbG]; simp [hx])) with e | h
     ·have := hA.1 x (zaP hx)
      rw [e, ltH_irrefl] at this
      cases this
     ·exact h
theorem jHp {α : Type} (p : α → Bool) : ∀ (l : List α) (m : Nat) (x : α), x ∈ l.take m → p x = true → x ∈ (l.filter p).take m
 | [], m, x, h, _ => by simp at h
 | y :: l, 0, x, h, _ => by simp at h
 | y :: l, m + 1, x, h, hp => by
  rw [zbG] at h
  by_cases hy : p y = true
  ·rw [zbR hy, zbG]
   rcases zp.1 h with rfl | h
   ·simp
   ·exact zl _ (jHp p l m x h hp)
  ·rw [zbS hy]
   rcases zp.1 h with rfl | h
   ·exact absurd hp hy
   ·have := jHp p l m x h hp
    exact (List.take_sublist_take_left (Nat.le_succ m)).subset this
theorem jHq {H : List EHit} (hd : DistH H) (p : EHit → Bool) : sortH (H.filter p) = (sortH H).filter p := by
 have h1 := sortH_ok (l := H.filter p) (hd.filter p)
 have h2 := sortH_ok hd
 refine sorted_unique ltH ltH_irrefl (fun a b c h k => jyX h k) _ _ h1.1 (h2.1.filter p) fun x => ?_
 rw [h1.2, zaZ, zaZ, h2.2]
theorem merge_top {ι : Type} {H M : List EHit} (hd : DistH H) (hM : DistH M) (I : ι → Prop) (p : ι → EHit → Bool) (m : Nat) (hc : ∀ x, x ∈ H → ∃ i, I i ∧ p i x = true)
  (hm : ∀ x, x ∈ M ↔ ∃ i, I i ∧ x ∈ (sortH (H.filter (p i))).take m) : (sortH M).take m = (sortH H).take m := by
 have h1 := sortH_ok hM
 have h2 := sortH_ok hd
 refine jHs _ _ m h2.1 h1.1 (fun x hx => ?_) (fun x hx => ?_)
 ·rw [h1.2, hm] at hx
  obtain ⟨i, _, hx⟩ := hx
  rw [jHq hd] at hx
  exact (zaZ.1 (zaP hx)).1
 ·rw [h1.2, hm]
  obtain ⟨i, hi, hp⟩ := hc x ((h2.2 x).1 (zaP hx))
  refine ⟨i, hi, ?_⟩
  rw [jHq hd]
  exact jHp (p i) _ m x hx hp
end Go.Proofs.YtfgcmhhacfkhcaaGreatDoor
namespace Go.Proofs.YtfgcmhhacfkhcaaGreatDoor
open Go.RowKit
abbrev EAl : Type := List UInt8 × DQ
def GB (x : EAl) : Prop := x.1.length ≤ 1048576 ∧ BQ 4 x.2
end Go.Proofs.YtfgcmhhacfkhcaaGreatDoor
namespace Go.Proofs.YtfgcmhhacfkhcaaGreatDoor
open Go.RowKit
structure FitA (N : Nat) (xs : List EAl) (c : EConf) (d : EDoc) : Prop where
 big : Sm < N
 top : N ≤ 16777216
 oc : okD Sm TConf c
 od : okD Sm TDoc d
 len : xs.length ≤ 1048576
 each : ∀ x, x ∈ xs → GB x
end Go.Proofs.YtfgcmhhacfkhcaaGreatDoor
namespace Go.Proofs.YtfgcmhhacfkhcaaGreatDoor
open Go.RowKit
theorem cut_spec {α : Type} (xs : List α) (n : Nat) (h : n ≤ xs.length) : cut xs 0 (n : Int) = some (xs.take n) := by
 unfold cut
 rw [zf (by omega)]
 simp
theorem open_spec (N : Nat) (code : List Int) (hb : Bs code) : ∃ y, s_l30Open_m N code = some (y, 0) ∧ Bs y ∧ y.length ≤ 2000 := by
 unfold s_l30Open_m
 by_cases h : (2000 : Int) < (code.length : Int)
 ·simp only [h, decide_true, zg]
  rw [show (2000 : Int) = ((2000 : Nat) : Int) from rfl, cut_spec code 2000 (by omega)]
  exact ⟨_, rfl, fun x hx => hb x (zaP hx), by simp; omega⟩
 ·simp only [h, decide_false, ze]
  exact ⟨_, rfl, hb, by omega⟩
def Rdr (b : List Int) (k : Int) (j : Nat) : Prop := Bs b ∧ b.length ≤ 2000 ∧ 0 ≤ k ∧ k ≤ j
theorem Rdr.le {b : List Int} {k : Int} {j j' : Nat} (h : Rdr b k j) (hj : j ≤ j') : Rdr b k j' := ⟨h.1, h.2.1, h.2.2.1, by have := h.2.2.2; omega⟩
theorem pick_def (N : Nat) (n : Int) {b : List Int} {k : Int} {j : Nat} (h : Rdr b k j) (hj : j ≤ 1000000) : Def (s_l30Rd_pick_m N n b k) fun r => 0 ≤ r.1 ∧ (1 ≤ n → r.1 < n) ∧ (n < 1 → r.1 = 0) ∧ Rdr r.2.1 r.2.2 (j + 1) := by
 obtain ⟨v, h1, h2, h3, h4⟩ := pick_spec N n b k h.1 h.2.2.1 (by have := h.2.2.2; omega) h.2.1
 exact ⟨_, h1, h2, h3, h4, h.1, h.2.1, by have := h.2.2.1; show (0:Int) ≤ k + 1; omega, by have := h.2.2.2; show k + 1 ≤ ((j + 1 : Nat) : Int); omega⟩
theorem of_def (N : Nat) {l : List (List UInt8)} {b : List Int} {k : Int} {j : Nat} (hl : 0 < l.length) (h : Rdr b k j) (hj : j ≤ 1000000) : Def (s_l30Rd_of_m N l b k) fun r => r.1 ∈ l ∧ Rdr r.2.1 r.2.2 (j + 1) := by
 unfold s_l30Rd_of_m
 refine Def.bind (pick_def N _ h hj) fun r ⟨h0, h1, _, h3⟩ => ?_
 exact Def.idx h0 (h1 (by omega)) fun x hx _ => Def.ret ⟨hx, h3⟩
theorem open_def (N : Nat) {code : List Int} (hb : Bs code) : Def (s_l30Open_m N code) fun r => Rdr r.1 r.2 0 := by
 obtain ⟨y, h1, h2, h3⟩ := open_spec N code hb
 exact ⟨_, h1, h2, h3, zbD _, zbD _⟩
def okC (c : UInt8) : Bool := decide (32 ≤ c.toNat) && decide (c.toNat ≤ 126)
def okS (n : Nat) (s : List UInt8) : Bool := s.all okC && decide (s.length ≤ n)
theorem okS_app {n m : Nat} {s t : List UInt8} (h : okS n s = true) (k : okS m t = true) : okS (n + m) (s ++ t) = true := by
 unfold okS at *
 simp only [zj, zw, List.all_append, zam] at *
 exact ⟨⟨h.1, k.1⟩, by omega⟩
theorem okS_le {n m : Nat} {s : List UInt8} (h : okS n s = true) (hm : n ≤ m) : okS m s = true := by
 unfold okS at *
 simp only [zj, zw] at *
 exact ⟨h.1, by omega⟩
theorem okS_len {n : Nat} {s : List UInt8} (h : okS n s = true) : s.length ≤ n := by
 unfold okS at h
 simp only [zj, zw] at h
 exact h.2
theorem okS_okT {s : List UInt8} (h : okS 160 s = true) : okT s = true := by
 have hl := okS_len h
 unfold okS at h
 simp only [zj, zax] at h
 unfold okT allN
 rw [zj]
 refine ⟨zax.2 fun n hn => ?_, by rw [zw]; omega⟩
 have hn' : n < s.length := by simpa using hn
 have := h.1 _ (zr hn')
 unfold okC at this
 simp only [zj, zw] at this
 rw [← atB_eq hn', zd (by omega), zd (by omega)]
 rfl
theorem raw_def (N : Nat) {b : List Int} {k : Int} {j : Nat} (h : Rdr b k j) (hj : j ≤ 100000) : Def (s_l30Raw_m N b k) fun r => okS 17 r.1 = true ∧ Rdr r.2.1 r.2.2 (j + 1) := by
 unfold s_l30Raw_m
 refine Def.bind (of_def N (by decide) h (by omega)) fun r ⟨m1, h1⟩ => Def.ret ⟨?_, h1⟩
 exact (by decide : ∀ w, w ∈ ([([99, 97, 116] : List UInt8), ([67, 97, 116, 115] : List UInt8), ([100, 111, 103] : List UInt8), ([100, 111, 103, 115] : List UInt8), ([114, 117, 110] : List UInt8), ([82, 85, 78, 78, 73, 78, 71] : List UInt8), ([116, 104, 101] : List UInt8), ([114, 101, 100] : List UInt8), ([98, 105, 103] : List UInt8), ([110, 101, 119, 32, 121, 111, 114, 107] : List UInt8), ([78, 101, 119, 32, 32, 89, 111, 114, 107] : List UInt8), ([110, 121] : List UInt8), ([102, 111, 120] : List UInt8), ([112, 97, 115, 115, 101, 100] : List UInt8), ([120, 49] : List UInt8), ([97, 118, 101, 114, 121, 118, 101, 114, 121, 108, 111, 110, 103, 119, 111, 114, 100] : List UInt8)] : List (List UInt8)) → okS 17 w = true) _ m1
theorem text_def (N : Nat) {b : List Int} {k : Int} {j : Nat} (h : Rdr b k j) (hj : j ≤ 10000) (hN : 20 ≤ N) : Def (s_l30Text_m N b k) fun r => okS 160 r.1 = true ∧ Rdr r.2.1 r.2.2 (j + 30) := by
 unfold s_l30Text_m
 refine Def.bind (pick_def N 9 h (by omega)) fun r ⟨p0, p1, _, h1⟩ => ?_
 have p1 := p1 (by omega)
 refine Def.iter (fun g => ∃ s : List UInt8, ∃ n : Nat, ∃ x y, n ≤ 8 ∧ okS (19 * (8 - n)) s = true ∧ Rdr x y (j + 1 + 2 * (8 - n)) ∧ g = (s, (n : Int), x, y)) (fun g => g.2.1.toNat) ?_ N _ ⟨[], r.1.toNat, _, _, by omega, by unfold okS; simp, h1.le (by omega), by rw [zbU p0]⟩ (by show r.1.toNat < N; omega)
 rintro go _ ⟨s, n, x, y, hn, hs, hr, rfl⟩ hgo
 dsimp only
 have hsl := okS_len hs
 refine Def.dif (fun e => ?_) (fun e => Def.ret ⟨okS_le hs (by omega), hr.le (by omega)⟩)
 refine Def.bind (raw_def N hr (by omega)) fun r2 ⟨l2, h2⟩ => ?_
 have hl2 := okS_len l2
 refine Def.ite (by omega) ?_
 refine Def.bind (of_def N (by decide) h2 (by omega)) fun r3 ⟨m3, h3⟩ => ?_
 have l3 : okS 2 r3.1 = true := (by decide : ∀ w, w ∈ ([([32] : List UInt8), ([32] : List UInt8), ([44, 32] : List UInt8), ([45] : List UInt8), ([46, 32] : List UInt8)] : List (List UInt8)) → okS 2 w = true) _ m3
 have hl3 := okS_len l3
 refine Def.ite (by rw [zam]; omega) (Def.ite (by unfold fits; omega) (hgo _ ⟨(s ++ r2.1) ++ r3.1, n - 1, _, _, by omega, okS_le (okS_app (okS_app hs l2) l3) (by omega), h3.le (by omega), ?_⟩ ?_))
 ·rw [show ((n : Int) - 1) = ((n - 1 : Nat) : Int) from by omega]
 ·show ((n : Int) - 1).toNat < (n : Int).toNat
  omega
structure SmallDoc (fs : List EField) (ats : List EAttr) (n : Nat) : Prop where
 fl : fs.length ≤ n
 al : ats.length ≤ n
 f : ∀ x, x ∈ fs → x.1.length ≤ 1000 ∧ x.2.length ≤ 1000
 a : ∀ x, x ∈ ats → x.1.length ≤ 4 ∧ -1 ≤ x.2 ∧ x.2 ≤ 1000000000
theorem SmallDoc.ok {fs : List EField} {ats : List EAttr} {n : Nat} (h : SmallDoc fs ats n) (hn : n ≤ 1000) {id : Int} (h0 : 0 ≤ id ∧ id ≤ 1000000) : okD Sm TDoc (id, fs, ats) := by
 have e1 : IntKind.i64.min = -9223372036854775808 := by decide
 have e2 : IntKind.i64.max = 9223372036854775807 := by decide
 have hfl := h.fl; have hal := h.al
 refine ⟨⟨by rw [e1]; show _ ≤ id; omega, by rw [e2]; show id ≤ _; omega⟩, ⟨by show fs.length ≤ 1048576; omega, fun x hx => ?_⟩, ⟨by show ats.length ≤ 1048576; omega, fun x hx => ?_⟩⟩
 ·have := h.f x hx
  exact ⟨by show x.1.length ≤ 1048576; omega, by show x.2.length ≤ 1048576; omega⟩
 ·have := h.a x hx
  exact ⟨by show x.1.length ≤ 1048576; omega, by rw [e1]; exact Int.le_trans (by decide) this.2.1, by rw [e2]; exact Int.le_trans this.2.2 (by decide)⟩
theorem SmallDoc.addF {fs : List EField} {ats : List EAttr} {n : Nat} (h : SmallDoc fs ats n) {x : EField} (h1 : x.1.length ≤ 1000) (h2 : x.2.length ≤ 1000) : SmallDoc (fs ++ [x]) ats (n + 1) := by
 have hfl := h.fl; have hal := h.al
 refine ⟨by simp only [zam, zi, zac]; omega, by omega, fun y hy => ?_, h.a⟩
 rcases zaB.1 hy with hy | hy
 ·exact h.f y hy
 ·rw [zaD.1 hy]; exact ⟨h1, h2⟩
theorem SmallDoc.addA {fs : List EField} {ats : List EAttr} {n : Nat} (h : SmallDoc fs ats n) {x : EAttr} (h1 : x.1.length ≤ 4) (h2 : -1 ≤ x.2) (h3 : x.2 ≤ 1000000000) : SmallDoc fs (ats ++ [x]) (n + 1) := by
 have hfl := h.fl; have hal := h.al
 refine ⟨by omega, by simp only [zam, zi, zac]; omega, h.f, fun y hy => ?_⟩
 rcases zaB.1 hy with hy | hy
 ·exact h.a y hy
 ·rw [zaD.1 hy]; exact ⟨h1, h2, h3⟩
theorem SmallDoc.le {fs : List EField} {ats : List EAttr} {n m : Nat} (h : SmallDoc fs ats n) (hm : n ≤ m) : SmallDoc fs ats m := ⟨zau h.fl hm, zau h.al hm, h.f, h.a⟩
theorem SmallDoc.nil : SmallDoc [] [] 0 := ⟨zae _, zae _, (fun x hx => by cases hx), (fun x hx => by cases hx)⟩
theorem SmallDoc.room {n : Nat} {b : Nat} (hn : n ≤ 1000) (hb : b ≤ 1000) : room n 1 b := by
 have : (n + 1) * b ≤ 1001 * 1000 := zbX (by omega) hb
 exact room_of (by omega) (by omega)
abbrev nBody : List UInt8 := [98, 111, 100, 121]
abbrev nTitle : List UInt8 := [116, 105, 116, 108, 101]
structure FG (fs : List EField) (ns : List (List UInt8)) : Prop where
 names : (fs.map (·.1)).Sublist ns
 texts : ∀ x, x ∈ fs → okS 160 x.2 = true
theorem FG.add {fs : List EField} {ns : List (List UInt8)} (h : FG fs ns) (n t : List UInt8) (ht : okS 160 t = true) : FG (fs ++ [(n, t)]) (ns ++ [n]) := by
 refine ⟨?_, fun x hx => ?_⟩
 ·rw [zaK]
  exact List.Sublist.append h.names (List.Sublist.refl _)
 ·rcases zaB.1 hx with hx | hx
  ·exact h.texts x hx
  ·rw [zaD] at hx; subst hx; exact ht
theorem FG.skip {fs : List EField} {ns : List (List UInt8)} (h : FG fs ns) (n : List UInt8) : FG fs (ns ++ [n]) := ⟨h.names.trans (List.sublist_append_left _ _), h.texts⟩
theorem doc_def (N : Nat) (id : Int) {b : List Int} {k : Int} {j : Nat} (h : Rdr b k j) (hj : j ≤ 5000) (hN : 20 ≤ N) : Def (s_l30Doc_m N id b k) fun r => r.1 = id ∧ (SmallDoc r.2.1 r.2.2.1 4 ∧ FG r.2.1 [nBody, nTitle] ∧ r.2.2.1.length ≤ 2) ∧ Rdr r.2.2.2.1 r.2.2.2.2 (j + 100) := by
 unfold s_l30Doc_m
 refine Def.meet (fun g => ∃ fs x y, SmallDoc fs [] 1 ∧ FG fs [nBody] ∧ Rdr x y (j + 31) ∧ g = (0, id, fs, x, y)) ?_ fun J hJ => ?_
 ·rintro _ ⟨fs, x, y, hs, hg, hr, rfl⟩
  dsimp only
  refine Def.meet (fun g => ∃ fs x y, SmallDoc fs [] 2 ∧ FG fs [nBody, nTitle] ∧ Rdr x y (j + 65) ∧ g = (0, id, fs, x, y)) ?_ fun J hJ => ?_
  ·rintro _ ⟨fs, x, y, hs, hg, hr, rfl⟩
   dsimp only
   refine Def.meet (fun g => ∃ fs ats x y, SmallDoc fs ats 3 ∧ (FG fs [nBody, nTitle] ∧ ats.length ≤ 1) ∧ Rdr x y (j + 70) ∧ g = (0, id, fs, ats, x, y)) ?_ fun J hJ => ?_
   ·rintro _ ⟨fs, ats, x, y, hs, ⟨hg, ha⟩, hr, rfl⟩
    dsimp only
    refine Def.bind (pick_def N 3 hr (by omega)) fun r7 ⟨_, _, _, h7⟩ => ?_
    refine Def.dif (fun _ => ?_) (fun _ => Def.ret ⟨rfl, ⟨hs.le (by omega), hg, by dsimp only; omega⟩, h7.le (by omega)⟩)
    refine Def.bind (pick_def N 30 h7 (by omega)) fun r8 ⟨q0, q1, _, h8⟩ => ?_
    have q1 := q1 (by omega)
    have hal := hs.al
    exact Def.ite (by unfold fits; omega) (Def.ite (SmallDoc.room (by omega) (by omega)) (Def.ret ⟨rfl, ⟨hs.addA (by simp) (by dsimp only; omega) (by dsimp only; omega), hg, by simp only [zam, zi, zac]; omega⟩, h8.le (by omega)⟩))
   ·refine Def.bind (pick_def N 3 hr (by omega)) fun r5 ⟨_, _, _, h5⟩ => ?_
    refine Def.dif (fun _ => ?_) (fun _ => hJ _ ⟨_, _, _, _, hs.le (by omega), ⟨hg, by simp⟩, h5.le (by omega), rfl⟩)
    refine Def.bind (pick_def N 4 h5 (by omega)) fun r6 ⟨q0, q1, _, h6⟩ => ?_
    have q1 := q1 (by omega)
    exact Def.ite (SmallDoc.room (by simp) (by omega)) (hJ _ ⟨_, _, _, _, hs.addA (x := (([114, 97, 116, 101] : List UInt8), r6.1)) (by simp) (by dsimp only; omega) (by dsimp only; omega), ⟨hg, by simp⟩, h6.le (by omega), rfl⟩)
  ·refine Def.bind (pick_def N 3 hr (by omega)) fun r3 ⟨_, _, _, h3⟩ => ?_
   refine Def.dif (fun _ => ?_) (fun _ => hJ _ ⟨_, _, _, hs.le (by omega), hg.skip nTitle, h3.le (by omega), rfl⟩)
   refine Def.bind (text_def N h3 (by omega) hN) fun r4 ⟨l4, h4⟩ => ?_
   have hfl := hs.fl
   have hl4 := okS_len l4
   exact Def.ite (SmallDoc.room (by omega) (by omega)) (hJ _ ⟨_, _, _, hs.addF (x := (([116, 105, 116, 108, 101] : List UInt8), r4.1)) (by simp) (by dsimp only; omega), hg.add nTitle _ l4, h4.le (by omega), rfl⟩)
 ·refine Def.bind (pick_def N 6 h (by omega)) fun r ⟨_, _, _, h1⟩ => ?_
  have g0 : FG [] [] := ⟨List.Sublist.refl _, fun x hx => by cases hx⟩
  refine Def.dif (fun _ => ?_) (fun _ => hJ _ ⟨_, _, _, SmallDoc.nil.le (by omega), g0.skip nBody, h1.le (by omega), rfl⟩)
  refine Def.bind (text_def N h1 (by omega) hN) fun r2 ⟨l2, h2⟩ => ?_
  have hl2 := okS_len l2
  exact Def.ite (SmallDoc.room (by simp) (by omega)) (hJ _ ⟨_, _, _, SmallDoc.nil.addF (x := (([98, 111, 100, 121] : List UInt8), r2.1)) (by simp) (by dsimp only; omega), g0.add nBody _ l2, h2.le (by omega), rfl⟩)
structure DrawnDocs (docs : List EDoc) (m : Int) : Prop where
 few : docs.length ≤ 6
 ids : docs.Pairwise fun a b => a.1 < b.1
 top : ∀ d, d ∈ docs → 1 ≤ d.1 ∧ d.1 ≤ m
 each : ∀ d, d ∈ docs → okD Sm TDoc d ∧ FG d.2.1 [nBody, nTitle] ∧ d.2.2.length ≤ 2
theorem DrawnDocs.ok {docs : List EDoc} {m : Int} (h : DrawnDocs docs m) : DOk docs := by
 refine ⟨⟨h.ids, fun d hd => ?_⟩, by have := h.few; omega, fun d hd => ?_⟩
 ·exact (h.each d hd).2.1.names.nodup (by decide)
 ·have := h.each d hd
  have hl := this.2.1.names.length_le
  simp only [zar, zi, zac] at hl
  exact ⟨by omega, by omega, fun f hf => ⟨okS_okT (this.2.1.texts f hf), okS_len (this.2.1.texts f hf)⟩⟩
theorem docs_def (N : Nat) {b : List Int} {k : Int} {j : Nat} (h : Rdr b k j) (hj : j ≤ 1000) (hN : 20 ≤ N) : Def (s_l30Docs_m N b k) fun r => DrawnDocs r.1 100 ∧ Rdr r.2.1 r.2.2 (j + 700) := by
 unfold s_l30Docs_m
 refine Def.bind (pick_def N 6 h (by omega)) fun r ⟨p0, p1, _, h1⟩ => ?_
 have p1 := p1 (by omega)
 refine Def.iter (fun g => ∃ out : List EDoc, ∃ id : Int, ∃ n : Nat, ∃ x y, n ≤ 6 ∧ out.length + n ≤ 6 ∧ (0 ≤ id ∧ id ≤ 4 * (6 - n)) ∧ DrawnDocs out id ∧ Rdr x y (j + 1 + 110 * (6 - n)) ∧ g = (out, id, (n : Int), x, y)) (fun g => g.2.2.1.toNat) ?_ N _ ⟨[], 0, r.1.toNat, _, _, by omega, by simp; omega, by omega, ⟨by simp, za4, (fun z hz => by cases hz), (fun z hz => by cases hz)⟩, h1.le (by omega), by rw [zbU p0]⟩ (by show r.1.toNat < N; omega)
 rintro go _ ⟨out, id, n, x, y, hn, hl, hid, ho, hr, rfl⟩ hgo
 dsimp only
 refine Def.dif (fun e => ?_) (fun e => Def.ret ⟨⟨ho.few, ho.ids, fun d hd => ⟨(ho.top d hd).1, by have := (ho.top d hd).2; omega⟩, ho.each⟩, hr.le (by omega)⟩)
 refine Def.ite (by unfold fits; omega) ?_
 refine Def.bind (pick_def N 3 hr (by omega)) fun r2 ⟨q0, q1, _, h2⟩ => ?_
 have q1 := q1 (by omega)
 refine Def.ite (by unfold fits; omega) ?_
 refine Def.bind (doc_def N _ h2 (by omega) hN) fun r3 ⟨e3, s3, h3⟩ => ?_
 refine Def.ite (room_of (by simp; omega) (by simp; omega)) (Def.ite (by unfold fits; omega) (hgo _ ⟨out ++ [(r3.1, r3.2.1, r3.2.2.1)], id + 1 + r2.1, n - 1, _, _, by omega, ?_, by omega, ⟨?_, ?_, fun z hz => ?_, fun z hz => ?_⟩, h3.le (by omega), ?_⟩ ?_))
 ·simp only [zam, zi, zac]; omega
 ·simp only [zam, zi, zac]; omega
 ·refine List.pairwise_append.2 ⟨ho.ids, by simp, fun a ha b hb => ?_⟩
  rw [zaD] at hb
  subst hb
  have := (ho.top a ha).2
  show a.1 < r3.1
  omega
 ·rcases zaB.1 hz with hz | hz
  ·have := ho.top z hz; omega
  ·rw [zaD] at hz; subst hz; dsimp only; omega
 ·rcases zaB.1 hz with hz | hz
  ·exact ho.each z hz
  ·rw [zaD.1 hz]; exact ⟨s3.1.ok (by omega) (by rw [e3]; omega), s3.2.1, s3.2.2⟩
 ·rw [show ((n : Int) - 1) = ((n - 1 : Nat) : Int) from by omega]
 ·show ((n : Int) - 1).toNat < (n : Int).toNat
  omega
end Go.Proofs.YtfgcmhhacfkhcaaGreatDoor
namespace Go.Proofs.YtfgcmhhacfkhcaaGreatDoor
open Go.RowKit
def okSynW' (st : List (List UInt8)) (w : List UInt8) : Bool := okW w && (decide (once w = none) && !decide (w ∈ st))
def okSyn' (st : List (List UInt8)) (y : ESyn) : Bool := (decide ((1 : Int) ≤ (y.1.length : Int)) && decide ((y.1.length : Int) ≤ 3)) && (okW y.2 && (decide (once y.2 = none) && y.1.all (okSynW' st)))
def okConf' (c : EConf) : Bool := decide ((c.1.length : Int) ≤ 6) && (allN c.1.length (okUp c.1) && (decide ((c.2.length : Int) ≤ 4) && c.2.all (okSyn' c.1)))
theorem okConf_of (c : EConf) (h : okConf' c = true) : okConf c = true := by
 unfold okConf' at h
 unfold okConf
 simp only [zj, zw, zax] at h ⊢
 refine ⟨h.1, h.2.1, h.2.2.1, fun y hy => ?_⟩
 have h1 := h.2.2.2 y hy
 unfold okSyn' at h1
 unfold okSyn
 simp only [zj, zw, zax] at h1 ⊢
 refine ⟨h1.1, h1.2.1, stemF_none h1.2.2.1, fun w hw => ?_⟩
 have h2 := h1.2.2.2 w hw
 unfold okSynW' at h2
 unfold okSynW
 simp only [zj, zw] at h2 ⊢
 exact ⟨h2.1, stemF_none h2.2.1, h2.2.2⟩
def fewC (c : EConf) : Bool := decide (c.1.length ≤ 10) && c.1.all (fun w => decide (w.length ≤ 20)) && decide (c.2.length ≤ 10) && c.2.all (fun y => decide (y.1.length ≤ 10) && y.1.all (fun w => decide (w.length ≤ 20)) && decide (y.2.length ≤ 20))
theorem fewC_ok (c : EConf) (h : fewC c = true) : okD Sm TConf c := by
 unfold fewC at h
 simp only [zj, zw, zax] at h
 obtain ⟨⟨⟨h1, h2⟩, h3⟩, h4⟩ := h
 refine ⟨⟨by show c.1.length ≤ 1048576; omega, fun x hx => by have := h2 x hx; show x.length ≤ 1048576; omega⟩, ⟨by show c.2.length ≤ 1048576; omega, fun y hy => ?_⟩⟩
 have h5 := h4 y hy
 exact ⟨⟨by show y.1.length ≤ 1048576; omega, fun x hx => by have := h5.1.2 x hx; show x.length ≤ 1048576; omega⟩, by show y.2.length ≤ 1048576; omega⟩
def stops3 : List (List (List UInt8)) := [[], [[116, 104, 101]], [[100, 111, 103], [116, 104, 101]]]
def syns3 : List (List ESyn) := [[], [([[110, 101, 119], [121, 111, 114, 107]], [110, 121])], [([[98, 105, 103]], [108, 97, 114, 103]), ([[98, 105, 103], [114, 101, 100], [102, 111, 120]], [102, 111, 120]), ([[110, 101, 119], [121, 111, 114, 107]], [110, 121])]]
theorem confs_ok : ∀ s, s ∈ stops3 → ∀ y, y ∈ syns3 → okConf' (s, y) = true ∧ fewC (s, y) = true := by decide +kernel
theorem conf_def (N : Nat) {b : List Int} {k : Int} {j : Nat} (h : Rdr b k j) (hj : j ≤ 10000) : Def (s_l30Conf_m N b k) fun r => (okConf (r.1, r.2.1) = true ∧ okD Sm TConf (r.1, r.2.1)) ∧ Rdr r.2.2.1 r.2.2.2 (j + 3) := by
 have fin : ∀ s y, s ∈ stops3 → y ∈ syns3 → okConf (s, y) = true ∧ okD Sm TConf (s, y) := fun s y hs hy => ⟨okConf_of _ (confs_ok s hs y hy).1, fewC_ok _ (confs_ok s hs y hy).2⟩
 unfold s_l30Conf_m
 refine Def.meet (fun g => ∃ c x y, c ∈ stops3 ∧ Rdr x y (j + 1) ∧ g = (c, x, y)) ?_ fun J hJ => ?_
 ·rintro _ ⟨c, x, y, hc, hr, rfl⟩
  dsimp only
  refine Def.meet (fun g => ∃ c x y, c ∈ stops3 ∧ Rdr x y (j + 2) ∧ g = (c, x, y)) ?_ fun J hJ => ?_
  ·rintro _ ⟨c, x, y, hc, hr, rfl⟩
   dsimp only
   refine Def.bind (pick_def N 4 hr (by omega)) fun r3 ⟨_, _, _, h3⟩ => ?_
   refine Def.dif (fun _ => Def.ret ⟨fin _ _ hc (by simp [syns3]), h3⟩) (fun _ => ?_)
   exact Def.dif (fun _ => Def.ret ⟨fin _ _ hc (by simp [syns3]), h3⟩) (fun _ => Def.ret ⟨fin _ _ hc (by simp [syns3]), h3⟩)
  ·refine Def.bind (pick_def N 4 hr (by omega)) fun r2 ⟨_, _, _, h2⟩ => ?_
   exact Def.dif (fun _ => hJ _ ⟨_, _, _, by decide, h2, rfl⟩) (fun _ => hJ _ ⟨_, _, _, hc, h2, rfl⟩)
 ·refine Def.bind (pick_def N 3 h (by omega)) fun r ⟨_, _, _, h1⟩ => ?_
  exact Def.dif (fun _ => hJ _ ⟨_, _, _, by decide, h1, rfl⟩) (fun _ => hJ _ ⟨_, _, _, by decide, h1, rfl⟩)
structure Drawn (c : EConf) (s : ESeg) : Prop where
 conf : okD Sm TConf c
 docs : ∀ x, x ∈ s.1 → okD Sm TDoc x
 few : s.1.length ≤ 1048576
theorem seg_def (N : Nat) (hM : 1048576 < N) {b : List Int} {k : Int} (h : Rdr b k 0) : Def (s_l30Seg_m N b k) fun r => Drawn (r.1, r.2.1) (r.2.2.1, r.2.2.2.1) ∧ (0 < r.2.2.2.1.length → 0 < r.2.2.1.length) ∧ r.2.2.2.1.length ≤ 10000 ∧ Rdr r.2.2.2.2.1 r.2.2.2.2.2 1000 := by
 unfold s_l30Seg_m
 refine Def.bind (conf_def N h (by omega)) fun r ⟨⟨c1, c2⟩, h1⟩ => ?_
 refine Def.bind (docs_def N h1 (by omega) (by omega)) fun r2 ⟨d1, h2⟩ => ?_
 have hd := d1.ok
 rw [l7Of_spec N (r.1, r.2.1) c1 hd hM, za]
 have hs := (entries_small (r.1, r.2.1) hd).1
 refine Def.ret ⟨⟨c2, fun x hx => (d1.each x hx).1, by have := d1.few; show r2.1.length ≤ _; omega⟩, fun hl => ?_, by show (entriesS (r.1, r.2.1) r2.1).length ≤ _; omega, h2.le (by omega)⟩
 show 0 < r2.1.length
 rcases Nat.eq_zero_or_pos r2.1.length with h0 | h0
 ·have : r2.1 = [] := zbj h0
  dsimp only at hl
  rw [this] at hl
  exact absurd hl (Nat.lt_irrefl _)
 ·exact h0
theorem anySeg_def (N : Nat) (hM : 1048576 < N) {b : List Int} {k : Int} (h : Rdr b k 0) : Def (s_l30AnySeg_m N b k) fun r => Drawn (r.1, r.2.1) (r.2.2.1, r.2.2.2.1) ∧ Rdr r.2.2.2.2.1 r.2.2.2.2.2 1002 := by
 unfold s_l30AnySeg_m
 refine Def.bind (seg_def N hM h) fun r ⟨d1, d2, d3, h1⟩ => ?_
 refine Def.dif (fun e => ?_) (fun e => Def.ret ⟨d1, h1.le (by omega)⟩)
 refine Def.bind (pick_def N _ h1 (by omega)) fun r2 ⟨p0, p1, _, h2⟩ => ?_
 have p1 := p1 (by omega)
 refine Def.bind (pick_def N 16 h2 (by omega)) fun r3 ⟨_, _, _, h3⟩ => ?_
 have hn : r2.1.toNat < r.2.2.2.1.length := by omega
 refine Def.dif (fun _ => ?_) (fun _ => ?_)
 ·refine Def.ite (by omega) ?_
  rw [zc hn, za]
  exact Def.ret ⟨⟨d1.conf, d1.docs, d1.few⟩, h3⟩
 refine Def.dif (fun _ => ?_) (fun _ => ?_)
 ·refine Def.ite (by omega) ?_
  rw [zc hn, za]
  exact Def.ite (room_of (by simp; omega) (by simp; omega)) (Def.ret ⟨⟨d1.conf, d1.docs, d1.few⟩, h3⟩)
 refine Def.dif (fun _ => ?_) (fun _ => Def.ret ⟨d1, h3⟩)
 have hdl := d2 (by omega)
 refine Def.cut (by omega) (by omega) (by omega) (Def.ret ⟨⟨d1.conf, fun x hx => ?_, ?_⟩, h3⟩)
 ·exact d1.docs x (zaP (zbP hx))
 ·have := d1.few
  show ((r.2.2.1.take _).drop _).length ≤ 1048576
  rw [zaQ, zah]
  dsimp only at this
  omega
end Go.Proofs.YtfgcmhhacfkhcaaGreatDoor
namespace Go.Proofs.YtfgcmhhacfkhcaaGreatDoor
open Go.RowKit
theorem one_def (N : Nat) {l : List Int} {b : List Int} {k : Int} {j : Nat} (hl : 0 < l.length) (h : Rdr b k j) (hj : j ≤ 1000000) : Def (s_l30Rd_one_m N l b k) fun r => r.1 ∈ l ∧ Rdr r.2.1 r.2.2 (j + 1) := by
 unfold s_l30Rd_one_m
 refine Def.bind (pick_def N _ h hj) fun r ⟨h0, h1, _, h3⟩ => ?_
 exact Def.idx h0 (h1 (by omega)) fun x hx _ => Def.ret ⟨hx, h3⟩
def AQ (q : DQ) : Prop := ∀ n, BQ n q
theorem AQ.mk' {k : Int} {f : List UInt8} {ws : List (List UInt8)} {a b : Int} {kids : List DQ} (h1 : f.length ≤ 1000) (h2 : ws.length ≤ 1000) (h3 : ∀ w, w ∈ ws → w.length ≤ 1000) (h4 : kids.length ≤ 1000) (h5 : ∀ c, c ∈ kids → AQ c) : AQ (.mk k f ws a b kids)
 | 0 => True.intro
 | n + 1 => ⟨by show f.length ≤ _; omega, by show ws.length ≤ _; omega, fun w hw => by have := h3 w hw; omega, by show kids.length ≤ _; omega, fun c hc => h5 c hc n⟩
theorem nil100 : ([] : List UInt8).length ≤ 100 := by decide
theorem nilW : ([] : List (List UInt8)).length ≤ 100 := by decide
theorem nilK : ([] : List DQ).length ≤ 100 := by decide
structure Own (q : Int) (f : List UInt8) (ws : List (List UInt8)) (kids : List DQ) : Prop where
 f : f.length ≤ 100
 n : ws.length ≤ 100
 w : ∀ w, w ∈ ws → w.length ≤ 100
 k : kids.length ≤ 100
 c : ∀ c, c ∈ kids → AQ c
theorem Own.aq {q : Int} {f : List UInt8} {ws : List (List UInt8)} {a b : Int} {kids : List DQ} (h : Own q f ws kids) : AQ (.mk q f ws a b kids) :=
 AQ.mk' (by have := h.f; omega) (by have := h.n; omega) (fun w hw => by have := h.w w hw; omega) (by have := h.k; omega) h.c
theorem known_def (N : Nat) {b : List Int} {k : Int} {j : Nat} (h : Rdr b k j) (hj : j ≤ 200000) : Def (s_l30Known_m N) fun r3 => Def (s_l30Rd_of_m N r3 b k) fun r => r.1.length ≤ 100 ∧ Rdr r.2.1 r.2.2 (j + 1) := by
 unfold s_l30Known_m
 refine Def.ret ?_
 refine Def.mono (of_def N (by decide) h (by omega)) fun r ⟨m, hr⟩ => ⟨?_, hr⟩
 have hall : ∀ (l : List (List UInt8)), l.all (fun w => decide (w.length ≤ 100)) = true → ∀ w, w ∈ l → w.length ≤ 100 := fun l h w hw => of_decide_eq_true (zax.1 h w hw)
 exact hall _ (by decide) _ m
theorem leaf_def (N : Nat) {b : List Int} {k : Int} {j : Nat} (h : Rdr b k j) (hj : j ≤ 100000) : Def (s_l30Leaf_m N b k) fun r => Own r.1 r.2.1 r.2.2.1 [] ∧ Rdr r.2.2.2.2.2.1 r.2.2.2.2.2.2 (j + 10) := by
 have nok : ∀ c, c ∈ ([] : List DQ) → AQ c := fun c hc => by cases hc
 unfold s_l30Leaf_m
 refine Def.bind (of_def N (by decide) h (by omega)) fun r ⟨m, h1⟩ => ?_
 have hf : r.1.length ≤ 100 := (by decide : ∀ w, w ∈ ([([98, 111, 100, 121] : List UInt8), ([98, 111, 100, 121] : List UInt8), ([116, 105, 116, 108, 101] : List UInt8)] : List (List UInt8)) → w.length ≤ 100) _ m
 refine Def.bind (pick_def N 9 h1 (by omega)) fun r2 ⟨_, _, _, h2⟩ => ?_
 refine Def.dif (fun _ => Def.ret ⟨⟨nil100, nilW, (fun w hw => by cases hw), nilK, nok⟩, h2.le (by omega)⟩) (fun _ => ?_)
 refine Def.dif (fun _ => ?_) (fun _ => ?_)
 ·refine Def.bind (known_def N h2 (by omega)) fun r3 d3 => Def.bind d3 fun r4 ⟨l4, h4⟩ => ?_
  refine Def.bind (known_def N h4 (by omega)) fun r5 d5 => Def.bind d5 fun r6 ⟨l6, h6⟩ => ?_
  refine Def.bind (pick_def N 3 h6 (by omega)) fun r7 ⟨_, _, _, h7⟩ => Def.ret ⟨⟨hf, by simp, fun w hw => ?_, nilK, nok⟩, h7.le (by omega)⟩
  simp only [zp, List.mem_nil_iff, or_false] at hw
  rcases hw with e | e <;> rw [e] <;> assumption
 refine Def.dif (fun _ => ?_) (fun _ => ?_)
 ·refine Def.bind (of_def N (by decide) h2 (by omega)) fun r8 ⟨m8, h8⟩ => ?_
  have l8 : r8.1.length ≤ 100 := (by decide : ∀ w, w ∈ ([([99, 111, 116] : List UInt8), ([100, 117, 103] : List UInt8), ([114, 110] : List UInt8), ([102, 111, 103] : List UInt8)] : List (List UInt8)) → w.length ≤ 100) _ m8
  refine Def.bind (pick_def N 2 h8 (by omega)) fun r9 ⟨p0, p1, _, h9⟩ => ?_
  have p1 := p1 (by omega)
  exact Def.ite (by unfold fits; omega) (Def.ret ⟨⟨hf, by simp, (fun w hw => by rw [zaD.1 hw]; exact l8), nilK, nok⟩, h9.le (by omega)⟩)
 refine Def.dif (fun _ => ?_) (fun _ => ?_)
 ·refine Def.bind (of_def N (by decide) h2 (by omega)) fun r8 ⟨m8, h8⟩ => ?_
  have l8 : r8.1.length ≤ 100 := (by decide : ∀ w, w ∈ ([([99, 42] : List UInt8), ([63, 111, 63] : List UInt8), ([42, 110] : List UInt8), ([42] : List UInt8)] : List (List UInt8)) → w.length ≤ 100) _ m8
  exact Def.ret ⟨⟨hf, by simp, (fun w hw => by rw [zaD.1 hw]; exact l8), nilK, nok⟩, h8.le (by omega)⟩
 refine Def.dif (fun _ => ?_) (fun _ => ?_)
 ·refine Def.bind (pick_def N 4 h2 (by omega)) fun r8 ⟨p0, p1, _, h8⟩ => ?_
  refine Def.bind (pick_def N 3 h8 (by omega)) fun r9 ⟨q0, q1, _, h9⟩ => ?_
  have p1 := p1 (by omega)
  have q1 := q1 (by omega)
  exact Def.ite (by unfold fits; omega) (Def.ret ⟨⟨by simp, nilW, (fun w hw => by cases hw), nilK, nok⟩, h9.le (by omega)⟩)
 ·refine Def.bind (known_def N h2 (by omega)) fun r3 d3 => Def.bind d3 fun r4 ⟨l4, h4⟩ => ?_
  exact Def.ret ⟨⟨hf, by simp, (fun w hw => by rw [zaD.1 hw]; exact l4), nilK, nok⟩, h4.le (by omega)⟩
def dT : Nat → Nat
 | 0 => 10
 | n + 1 => 3 * dT n + 3
theorem dT_ge : ∀ n, 10 ≤ dT n
 | 0 => zae _
 | n + 1 => by have := dT_ge n; show 10 ≤ 3 * dT n + 3; omega
theorem query_def (N : Nat) (hN : 20 ≤ N) : ∀ (D deep : Nat), deep < D → ∀ {b : List Int} {k : Int} {j : Nat}, Rdr b k j → j + dT deep ≤ 100000 → deep ≤ 10 → Def (s_l30Query_m N D (deep : Int) b k) fun r => Own r.1 r.2.1 r.2.2.1 r.2.2.2.2.2.1 ∧ Rdr r.2.2.2.2.2.2.1 r.2.2.2.2.2.2.2 (j + dT deep)
 | 0, _, hd, _, _, _, _, _, _ => absurd hd (Nat.not_lt_zero _)
 | D + 1, deep, hd, b, k, j, h, hj, hdd => by
  have hg := dT_ge deep
  rw [s_l30Query_m]
  refine Def.dif (fun e => ?_) (fun e => ?_)
  ·exact Def.bind (leaf_def N h (by omega)) fun r ⟨o, h1⟩ => Def.ret ⟨o, h1.le (by omega)⟩
  obtain ⟨d, rfl⟩ : ∃ d, deep = d + 1 := ⟨deep - 1, by omega⟩
  have hdt : dT (d + 1) = 3 * dT d + 3 := rfl
  have hg2 := dT_ge d
  have e1 : ((d + 1 : Nat) : Int) - 1 = (d : Int) := by omega
  refine Def.bind (pick_def N 3 h (by omega)) fun r2 ⟨_, _, _, h2⟩ => ?_
  refine Def.dif (fun _ => Def.bind (leaf_def N h2 (by omega)) fun r ⟨o, h1⟩ => Def.ret ⟨o, h1.le (by omega)⟩) (fun _ => ?_)
  refine Def.bind (pick_def N 6 h2 (by omega)) fun r4 ⟨_, _, _, h4⟩ => ?_
  refine Def.dif (fun _ => ?_) (fun _ => ?_)
  ·refine Def.ite (by unfold fits; omega) ?_
   rw [e1]
   refine Def.bind (query_def N hN D d (by omega) h4 (by omega) (by omega)) fun r5 ⟨o5, h5⟩ => ?_
   refine Def.ite (by unfold fits; omega) ?_
   refine Def.bind (query_def N hN D d (by omega) h5 (by omega) (by omega)) fun r6 ⟨o6, h6⟩ => ?_
   refine Def.ret ⟨⟨nil100, nilW, (fun w hw => by cases hw), by simp, fun c hc => ?_⟩, h6.le (by omega)⟩
   simp only [zp, List.mem_nil_iff, or_false] at hc
   rcases hc with rfl | rfl
   ·exact o5.aq
   ·exact o6.aq
  refine Def.dif (fun _ => ?_) (fun _ => ?_)
  ·refine Def.bind (pick_def N 4 h4 (by omega)) fun r7 ⟨p0, p1, _, h7⟩ => ?_
   have p1 := p1 (by omega)
   refine Def.ite (by unfold fits; omega) (Def.ite (by unfold fits; omega) ?_)
   rw [e1]
   refine Def.bind (query_def N hN D d (by omega) h7 (by omega) (by omega)) fun r8 ⟨o8, h8⟩ => ?_
   exact Def.ret ⟨⟨nil100, nilW, (fun w hw => by cases hw), by simp, (fun c hc => by rw [zaD.1 hc]; exact o8.aq)⟩, h8.le (by omega)⟩
  refine Def.meet (fun g => ∃ (t : Bool) (x : List Int) (y : Int), Rdr x y (j + 2) ∧ g = (((d + 1 : Nat) : Int), t, 0, ([] : List UInt8), 0, 0, x, y)) ?_ fun J hJ => ?_
  ·rintro _ ⟨t, x, y, hr, rfl⟩
   dsimp only
   refine Def.bif (fun _ => ?_) (fun _ => ?_)
   ·refine Def.ite (by unfold fits; omega) ?_
    rw [e1]
    refine Def.bind (query_def N hN D d (by omega) hr (by omega) (by omega)) fun r5 ⟨o5, h5⟩ => ?_
    refine Def.ite (by unfold fits; omega) ?_
    refine Def.bind (query_def N hN D d (by omega) h5 (by omega) (by omega)) fun r6 ⟨o6, h6⟩ => ?_
    refine Def.ret ⟨⟨nil100, nilW, (fun w hw => by cases hw), by simp, fun c hc => ?_⟩, h6.le (by omega)⟩
    simp only [zp, List.mem_nil_iff, or_false] at hc
    rcases hc with rfl | rfl
    ·exact o5.aq
    ·exact o6.aq
   ·refine Def.bind (pick_def N 2 hr (by omega)) fun r11 ⟨p0, p1, _, h11⟩ => ?_
    have p1 := p1 (by omega)
    refine Def.ite (by unfold fits; omega) ?_
    refine Def.iter (fun g => ∃ (n : Nat) (kids : List DQ) (x : List Int) (y : Int), kids.length + n ≤ 3 ∧ (∀ c, c ∈ kids → AQ c) ∧ Rdr x y (j + 3 + (3 - n) * dT d) ∧ g = (((d + 1 : Nat) : Int), (n : Int), 0, ([] : List UInt8), 0, 0, 8, ([] : List UInt8), 0, 0, kids, x, y)) (fun g => g.2.1.toNat) ?_ N _
     ⟨(2 + r11.1).toNat, [], _, _, by simp; omega, (fun c hc => by cases hc), h11.le (by omega), by rw [zbU (by omega)]⟩ (by show (2 + r11.1).toNat < N; omega)
    rintro go _ ⟨n, kids, x, y, hn, hk, hr, rfl⟩ hgo
    dsimp only
    refine Def.dif (fun e3 => ?_) (fun e3 => ?_)
    ·refine Def.ite (by unfold fits; omega) ?_
     rw [e1]
     have hb : (3 - n) * dT d ≤ 2 * dT d := zag _ (by omega)
     refine Def.bind (query_def N hN D d (by omega) hr (by omega) (by omega)) fun r12 ⟨o12, h12⟩ => ?_
     refine Def.ite (room_of (by rw [zbE]; omega) (by rw [zbE]; omega)) (Def.ite (by unfold fits; omega) (hgo _ ⟨n - 1, kids ++ [DQ.mk r12.1 r12.2.1 r12.2.2.1 r12.2.2.2.1 r12.2.2.2.2.1 r12.2.2.2.2.2.1], _, _, by rw [zam, zbE]; omega, fun c hc => ?_, h12.le ?_, by rw [show ((n : Int) - 1) = ((n - 1 : Nat) : Int) from by omega]⟩ (by show ((n : Int) - 1).toNat < ((n : Int)).toNat; omega)))
     ·rcases zaB.1 hc with hc | hc
      ·exact hk c hc
      ·rw [zaD.1 hc]; exact o12.aq
     ·have e4 : 3 - (n - 1) = (3 - n) + 1 := by omega
      rw [e4, zaO, Nat.one_mul]; omega
    ·have hb : (3 - n) * dT d ≤ 3 * dT d := zag _ (by omega)
     exact Def.ret ⟨⟨nil100, nilW, (fun w hw => by cases hw), by dsimp only; omega, hk⟩, hr.le (by omega)⟩
  ·exact Def.dif (fun _ => hJ _ ⟨_, _, _, h4, rfl⟩) (fun _ => hJ _ ⟨_, _, _, h4, rfl⟩)
theorem query3_def (N : Nat) (hN : 20 ≤ N) {b : List Int} {k : Int} {j : Nat} (h : Rdr b k j) (hj : j ≤ 50000) : Def (s_l30Query_m N N 3 b k) fun r => Own r.1 r.2.1 r.2.2.1 r.2.2.2.2.2.1 ∧ Rdr r.2.2.2.2.2.2.1 r.2.2.2.2.2.2.2 (j + 309) :=
 query_def N hN N 3 (by omega) h (by show j + 309 ≤ _; omega) (by omega)
end Go.Proofs.YtfgcmhhacfkhcaaGreatDoor
namespace Go.Proofs.YtfgcmhhacfkhcaaGreatDoor
open Go.RowKit
theorem foHits_same (N : Nat) (l : List EHit) (h : l.length < N) (hl : l.length ≤ 1000000) : l_foHits_m N l l = some true := by
 refine Def.get ?_
 unfold l_foHits_m
 rw [zb rfl, zn, ze]
 refine Def.upto l.length (fun n v => v = (l, l, (n : Int))) (fun go v hv => ?_) (fun go n v hn hv hgo => ?_) N 0 _ (zaf _) rfl (by omega)
 ·subst hv
  dsimp only
  rw [zd (zm _), ze]
  exact Def.ret rfl
 ·subst hv
  dsimp only
  rw [zb (by omega : (n : Int) < (l.length : Int)), zg, idx_at hn, za, za, zb rfl, zb rfl, Bool.and_self, zn, ze, zf (fits_nat (n := n) (by omega))]
  exact hgo _ (by rw [cast_succ'])
def docIn (d : Int) (xs : List EHit) : Bool := xs.any fun x => decide (x.1 = d)
def findDoc (d : Int) : List EHit → Int → Int
 | [], _ => -1
 | x :: xs, i => if x.1 = d then i else findDoc d xs (i + 1)
theorem findDoc_pos (d : Int) : ∀ (xs : List EHit) (i : Int), 0 ≤ i → (decide (0 ≤ findDoc d xs i)) = docIn d xs
 | [], i, _ => rfl
 | x :: xs, i, h => by
  simp only [findDoc, docIn, List.any_cons]
  by_cases e : x.1 = d
  ·simp [e, h]
  ·simp only [e, if_false, decide_false, zbf]
   exact findDoc_pos d xs (i + 1) (by omega)
theorem hasDoc_spec (N : Nat) (xs : List EHit) (d : Int) (h : xs.length < N) (hl : (xs.length : Int) ≤ 9223372036854775806) : i_hasDoc_m N xs d = some (docIn d xs) := by
 have h1 : k_slices_IndexFunc_200_m N xs d = some (findDoc d xs 0) := by
  unfold k_slices_IndexFunc_200_m
  refine (iter_scan _ xs.length (fun n => (xs, d, (xs.length : Int), (n : Int))) (fun n => some (findDoc d (xs.drop n) n)) (fun go => ?_) (fun go n hn hgo => ?_) N 0 (zaf _) (by omega)).trans (by simp)
  ·simp [findDoc]
  ·have hn' : (n : Int) < (xs.length : Int) := by omega
   dsimp only
   rw [zb hn', zg, idx_at hn, za, i_hasDoc_1_m, za, zan hn]
   by_cases hx : xs[n].1 = d
   ·rw [zb hx, zg, findDoc, zf hx]
   ·rw [zd hx, ze, zf (fits_nat (n := n) (by omega)), findDoc, zu hx]
    simp only [cast_succ'] at hgo
    exact hgo
 simp only [i_hasDoc_m, k_slices_ContainsFunc_50_m, h1, za, findDoc_pos d xs 0 (zbD _)]
theorem hitsOk_true (N : Nat) (hM : 1048576 < N) (L : List EHit) (hl : L.length ≤ 16) (hp : L.Pairwise fun a b => ltH a b = true) (hd : DistH L) (hv : ∀ x, x ∈ L → 1 ≤ x.1 ∧ x.1 ≤ 9999 ∧ 1 ≤ x.2) : i_HitsOk_m N L = some true := by
 refine Def.get ?_
 unfold i_HitsOk_m
 refine Def.upto L.length (fun n v => v = (L, L, (L.length : Int), (n : Int))) (fun go v hv => ?_) (fun go n v hn hv' hgo => ?_) N 0 _ (zaf _) rfl (by omega)
 ·subst hv
  dsimp only
  rw [zd (zm _), ze, zb (by omega)]
  exact Def.ret rfl
 ·subst hv'
  dsimp only
  have hx := hv L[n] (zr hn)
  have hnd : docIn L[n].1 (L.take n) = false := by
   unfold docIn
   rw [zb0]
   intro y hy
   obtain ⟨j, hj, rfl⟩ := zav.1 hy
   rw [zah] at hj
   rw [List.getElem_take]
   have := za2.1 hd j n (by omega) hn (by omega)
   simp [this]
  rw [zb (by omega : (n : Int) < (L.length : Int)), zg, idx_at hn, za, within_spec, za, zb hx.1, zb hx.2.1, zaV, zn, ze, zd (by omega), ze, cut_take L n (by omega), za, hasDoc_spec N _ _ (by rw [zah]; omega) (by rw [zah]; omega), za, hnd, ze]
  have hnx : Def (if fits ((n : Int) + 1) then go (L, L, (L.length : Int), (n : Int) + 1) else none) fun r => r = true := by
   rw [zf (fits_nat (n := n) (by omega))]
   exact hgo _ (by rw [cast_succ'])
  refine Def.dif (fun e1 => ?_) (fun _ => hnx)
  have hi : ((n : Int) - 1) = ((n - 1 : Nat) : Int) := by omega
  have hlt := za2.1 hp (n - 1) n (by omega) hn (by omega)
  rw [zf (fits_abs (by omega) (by omega)), hi, idx_at (by omega : n - 1 < L.length), za]
  refine Def.bind (hitOrder_cmp N (by omega) (L[n - 1]'(by omega)) L[n]) fun r hr => ?_
  rw [hlt, zw] at hr
  rw [zd (by omega), ze]
  exact hnx
theorem okDoc_id {d : EDoc} (h : okDoc d = true) : 1 ≤ d.1 ∧ d.1 ≤ 9999 := by
 unfold okDoc at h
 simp only [zj, zw] at h
 omega
theorem topMerge_spec (N : Nat) (hM : Sm < N) (hN : N ≤ 16777216) (ls : List (List EHit)) (hl : ls.length ≤ 4) (most : Nat) (h1 : 1 ≤ most) (h2 : most ≤ 16)
  (hok : ∀ l, l ∈ ls → i_HitsOk_m N l = some true ∧ l.length ≤ 16 ∧ DistH l) (hd : ls.Pairwise fun a b => ∀ x, x ∈ a → ∀ y, y ∈ b → x.1 ≠ y.1) : i_TopMerge_m N ls (most : Int) = some ((sortH ls.flatten).take most) := by
 have hM' : 1048576 < N := hM
 have hflen : ∀ n, ((ls.take n).flatten).length ≤ 64 := fun n => by
  have key : ∀ L : List (List EHit), (∀ l, l ∈ L → l.length ≤ 16) → L.flatten.length ≤ 16 * L.length := by
   intro L
   induction L with
   | nil => intro _; exact zaf _
   | cons a L ih =>
    intro h
    have h3 := h a (by simp)
    have h4 := ih fun l hl => h l (by simp [hl])
    rw [List.flatten_cons, zam, zi]
    omega
  have := key (ls.take n) fun l h => (hok l (zaP h)).2.1
  rw [zah] at this
  omega
 have hdist : DistH ls.flatten := by
  refine List.pairwise_flatten.2 ⟨fun l h => (hok l h).2.2, hd⟩
 unfold i_TopMerge_m
 rw [zd (by omega), ze, within_spec, za, zb (by omega : (1 : Int) ≤ (most : Int)), zb (by omega : (most : Int) ≤ 16), zaV, zn, ze]
 refine Def.get ?_
 refine Def.upto ls.length (fun n g => g = ((most : Int), (ls.take n).flatten, ls, (ls.length : Int), (n : Int))) ?_ ?_ N 0 _ (zaf _) rfl (by omega)
 ·rintro go _ rfl
  dsimp only
  have hfl := hflen ls.length
  rw [zq] at hfl ⊢
  rw [zd (zm _), ze, firstHits_spec N hM' hN _ (by omega) hdist most (by omega), za]
  exact Def.ret rfl
 ·rintro go n _ hn rfl hgo
  dsimp only
  have hm := zr hn
  have hfl := hflen n
  obtain ⟨o1, o2, o3⟩ := hok _ hm
  rw [zb (by omega : (n : Int) < (ls.length : Int)), zg, idx_at hn, za, o1, za, zn, ze]
  have hno : ∀ x, x ∈ ls[n] → docIn x.1 (ls.take n).flatten = false := fun x hx => by
   unfold docIn
   rw [zb0]
   intro y hy
   obtain ⟨l, hl', hyl⟩ := List.mem_flatten.1 hy
   obtain ⟨i, hi, rfl⟩ := zav.1 hl'
   rw [zah] at hi
   rw [List.getElem_take] at hyl
   have := za2.1 hd i n (by omega) hn (by omega) y hyl x hx
   simp [this]
  refine Def.upto ls[n].length (fun k g => g = ((most : Int), (ls.take n).flatten, ls[n], ls, (ls.length : Int), (n : Int), ls[n], (ls[n].length : Int), (k : Int))) ?_ ?_ N 0 _ (zaf _) rfl (by omega)
  ·rintro go2 _ rfl
   dsimp only
   rw [zd (zm _), ze]
   refine Def.ite (room_of (by omega) (by omega)) (Def.ite (fits_nat (n := n) (by omega)) (hgo _ ?_))
   rw [zo hn, List.flatten_append, cast_succ']
   simp
  ·rintro go2 k _ hk rfl hgo2
   dsimp only
   rw [zb (by omega : (k : Int) < (ls[n].length : Int)), zg, idx_at hk, za, hasDoc_spec N _ _ (by omega) (by omega), za, hno _ (zr hk), ze]
   exact Def.ite (fits_nat (n := k) (by omega)) (hgo2 _ (by rw [cast_succ']))
def part (H : List EHit) (many most k : Nat) : List EHit := (sortH (H.filter (shardP (many : Int) (k : Int)))).take most
structure HitsIn (H : List EHit) : Prop where
 few : H.length ≤ 16
 dist : DistH H
 val : ∀ x, x ∈ H → 1 ≤ x.1 ∧ x.1 ≤ 9999 ∧ 1 ≤ x.2
theorem part_mem {H : List EHit} (h : HitsIn H) {many most k : Nat} {x : EHit} (hx : x ∈ part H many most k) : x ∈ H ∧ x.1.tmod (many : Int) = (k : Int) := by
 have := ((sortH_ok (h.dist.filter _)).2 x).1 (zaP hx)
 rw [zaZ] at this
 exact ⟨this.1, of_decide_eq_true this.2⟩
theorem part_ok (N : Nat) (hM : Sm < N) {H : List EHit} (h : HitsIn H) (many most k : Nat) (hm : most ≤ 16) : i_HitsOk_m N (part H many most k) = some true ∧ (part H many most k).length ≤ 16 ∧ DistH (part H many most k) := by
 have hs := (sortH_ok (h.dist.filter (shardP (many : Int) (k : Int)))).1
 have hp : (part H many most k).Pairwise fun a b => ltH a b = true := hs.sublist (List.take_sublist _ _)
 have hl : (part H many most k).length ≤ 16 := by unfold part; rw [zah]; omega
 have hd : DistH (part H many most k) := by
  have hperm : (sortH (H.filter (shardP (many : Int) (k : Int)))).Pairwise fun a b => a.1 ≠ b.1 := by
   refine za2.2 fun i j hi hj hij => ?_
   have h1 := za2.1 hs i j hi hj hij
   have m1 := ((sortH_ok (h.dist.filter _)).2 _).1 (zr hi)
   have m2 := ((sortH_ok (h.dist.filter _)).2 _).1 (zr hj)
   obtain ⟨i', hi', e1⟩ := zav.1 m1
   obtain ⟨j', hj', e2⟩ := zav.1 m2
   rw [← e1, ← e2] at h1 ⊢
   rcases zbl i' j' with c | c | c
   ·exact za2.1 (h.dist.filter _) i' j' hi' hj' c
   ·subst c; rw [ltH_irrefl] at h1; cases h1
   ·exact fun e => za2.1 (h.dist.filter _) j' i' hj' hi' c e.symm
  exact hperm.sublist (List.take_sublist _ _)
 exact ⟨hitsOk_true N hM _ hl hp hd fun x hx => h.val x (part_mem h hx).1, hl, hd⟩
theorem merge_all (N : Nat) (hM : Sm < N) (hN : N ≤ 16777216) {H : List EHit} (h : HitsIn H) (many most : Nat) (m1 : 1 ≤ many) (m4 : many ≤ 4) (h1 : 1 ≤ most) (h2 : most ≤ 16) (ks : List Nat) (hn : ks.Nodup) (hl : ks.length ≤ 4) (hk : ∀ k, k ∈ ks ↔ k < many) :
  i_TopMerge_m N (ks.map (part H many most)) (most : Int) = some ((sortH H).take most) := by
 have hok : ∀ l, l ∈ ks.map (part H many most) → i_HitsOk_m N l = some true ∧ l.length ≤ 16 ∧ DistH l := fun l hl => by
  obtain ⟨k, _, rfl⟩ := zab.1 hl
  exact part_ok N hM h many most k h2
 have hd : (ks.map (part H many most)).Pairwise fun a b => ∀ x, x ∈ a → ∀ y, y ∈ b → x.1 ≠ y.1 := by
  refine zbb.2 (hn.imp fun {a b} hab x hx y hy e => hab ?_)
  have e1 := (part_mem h hx).2
  have e2 := (part_mem h hy).2
  rw [e] at e1
  have := e1.symm.trans e2
  omega
 rw [topMerge_spec N hM hN _ (by rw [zar]; exact hl) most h1 h2 hok hd]
 congr 1
 refine merge_top h.dist (List.pairwise_flatten.2 ⟨fun l h => (hok l h).2.2, hd⟩) (fun k : Nat => k < many) (fun k => shardP (many : Int) (k : Int)) most (fun x hx => ?_) fun x => ?_
 ·have hv := h.val x hx
  have e0 := Int.tmod_nonneg (many : Int) (by omega : 0 ≤ x.1)
  have e1 := Int.tmod_lt_of_pos x.1 (by omega : (0 : Int) < (many : Int))
  exact ⟨(x.1.tmod (many : Int)).toNat, by omega, zb (by rw [zbU e0])⟩
 ·rw [List.mem_flatten]
  constructor
  ·rintro ⟨l, hl, hx⟩
   obtain ⟨k, hkm, rfl⟩ := zab.1 hl
   exact ⟨k, (hk k).1 hkm, hx⟩
  ·rintro ⟨k, hkm, hx⟩
   exact ⟨_, zab.2 ⟨k, (hk k).2 hkm, rfl⟩, hx⟩
end Go.Proofs.YtfgcmhhacfkhcaaGreatDoor
namespace Go.Proofs.YtfgcmhhacfkhcaaGreatDoor
open Go.RowKit
theorem bytes_ok {code : List Int} (h : okD BigN (.sl (.int .u8)) code) : Bs code := fun x hx => by
 have := h.2 x hx
 have e1 : IntKind.u8.min = 0 := by decide
 have e2 : IntKind.u8.max = 255 := by decide
 exact ⟨by have h1 := this.1; rw [e1] at h1; exact h1, by have h1 := this.2; rw [e2] at h1; exact h1⟩
end Go.Proofs.YtfgcmhhacfkhcaaGreatDoor
namespace Go.Proofs.YtfgcmhhacfkhcaaGreatDoor
open Go.RowKit
theorem drawShard_def (N : Nat) (hM : 1048576 < N) {code : List Int} (hb : Bs code) : Def (s_DrawShardTop_m N code) fun r => Drawn (r.1, r.2.1) (r.2.2.1, r.2.2.2.1) ∧ AQ (.mk r.2.2.2.2.1 r.2.2.2.2.2.1 r.2.2.2.2.2.2.1 r.2.2.2.2.2.2.2.1 r.2.2.2.2.2.2.2.2.1 r.2.2.2.2.2.2.2.2.2.1) ∧ 1 ≤ r.2.2.2.2.2.2.2.2.2.2.1 ∧ r.2.2.2.2.2.2.2.2.2.2.1 ≤ 4 := by
 unfold s_DrawShardTop_m
 refine Def.bind (open_def N hb) fun r h0 => ?_
 refine Def.bind (anySeg_def N hM h0) fun r2 ⟨d2, h2⟩ => ?_
 refine Def.bind (query3_def N (by omega) h2 (by omega)) fun r3 ⟨o3, h3⟩ => ?_
 refine Def.bind (pick_def N 4 h3 (by omega)) fun r4 ⟨p0, p1, _, h4⟩ => ?_
 have p1 := p1 (by omega)
 refine Def.ite (by unfold fits; omega) (Def.ite (by unfold fits; omega) ?_)
 refine Def.bind (pick_def N _ h4 (by omega)) fun r5 ⟨q0, q1, _, h5⟩ => ?_
 have q1 := q1 (by omega)
 refine Def.bind (pick_def N 2 h5 (by omega)) fun r6 ⟨s0, s1, _, h6⟩ => ?_
 have s1 := s1 (by omega)
 refine Def.ite (by unfold fits; omega) ?_
 refine Def.bind (one_def N (by simp) h6 (by omega)) fun r7 ⟨_, _⟩ => Def.ret ⟨d2, o3.aq, by dsimp only; omega, by dsimp only; omega⟩
theorem hits_in {N : Nat} {c : EConf} {s : ESeg} {q : DQ} (h : Fit N c s q) : HitsIn (hitsR N c s q allP) := by
 refine ⟨hitsR_len N c s q allP, hitsR_dist N c s q allP, fun x hx => ?_⟩
 unfold hitsR at hx
 cases hs : okSeg c s with
 | false => rw [hs] at hx; cases hx
 | true =>
  cases hq : okQ 4 q with
  | false => rw [hs, hq] at hx; cases hx
  | true =>
   rw [hs, hq] at hx
   obtain ⟨d, hd, rfl, h0, _⟩ := hitsP_mem (V := fun d => valS N N c s d q) hx
   have := okDoc_id (okDoc_each (okSeg_docs hs) d hd)
   exact ⟨this.1, this.2, by show 1 ≤ valS N N c s d q; omega⟩
theorem shard_part (N : Nat) (c : EConf) (s : ESeg) (q : DQ) (many most k : Nat) (h1 : 1 ≤ many) (h4 : many ≤ 4) (hk : k < many) (m1 : 1 ≤ most) (m2 : most ≤ 16) : shardR N c s q (many : Int) (k : Int) (most : Int) = part (hitsR N c s q allP) many most k := by
 unfold shardR shardB topRR inM topR part
 rw [zb (by omega : (1 : Int) ≤ (many : Int)), zb (by omega : (many : Int) ≤ 4), zb (by omega : (0 : Int) ≤ (k : Int)), zb (by omega : (k : Int) ≤ (many : Int) - 1), zb (by omega : (1 : Int) ≤ (most : Int)), zb (by omega : (most : Int) ≤ 16), hitsR_filter]
 rfl
theorem fnShards_gen (N : Nat) (hM : Sm < N) (hN : N ≤ 16777216) (code : List Int) (hb : Bs code) : l_FnShards_m N code = some true := by
 have hM' : 1048576 < N := hM
 refine Def.get ?_
 unfold l_FnShards_m
 refine Def.dif (fun e => Def.ret rfl) (fun e => ?_)
 refine Def.bind (drawShard_def N hM' hb) fun r ⟨dr, aq, hm1, hm4⟩ => ?_
 generalize hc : ((r.1, r.2.1) : EConf) = c at *
 generalize hs : ((r.2.2.1, r.2.2.2.1) : ESeg) = s at *
 generalize hq : (DQ.mk r.2.2.2.2.1 r.2.2.2.2.2.1 r.2.2.2.2.2.2.1 r.2.2.2.2.2.2.2.1 r.2.2.2.2.2.2.2.2.1 r.2.2.2.2.2.2.2.2.2.1) = q at *
 have c1 : r.1 = c.1 := by rw [← hc]
 have c2 : r.2.1 = c.2 := by rw [← hc]
 have s1 : r.2.2.1 = s.1 := by rw [← hs]
 have s2 : r.2.2.2.1 = s.2 := by rw [← hs]
 have q1 : r.2.2.2.2.1 = q.kind := by rw [← hq]; rfl
 have q2 : r.2.2.2.2.2.1 = q.field := by rw [← hq]; rfl
 have q3 : r.2.2.2.2.2.2.1 = q.words := by rw [← hq]; rfl
 have q4 : r.2.2.2.2.2.2.2.1 = q.lo := by rw [← hq]; rfl
 have q5 : r.2.2.2.2.2.2.2.2.1 = q.hi := by rw [← hq]; rfl
 have q6 : r.2.2.2.2.2.2.2.2.2.1 = q.kids := by rw [← hq]; rfl
 rw [c1, c2, s1, s2, q1, q2, q3, q4, q5, q6]
 generalize r.2.2.2.2.2.2.2.2.2.2.2.1 = which at *
 generalize r.2.2.2.2.2.2.2.2.2.2.2.2 = mst at *
 obtain ⟨many, hmn⟩ : ∃ many : Nat, r.2.2.2.2.2.2.2.2.2.2.1 = (many : Int) := ⟨r.2.2.2.2.2.2.2.2.2.2.1.toNat, by omega⟩
 rw [hmn] at hm1 hm4 ⊢
 have F : Fit N c s q := ⟨hM, hN, dr.conf, dr.docs, dr.few, aq 4⟩
 have t1 := shardTop_i F (many : Int) which mst
 have t2 := shardTop_s F (many : Int) which mst
 have hL : (shardR N c s q (many : Int) which mst).length ≤ 16 := by
  unfold shardR
  cases shardB (many : Int) which
  ·exact zaf _
  ·show (topRR N c s q _ mst).length ≤ 16
   unfold topRR
   cases inM mst
   ·exact zaf _
   ·show (topR N c s q _ _).length ≤ 16
    unfold topR
    rw [zah, show sortH _ = List.foldl insH [] _ from rfl, sortH_len]
    have := hitsR_len N c s q (shardP (many : Int) which)
    simp only [zac]
    omega
 have t3 := foHits_same N (shardR N c s q (many : Int) which mst) (by omega) (by omega)
 have tail : Def (Option.bind (s_ShardTop_m N c.1 c.2 s.1 s.2 q.kind q.field q.words q.lo q.hi q.kids (many : Int) which mst) fun r5 => Option.bind (l_foHits_m N (shardR N c s q (many : Int) which mst) r5) fun r6 => some r6) fun r => r = true := by
  rw [t2, za, t3, za]
  exact Def.ret rfl
 rw [t1, za]
 refine Def.bind (P := fun r => r = shardR N c s q (many : Int) which mst) ⟨_, t2, rfl⟩ fun r3 h3 => ?_
 subst h3
 refine Def.bind (P := fun r => r = true) ⟨_, t3, rfl⟩ fun r4 h4 => ?_
 subst h4
 rw [zn, ze]
 refine Def.bind (P := fun r => r = okSeg c s) ⟨_, F.segI, rfl⟩ fun r7 h7 => ?_
 refine Def.bif (fun _ => tail) (fun _ => ?_)
 refine Def.dif (fun _ => tail) (fun e1 => ?_)
 refine Def.dif (fun _ => tail) (fun e2 => ?_)
 obtain ⟨most, rfl⟩ : ∃ most : Nat, mst = (most : Int) := ⟨mst.toNat, by omega⟩
 have hin := hits_in F
 have hsh : ∀ k : Nat, k < many → i_ShardTop_m N c.1 c.2 s.1 s.2 q.kind q.field q.words q.lo q.hi q.kids (many : Int) (k : Int) (most : Int) = some (part (hitsR N c s q allP) many most k) := fun k hk => by
  rw [shardTop_i F, shard_part N c s q many most k (by omega) (by omega) hk (by omega) (by omega)]
 have htop : i_TopOf_m N c.1 c.2 s.1 s.2 q.kind q.field q.words q.lo q.hi q.kids (most : Int) = some ((sortH (hitsR N c s q allP)).take most) := by
  rw [topOf_i F]
  unfold topRR inM topR
  rw [zb (by omega : (1 : Int) ≤ (most : Int)), zb (by omega : (most : Int) ≤ 16)]
  rfl
 have hTl : ((sortH (hitsR N c s q allP)).take most).length ≤ 16 := by rw [zah]; omega
 generalize hitsR N c s q allP = H at *
 refine Def.upto many (fun n g => g = ((many : Int), (most : Int), (List.range n).map (part H many most), ((List.range n).map fun k => many - 1 - k).map (part H many most), (n : Int), c.1, c.2, s.1, s.2, q.kind, q.field, q.words, q.lo, q.hi, q.kids)) ?_ ?_ N 0 _ (zaf _) rfl (by omega)
 ·rintro go _ rfl
  dsimp only
  have u1 := merge_all N hM hN hin many most (by omega) (by omega) (by omega) (by omega) (List.range many) List.nodup_range (by rw [zbZ]; omega) (fun k => zb1)
  have u2 := merge_all N hM hN hin many most (by omega) (by omega) (by omega) (by omega) ((List.range many).map fun k => many - 1 - k) (by
   refine zbb.2 ?_
   refine List.Pairwise.imp_of_mem ?_ (List.nodup_range (n := many))
   intro a b ha hb hab e
   rw [zb1] at ha hb
   exact hab (by omega)) (by rw [zar, zbZ]; omega) (fun k => by
   rw [zab]
   constructor
   ·rintro ⟨a, ha, rfl⟩
    rw [zb1] at ha
    omega
   ·intro hk
    exact ⟨many - 1 - k, by rw [zb1]; omega, by omega⟩)
  have u3 := foHits_same N ((sortH H).take most) (by omega) (by omega)
  rw [zd (zm _), ze, htop, za, u1, za, u3, za, zg, u2, za, u3, za]
  exact Def.ret rfl
 ·rintro go n _ hn rfl hgo
  dsimp only
  have e5 : ((many : Int) - 1) - (n : Int) = ((many - 1 - n : Nat) : Int) := by omega
  rw [zb (by omega : (n : Int) < (many : Int)), zg, hsh n hn, za]
  refine Def.ite (room_of (by rw [zar, zbZ, zbE]; omega) (by rw [zar, zbZ, zbE]; omega)) (Def.ite (by unfold fits; omega) (Def.ite (by unfold fits; omega) ?_))
  rw [e5, hsh (many - 1 - n) (by omega), za]
  refine Def.ite (room_of (by simp only [zar, zbZ, zbE]; omega) (by simp only [zar, zbZ, zbE]; omega)) (Def.ite (fits_nat (n := n) (by omega)) (hgo _ ?_))
  rw [List.range_succ, zaK, zaK, zaK, cast_succ']
  rfl
theorem fnShards_law (x0 : List Int) (o0 : okD BigN (.sl (.int .u8)) x0) : l_FnShards_m 1048700 x0 = some true :=
 fnShards_gen 1048700 (by decide) (by decide) x0 (bytes_ok o0)
end Go.Proofs.YtfgcmhhacfkhcaaGreatDoor
