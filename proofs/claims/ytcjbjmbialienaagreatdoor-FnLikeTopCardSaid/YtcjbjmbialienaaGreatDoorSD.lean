import Derived.Test.YtcjbjmbialienaaGreatDoorG1
import Derived.Test.YtcjbjmbialienaaGreatDoorSB
import Derived.Test.YtcjbjmbialienaaGreatDoorSC
set_option linter.unusedVariables false
set_option linter.unusedSimpArgs false
namespace Go.Proofs.YtcjbjmbialienaaGreatDoor
open Go.RowKit
theorem jt2 {n : Int} (h0 : 0 ≤ n) (h1 : n < 9223372036854775808) : IntKind.i64.wrap n = n := by
 simp only [IntKind.wrap, IntKind.bits, IntKind.signed]
 simp only [show ((2:Int) ^ 64) = 18446744073709551616 by rfl, show ((2:Int) ^ (64 - 1)) = 9223372036854775808 by rfl]
 have e : n % 18446744073709551616 = n := Int.emod_eq_of_lt h0 (by omega)
 rw [e]
 have : ¬ (n ≥ 9223372036854775808) := by omega
 simp [this]
theorem ju1 {x y : Int} (hx : 0 ≤ x ∧ x < 9223372036854775808) (hy : 0 ≤ y ∧ y < 9223372036854775808) : 0 ≤ bitsI .xor .i64 x y := by
 have e1 : (BitVec.ofInt 64 x).toNat = x.toNat := by
  rw [BitVec.toNat_ofInt]
  have : x % ((2 ^ 64 : Nat) : Int) = x := Int.emod_eq_of_lt hx.1 (by omega)
  rw [this]
 have e2 : (BitVec.ofInt 64 y).toNat = y.toNat := by
  rw [BitVec.toNat_ofInt]
  have : y % ((2 ^ 64 : Nat) : Int) = y := Int.emod_eq_of_lt hy.1 (by omega)
  rw [this]
 have hb : (BitVec.ofInt 64 x ^^^ BitVec.ofInt 64 y).toNat < 2 ^ 63 := by
  rw [BitVec.toNat_xor, e1, e2]
  exact Nat.xor_lt_two_pow (by omega) (by omega)
 show 0 ≤ IntKind.i64.wrap ((BitVec.ofInt 64 x ^^^ BitVec.ofInt 64 y).toNat : Int)
 rw [jt2 (by omega) (by omega)]
 omega
theorem jt4 {α : Type} {xs : List α} {i : Int} (h0 : 0 ≤ i) (h1 : i < xs.length) : ∃ x, idx xs i = some x ∧ x ∈ xs := by
 have h : i.toNat < xs.length := by omega
 exact ⟨xs[i.toNat], by simp only [idx, zf h0, zc h], zr h⟩
def Bs (b : List Int) : Prop := ∀ x, x ∈ b → 0 ≤ x ∧ x ≤ 255
theorem juF (N : Nat) (n : Int) (b : List Int) (k : Int) (hb : Bs b) (h0 : 0 ≤ k) (h1 : k ≤ 1099511627776) (hl : b.length ≤ 2000) : ∃ v, jtW N n b k = some (v, b, k + 1) ∧ 0 ≤ v ∧ (1 ≤ n → v < n) ∧ (n < 1 → v = 0) := by
 unfold jtW
 rw [zf (by unfold fits; omega)]
 by_cases hn : n < 1
 ·exact ⟨0, by simp [hn], zbD _, fun h => by omega, fun _ => rfl⟩
 have hn' : decide (n < 1) = false := by simp [hn]
 simp only [hn', ze]
 by_cases hz : (b.length : Int) = 0
 ·exact ⟨0, by simp [hz], zbD _, fun h => by omega, fun h => absurd h hn⟩
 have hz' : decide ((b.length : Int) = 0) = false := by simp only [hz, decide_false]
 have ek : k + 1 - 1 = k := by omega
 have tm : ∀ x : Int, 0 ≤ x → 0 ≤ x.tmod n ∧ x.tmod n < n := fun x hx => ⟨Int.tmod_nonneg n hx, Int.tmod_lt_of_pos x (by omega)⟩
 have tl : ∀ x : Int, 0 ≤ x → 0 ≤ x.tmod (b.length : Int) ∧ x.tmod (b.length : Int) < b.length := fun x hx => ⟨Int.tmod_nonneg _ hx, Int.tmod_lt_of_pos x (by omega)⟩
 simp only [hz', ze, ek, zf (show fits k by unfold fits; omega)]
 by_cases hk : k < (b.length : Int)
 ·obtain ⟨e, he, hm⟩ := jt4 h0 hk
  have := hb e hm
  simp only [hk, decide_true, zg, he, za]
  rw [zf (by omega), jt2 (by omega) (by omega)]
  exact ⟨_, rfl, (tm e (by omega)).1, fun _ => (tm e (by omega)).2, fun h => absurd h hn⟩
 ·have hk' : decide (k < (b.length : Int)) = false := by simp only [hk, decide_false]
  obtain ⟨e, he, hm⟩ := jt4 (xs := b) (tl k h0).1 (tl k h0).2
  obtain ⟨f, hf, hm2⟩ := jt4 (xs := b) (tl (k * 7 + 3) (by omega)).1 (tl (k * 7 + 3) (by omega)).2
  have b1 := hb e hm
  have b2 := hb f hm2
  have w1 : IntKind.i64.wrap e = e := jt2 (by omega) (by omega)
  have w2 : IntKind.i64.wrap f = f := jt2 (by omega) (by omega)
  have d0 : 0 ≤ k.tdiv (b.length : Int) := Int.tdiv_nonneg h0 (by omega)
  have d1 : k.tdiv (b.length : Int) ≤ k := by
   rw [Int.tdiv_eq_ediv_of_nonneg h0]
   exact Int.ediv_le_self _ h0
  obtain ⟨d, hd⟩ : ∃ d, d = k.tdiv (b.length : Int) := ⟨_, rfl⟩
  simp only [hk', ze, he, hf, za, w1, w2, ← hd]
  rw [← hd] at d0 d1
  obtain ⟨x, hx⟩ : ∃ x, x = e * 131 + f * 1117 + k * 29 + d * 53 := ⟨_, rfl⟩
  have x0 : 0 ≤ x := by omega
  have x1 : x < 4611686018427387904 := by omega
  have q0 : 0 ≤ x.tdiv 64 := Int.tdiv_nonneg x0 (by omega)
  have q1 : x.tdiv 64 ≤ x := by
   rw [Int.tdiv_eq_ediv_of_nonneg x0]
   exact Int.ediv_le_self _ x0
  have y0 := ju1 (x := x) (y := x.tdiv 64) ⟨x0, by omega⟩ ⟨q0, by omega⟩
  rw [zf hz, zf (by unfold fits; omega), zf (by unfold fits; omega), zf (by unfold fits; omega), zf hz, zf (by unfold fits; omega), zf (by unfold fits; omega), zf (by unfold fits; omega), zf (by unfold fits; omega), zf hz,
   zf (by unfold fits; omega), zf (by unfold fits; omega), zf (by unfold fits; omega), zf (by decide), ← hx, zf (by unfold fits; omega), zf (by omega)]
  exact ⟨_, rfl, (tm _ y0).1, fun _ => (tm _ y0).2, fun h => absurd h hn⟩
end Go.Proofs.YtcjbjmbialienaaGreatDoor
namespace Go.Proofs.YtcjbjmbialienaaGreatDoor
open Go.RowKit
theorem ju3 {α : Type} (xs : List α) (n : Nat) (h : n ≤ xs.length) : cut xs 0 (n : Int) = some (xs.take n) := by
 unfold cut
 rw [zf (by omega)]
 simp
theorem juD (N : Nat) (code : List Int) (hb : Bs code) : ∃ y, jt0 N code = some (y, 0) ∧ Bs y ∧ y.length ≤ 2000 := by
 unfold jt0
 by_cases h : (2000 : Int) < (code.length : Int)
 ·simp only [h, decide_true, zg]
  rw [show (2000 : Int) = ((2000 : Nat) : Int) from rfl, ju3 code 2000 (by omega)]
  exact ⟨_, rfl, fun x hx => hb x (zaP hx), by simp; omega⟩
 ·simp only [h, decide_false, ze]
  exact ⟨_, rfl, hb, by omega⟩
def Rdr (b : List Int) (k : Int) (j : Nat) : Prop := Bs b ∧ b.length ≤ 2000 ∧ 0 ≤ k ∧ k ≤ j
theorem Rdr.le {b : List Int} {k : Int} {j j' : Nat} (h : Rdr b k j) (hj : j ≤ j') : Rdr b k j' := ⟨h.1, h.2.1, h.2.2.1, by have := h.2.2.2; omega⟩
theorem pick_def (N : Nat) (n : Int) {b : List Int} {k : Int} {j : Nat} (h : Rdr b k j) (hj : j ≤ 1000000) : Def (jtW N n b k) fun r => 0 ≤ r.1 ∧ (1 ≤ n → r.1 < n) ∧ (n < 1 → r.1 = 0) ∧ Rdr r.2.1 r.2.2 (j + 1) := by
 obtain ⟨v, h1, h2, h3, h4⟩ := juF N n b k h.1 h.2.2.1 (by have := h.2.2.2; omega) h.2.1
 exact ⟨_, h1, h2, h3, h4, h.1, h.2.1, by have := h.2.2.1; show (0:Int) ≤ k + 1; omega, by have := h.2.2.2; show k + 1 ≤ ((j + 1 : Nat) : Int); omega⟩
theorem of_def (N : Nat) {l : List (List UInt8)} {b : List Int} {k : Int} {j : Nat} (hl : 0 < l.length) (h : Rdr b k j) (hj : j ≤ 1000000) : Def (jtY N l b k) fun r => r.1 ∈ l ∧ Rdr r.2.1 r.2.2 (j + 1) := by
 unfold jtY
 refine Def.bind (pick_def N _ h hj) fun r ⟨h0, h1, _, h3⟩ => ?_
 exact Def.idx h0 (h1 (by omega)) fun x hx _ => Def.ret ⟨hx, h3⟩
theorem open_def (N : Nat) {code : List Int} (hb : Bs code) : Def (jt0 N code) fun r => Rdr r.1 r.2 0 := by
 obtain ⟨y, h1, h2, h3⟩ := juD N code hb
 exact ⟨_, h1, h2, h3, zbD _, zbD _⟩
def okC (c : UInt8) : Bool := decide (32 ≤ c.toNat) && decide (c.toNat ≤ 126)
def okS (n : Nat) (s : List UInt8) : Bool := s.all okC && decide (s.length ≤ n)
theorem juf {n m : Nat} {s t : List UInt8} (h : okS n s = true) (k : okS m t = true) : okS (n + m) (s ++ t) = true := by
 unfold okS at *
 simp only [zj, zw, List.all_append, zam] at *
 exact ⟨⟨h.1, k.1⟩, by omega⟩
theorem jue {n m : Nat} {s : List UInt8} (h : okS n s = true) (hm : n ≤ m) : okS m s = true := by
 unfold okS at *
 simp only [zj, zw] at *
 exact ⟨h.1, by omega⟩
theorem okS_len {n : Nat} {s : List UInt8} (h : okS n s = true) : s.length ≤ n := by
 unfold okS at h
 simp only [zj, zw] at h
 exact h.2
theorem okS_okT {s : List UInt8} (h : okS 160 s = true) : okT s = true := by
 have hl := okS_len h
 unfold okS at h
 simp only [zj, zax] at h
 unfold okT allN
 rw [zj]
 refine ⟨zax.2 fun n hn => ?_, by rw [zw]; omega⟩
 have hn' : n < s.length := by simpa using hn
 have := h.1 _ (zr hn')
 unfold okC at this
 simp only [zj, zw] at this
 rw [← jbL hn', zd (by omega), zd (by omega)]
 rfl
theorem ju7 (N : Nat) {b : List Int} {k : Int} {j : Nat} (h : Rdr b k j) (hj : j ≤ 100000) : Def (jt1 N b k) fun r => okS 17 r.1 = true ∧ Rdr r.2.1 r.2.2 (j + 1) := by
 unfold jt1
 refine Def.bind (of_def N (by decide) h (by omega)) fun r ⟨m1, h1⟩ => Def.ret ⟨?_, h1⟩
 exact (by decide : ∀ w, w ∈ ([([99, 97, 116] : List UInt8), ([67, 97, 116, 115] : List UInt8), ([100, 111, 103] : List UInt8), ([100, 111, 103, 115] : List UInt8), ([114, 117, 110] : List UInt8), ([82, 85, 78, 78, 73, 78, 71] : List UInt8), ([116, 104, 101] : List UInt8), ([114, 101, 100] : List UInt8), ([98, 105, 103] : List UInt8), ([110, 101, 119, 32, 121, 111, 114, 107] : List UInt8), ([78, 101, 119, 32, 32, 89, 111, 114, 107] : List UInt8), ([110, 121] : List UInt8), ([102, 111, 120] : List UInt8), ([112, 97, 115, 115, 101, 100] : List UInt8), ([120, 49] : List UInt8), ([97, 118, 101, 114, 121, 118, 101, 114, 121, 108, 111, 110, 103, 119, 111, 114, 100] : List UInt8)] : List (List UInt8)) → okS 17 w = true) _ m1
theorem text_def (N : Nat) {b : List Int} {k : Int} {j : Nat} (h : Rdr b k j) (hj : j ≤ 10000) (hN : 20 ≤ N) : Def (jtZ N b k) fun r => okS 160 r.1 = true ∧ Rdr r.2.1 r.2.2 (j + 30) := by
 unfold jtZ
 refine Def.bind (pick_def N 9 h (by omega)) fun r ⟨p0, p1, _, h1⟩ => ?_
 have p1 := p1 (by omega)
 refine Def.iter (fun g => ∃ s : List UInt8, ∃ n : Nat, ∃ x y, n ≤ 8 ∧ okS (19 * (8 - n)) s = true ∧ Rdr x y (j + 1 + 2 * (8 - n)) ∧ g = (s, (n : Int), x, y)) (fun g => g.2.1.toNat) ?_ N _ ⟨[], r.1.toNat, _, _, by omega, by unfold okS; simp, h1.le (by omega), by rw [Int.toNat_of_nonneg p0]⟩ (by show r.1.toNat < N; omega)
 rintro go _ ⟨s, n, x, y, hn, hs, hr, rfl⟩ hgo
 dsimp only
 have hsl := okS_len hs
 refine Def.dif (fun e => ?_) (fun e => Def.ret ⟨jue hs (by omega), hr.le (by omega)⟩)
 refine Def.bind (ju7 N hr (by omega)) fun r2 ⟨l2, h2⟩ => ?_
 have hl2 := okS_len l2
 refine Def.ite (by omega) ?_
 refine Def.bind (of_def N (by decide) h2 (by omega)) fun r3 ⟨m3, h3⟩ => ?_
 have l3 : okS 2 r3.1 = true := (by decide : ∀ w, w ∈ ([([32] : List UInt8), ([32] : List UInt8), ([44, 32] : List UInt8), ([45] : List UInt8), ([46, 32] : List UInt8)] : List (List UInt8)) → okS 2 w = true) _ m3
 have hl3 := okS_len l3
 refine Def.ite (by rw [zam]; omega) (Def.ite (by unfold fits; omega) (hgo _ ⟨(s ++ r2.1) ++ r3.1, n - 1, _, _, by omega, jue (juf (juf hs l2) l3) (by omega), h3.le (by omega), ?_⟩ ?_))
 ·rw [show ((n : Int) - 1) = ((n - 1 : Nat) : Int) from by omega]
 ·show ((n : Int) - 1).toNat < (n : Int).toNat
  omega
structure SmallDoc (fs : List EField) (ats : List EAttr) (n : Nat) : Prop where
 fl : fs.length ≤ n
 al : ats.length ≤ n
 f : ∀ x, x ∈ fs → x.1.length ≤ 1000 ∧ x.2.length ≤ 1000
 a : ∀ x, x ∈ ats → x.1.length ≤ 4 ∧ -1 ≤ x.2 ∧ x.2 ≤ 1000000000
theorem SmallDoc.ok {fs : List EField} {ats : List EAttr} {n : Nat} (h : SmallDoc fs ats n) (hn : n ≤ 1000) {id : Int} (h0 : 0 ≤ id ∧ id ≤ 1000000) : okD Sm TDoc (id, fs, ats) := by
 have e1 : IntKind.i64.min = -9223372036854775808 := by decide
 have e2 : IntKind.i64.max = 9223372036854775807 := by decide
 have hfl := h.fl; have hal := h.al
 refine ⟨⟨by rw [e1]; show _ ≤ id; omega, by rw [e2]; show id ≤ _; omega⟩, ⟨by show fs.length ≤ 1048576; omega, fun x hx => ?_⟩, ⟨by show ats.length ≤ 1048576; omega, fun x hx => ?_⟩⟩
 ·have := h.f x hx
  exact ⟨by show x.1.length ≤ 1048576; omega, by show x.2.length ≤ 1048576; omega⟩
 ·have := h.a x hx
  exact ⟨by show x.1.length ≤ 1048576; omega, by rw [e1]; exact Int.le_trans (by decide) this.2.1, by rw [e2]; exact Int.le_trans this.2.2 (by decide)⟩
theorem SmallDoc.addF {fs : List EField} {ats : List EAttr} {n : Nat} (h : SmallDoc fs ats n) {x : EField} (h1 : x.1.length ≤ 1000) (h2 : x.2.length ≤ 1000) : SmallDoc (fs ++ [x]) ats (n + 1) := by
 have hfl := h.fl; have hal := h.al
 refine ⟨by simp only [zam, zi, zac]; omega, by omega, fun y hy => ?_, h.a⟩
 rcases zaB.1 hy with hy | hy
 ·exact h.f y hy
 ·rw [zaD.1 hy]; exact ⟨h1, h2⟩
theorem SmallDoc.addA {fs : List EField} {ats : List EAttr} {n : Nat} (h : SmallDoc fs ats n) {x : EAttr} (h1 : x.1.length ≤ 4) (h2 : -1 ≤ x.2) (h3 : x.2 ≤ 1000000000) : SmallDoc fs (ats ++ [x]) (n + 1) := by
 have hfl := h.fl; have hal := h.al
 refine ⟨by omega, by simp only [zam, zi, zac]; omega, h.f, fun y hy => ?_⟩
 rcases zaB.1 hy with hy | hy
 ·exact h.a y hy
 ·rw [zaD.1 hy]; exact ⟨h1, h2, h3⟩
theorem SmallDoc.le {fs : List EField} {ats : List EAttr} {n m : Nat} (h : SmallDoc fs ats n) (hm : n ≤ m) : SmallDoc fs ats m := ⟨zau h.fl hm, zau h.al hm, h.f, h.a⟩
theorem SmallDoc.nil : SmallDoc [] [] 0 := ⟨zae _, zae _, (fun x hx => by cases hx), (fun x hx => by cases hx)⟩
theorem SmallDoc.room {n : Nat} {b : Nat} (hn : n ≤ 1000) (hb : b ≤ 1000) : room n 1 b := by
 have : (n + 1) * b ≤ 1001 * 1000 := Nat.mul_le_mul (by omega) hb
 exact room_of (by omega) (by omega)
abbrev nBody : List UInt8 := [98, 111, 100, 121]
abbrev nTitle : List UInt8 := [116, 105, 116, 108, 101]
structure FG (fs : List EField) (ns : List (List UInt8)) : Prop where
 names : (fs.map (·.1)).Sublist ns
 texts : ∀ x, x ∈ fs → okS 160 x.2 = true
theorem FG.add {fs : List EField} {ns : List (List UInt8)} (h : FG fs ns) (n t : List UInt8) (ht : okS 160 t = true) : FG (fs ++ [(n, t)]) (ns ++ [n]) := by
 refine ⟨?_, fun x hx => ?_⟩
 ·rw [zaK]
  exact List.Sublist.append h.names (List.Sublist.refl _)
 ·rcases zaB.1 hx with hx | hx
  ·exact h.texts x hx
  ·rw [zaD] at hx; subst hx; exact ht
theorem FG.skip {fs : List EField} {ns : List (List UInt8)} (h : FG fs ns) (n : List UInt8) : FG fs (ns ++ [n]) := ⟨h.names.trans (List.sublist_append_left _ _), h.texts⟩
theorem doc_def (N : Nat) (id : Int) {b : List Int} {k : Int} {j : Nat} (h : Rdr b k j) (hj : j ≤ 5000) (hN : 20 ≤ N) : Def (s_l30Doc_m N id b k) fun r => r.1 = id ∧ (SmallDoc r.2.1 r.2.2.1 4 ∧ FG r.2.1 [nBody, nTitle] ∧ r.2.2.1.length ≤ 2) ∧ Rdr r.2.2.2.1 r.2.2.2.2 (j + 100) := by
 unfold s_l30Doc_m
 refine Def.meet (fun g => ∃ fs x y, SmallDoc fs [] 1 ∧ FG fs [nBody] ∧ Rdr x y (j + 31) ∧ g = (0, id, fs, x, y)) ?_ fun J hJ => ?_
 ·rintro _ ⟨fs, x, y, hs, hg, hr, rfl⟩
  dsimp only
  refine Def.meet (fun g => ∃ fs x y, SmallDoc fs [] 2 ∧ FG fs [nBody, nTitle] ∧ Rdr x y (j + 65) ∧ g = (0, id, fs, x, y)) ?_ fun J hJ => ?_
  ·rintro _ ⟨fs, x, y, hs, hg, hr, rfl⟩
   dsimp only
   refine Def.meet (fun g => ∃ fs ats x y, SmallDoc fs ats 3 ∧ (FG fs [nBody, nTitle] ∧ ats.length ≤ 1) ∧ Rdr x y (j + 70) ∧ g = (0, id, fs, ats, x, y)) ?_ fun J hJ => ?_
   ·rintro _ ⟨fs, ats, x, y, hs, ⟨hg, ha⟩, hr, rfl⟩
    dsimp only
    refine Def.bind (pick_def N 3 hr (by omega)) fun r7 ⟨_, _, _, h7⟩ => ?_
    refine Def.dif (fun _ => ?_) (fun _ => Def.ret ⟨rfl, ⟨hs.le (by omega), hg, by dsimp only; omega⟩, h7.le (by omega)⟩)
    refine Def.bind (pick_def N 30 h7 (by omega)) fun r8 ⟨q0, q1, _, h8⟩ => ?_
    have q1 := q1 (by omega)
    have hal := hs.al
    exact Def.ite (by unfold fits; omega) (Def.ite (SmallDoc.room (by omega) (by omega)) (Def.ret ⟨rfl, ⟨hs.addA (by simp) (by dsimp only; omega) (by dsimp only; omega), hg, by simp only [zam, zi, zac]; omega⟩, h8.le (by omega)⟩))
   ·refine Def.bind (pick_def N 3 hr (by omega)) fun r5 ⟨_, _, _, h5⟩ => ?_
    refine Def.dif (fun _ => ?_) (fun _ => hJ _ ⟨_, _, _, _, hs.le (by omega), ⟨hg, by simp⟩, h5.le (by omega), rfl⟩)
    refine Def.bind (pick_def N 4 h5 (by omega)) fun r6 ⟨q0, q1, _, h6⟩ => ?_
    have q1 := q1 (by omega)
    exact Def.ite (SmallDoc.room (by simp) (by omega)) (hJ _ ⟨_, _, _, _, hs.addA (x := (([114, 97, 116, 101] : List UInt8), r6.1)) (by simp) (by dsimp only; omega) (by dsimp only; omega), ⟨hg, by simp⟩, h6.le (by omega), rfl⟩)
  ·refine Def.bind (pick_def N 3 hr (by omega)) fun r3 ⟨_, _, _, h3⟩ => ?_
   refine Def.dif (fun _ => ?_) (fun _ => hJ _ ⟨_, _, _, hs.le (by omega), hg.skip nTitle, h3.le (by omega), rfl⟩)
   refine Def.bind (text_def N h3 (by omega) hN) fun r4 ⟨l4, h4⟩ => ?_
   have hfl := hs.fl
   have hl4 := okS_len l4
   exact Def.ite (SmallDoc.room (by omega) (by omega)) (hJ _ ⟨_, _, _, hs.addF (x := (([116, 105, 116, 108, 101] : List UInt8), r4.1)) (by simp) (by dsimp only; omega), hg.add nTitle _ l4, h4.le (by omega), rfl⟩)
 ·refine Def.bind (pick_def N 6 h (by omega)) fun r ⟨_, _, _, h1⟩ => ?_
  have g0 : FG [] [] := ⟨List.Sublist.refl _, fun x hx => by cases hx⟩
  refine Def.dif (fun _ => ?_) (fun _ => hJ _ ⟨_, _, _, SmallDoc.nil.le (by omega), g0.skip nBody, h1.le (by omega), rfl⟩)
  refine Def.bind (text_def N h1 (by omega) hN) fun r2 ⟨l2, h2⟩ => ?_
  have hl2 := okS_len l2
  exact Def.ite (SmallDoc.room (by simp) (by omega)) (hJ _ ⟨_, _, _, SmallDoc.nil.addF (x := (([98, 111, 100, 121] : List UInt8), r2.1)) (by simp) (by dsimp only; omega), g0.add nBody _ l2, h2.le (by omega), rfl⟩)
structure DrawnDocs (docs : List EDoc) (m : Int) : Prop where
 few : docs.length ≤ 6
 ids : docs.Pairwise fun a b => a.1 < b.1
 top : ∀ d, d ∈ docs → 1 ≤ d.1 ∧ d.1 ≤ m
 each : ∀ d, d ∈ docs → okD Sm TDoc d ∧ FG d.2.1 [nBody, nTitle] ∧ d.2.2.length ≤ 2
theorem DrawnDocs.ok {docs : List EDoc} {m : Int} (h : DrawnDocs docs m) : DOk docs := by
 refine ⟨⟨h.ids, fun d hd => ?_⟩, by have := h.few; omega, fun d hd => ?_⟩
 ·exact (h.each d hd).2.1.names.nodup (by decide)
 ·have := h.each d hd
  have hl := this.2.1.names.length_le
  simp only [zar, zi, zac] at hl
  exact ⟨by omega, by omega, fun f hf => ⟨okS_okT (this.2.1.texts f hf), okS_len (this.2.1.texts f hf)⟩⟩
theorem docs_def (N : Nat) {b : List Int} {k : Int} {j : Nat} (h : Rdr b k j) (hj : j ≤ 1000) (hN : 20 ≤ N) : Def (s_l30Docs_m N b k) fun r => DrawnDocs r.1 100 ∧ Rdr r.2.1 r.2.2 (j + 700) := by
 unfold s_l30Docs_m
 refine Def.bind (pick_def N 6 h (by omega)) fun r ⟨p0, p1, _, h1⟩ => ?_
 have p1 := p1 (by omega)
 refine Def.iter (fun g => ∃ out : List EDoc, ∃ id : Int, ∃ n : Nat, ∃ x y, n ≤ 6 ∧ out.length + n ≤ 6 ∧ (0 ≤ id ∧ id ≤ 4 * (6 - n)) ∧ DrawnDocs out id ∧ Rdr x y (j + 1 + 110 * (6 - n)) ∧ g = (out, id, (n : Int), x, y)) (fun g => g.2.2.1.toNat) ?_ N _ ⟨[], 0, r.1.toNat, _, _, by omega, by simp; omega, by omega, ⟨by simp, za4, (fun z hz => by cases hz), (fun z hz => by cases hz)⟩, h1.le (by omega), by rw [Int.toNat_of_nonneg p0]⟩ (by show r.1.toNat < N; omega)
 rintro go _ ⟨out, id, n, x, y, hn, hl, hid, ho, hr, rfl⟩ hgo
 dsimp only
 refine Def.dif (fun e => ?_) (fun e => Def.ret ⟨⟨ho.few, ho.ids, fun d hd => ⟨(ho.top d hd).1, by have := (ho.top d hd).2; omega⟩, ho.each⟩, hr.le (by omega)⟩)
 refine Def.ite (by unfold fits; omega) ?_
 refine Def.bind (pick_def N 3 hr (by omega)) fun r2 ⟨q0, q1, _, h2⟩ => ?_
 have q1 := q1 (by omega)
 refine Def.ite (by unfold fits; omega) ?_
 refine Def.bind (doc_def N _ h2 (by omega) hN) fun r3 ⟨e3, s3, h3⟩ => ?_
 refine Def.ite (room_of (by simp; omega) (by simp; omega)) (Def.ite (by unfold fits; omega) (hgo _ ⟨out ++ [(r3.1, r3.2.1, r3.2.2.1)], id + 1 + r2.1, n - 1, _, _, by omega, ?_, by omega, ⟨?_, ?_, fun z hz => ?_, fun z hz => ?_⟩, h3.le (by omega), ?_⟩ ?_))
 ·simp only [zam, zi, zac]; omega
 ·simp only [zam, zi, zac]; omega
 ·refine List.pairwise_append.2 ⟨ho.ids, by simp, fun a ha b hb => ?_⟩
  rw [zaD] at hb
  subst hb
  have := (ho.top a ha).2
  show a.1 < r3.1
  omega
 ·rcases zaB.1 hz with hz | hz
  ·have := ho.top z hz; omega
  ·rw [zaD] at hz; subst hz; dsimp only; omega
 ·rcases zaB.1 hz with hz | hz
  ·exact ho.each z hz
  ·rw [zaD.1 hz]; exact ⟨s3.1.ok (by omega) (by rw [e3]; omega), s3.2.1, s3.2.2⟩
 ·rw [show ((n : Int) - 1) = ((n - 1 : Nat) : Int) from by omega]
 ·show ((n : Int) - 1).toNat < (n : Int).toNat
  omega
end Go.Proofs.YtcjbjmbialienaaGreatDoor
namespace Go.Proofs.YtcjbjmbialienaaGreatDoor
open Go.RowKit
def okSynW' (st : List (List UInt8)) (w : List UInt8) : Bool := okW w && (decide (once w = none) && !decide (w ∈ st))
def okSyn' (st : List (List UInt8)) (y : ESyn) : Bool := (decide ((1 : Int) ≤ (y.1.length : Int)) && decide ((y.1.length : Int) ≤ 3)) && (okW y.2 && (decide (once y.2 = none) && y.1.all (okSynW' st)))
def okConf' (c : EConf) : Bool := decide ((c.1.length : Int) ≤ 6) && (allN c.1.length (okUp c.1) && (decide ((c.2.length : Int) ≤ 4) && c.2.all (okSyn' c.1)))
theorem okConf_of (c : EConf) (h : okConf' c = true) : okConf c = true := by
 unfold okConf' at h
 unfold okConf
 simp only [zj, zw, zax] at h ⊢
 refine ⟨h.1, h.2.1, h.2.2.1, fun y hy => ?_⟩
 have h1 := h.2.2.2 y hy
 unfold okSyn' at h1
 unfold okSyn
 simp only [zj, zw, zax] at h1 ⊢
 refine ⟨h1.1, h1.2.1, stemF_none h1.2.2.1, fun w hw => ?_⟩
 have h2 := h1.2.2.2 w hw
 unfold okSynW' at h2
 unfold okSynW
 simp only [zj, zw] at h2 ⊢
 exact ⟨h2.1, stemF_none h2.2.1, h2.2.2⟩
def fewC (c : EConf) : Bool := decide (c.1.length ≤ 10) && c.1.all (fun w => decide (w.length ≤ 20)) && decide (c.2.length ≤ 10) && c.2.all (fun y => decide (y.1.length ≤ 10) && y.1.all (fun w => decide (w.length ≤ 20)) && decide (y.2.length ≤ 20))
theorem fewC_ok (c : EConf) (h : fewC c = true) : okD Sm TConf c := by
 unfold fewC at h
 simp only [zj, zw, zax] at h
 obtain ⟨⟨⟨h1, h2⟩, h3⟩, h4⟩ := h
 refine ⟨⟨by show c.1.length ≤ 1048576; omega, fun x hx => by have := h2 x hx; show x.length ≤ 1048576; omega⟩, ⟨by show c.2.length ≤ 1048576; omega, fun y hy => ?_⟩⟩
 have h5 := h4 y hy
 exact ⟨⟨by show y.1.length ≤ 1048576; omega, fun x hx => by have := h5.1.2 x hx; show x.length ≤ 1048576; omega⟩, by show y.2.length ≤ 1048576; omega⟩
def stops3 : List (List (List UInt8)) := [[], [[116, 104, 101]], [[100, 111, 103], [116, 104, 101]]]
def syns3 : List (List ESyn) := [[], [([[110, 101, 119], [121, 111, 114, 107]], [110, 121])], [([[98, 105, 103]], [108, 97, 114, 103]), ([[98, 105, 103], [114, 101, 100], [102, 111, 120]], [102, 111, 120]), ([[110, 101, 119], [121, 111, 114, 107]], [110, 121])]]
theorem confs_ok : ∀ s, s ∈ stops3 → ∀ y, y ∈ syns3 → okConf' (s, y) = true ∧ fewC (s, y) = true := by decide +kernel
theorem conf_def (N : Nat) {b : List Int} {k : Int} {j : Nat} (h : Rdr b k j) (hj : j ≤ 10000) : Def (s_l30Conf_m N b k) fun r => (okConf (r.1, r.2.1) = true ∧ okD Sm TConf (r.1, r.2.1)) ∧ Rdr r.2.2.1 r.2.2.2 (j + 3) := by
 have fin : ∀ s y, s ∈ stops3 → y ∈ syns3 → okConf (s, y) = true ∧ okD Sm TConf (s, y) := fun s y hs hy => ⟨okConf_of _ (confs_ok s hs y hy).1, fewC_ok _ (confs_ok s hs y hy).2⟩
 unfold s_l30Conf_m
 refine Def.meet (fun g => ∃ c x y, c ∈ stops3 ∧ Rdr x y (j + 1) ∧ g = (c, x, y)) ?_ fun J hJ => ?_
 ·rintro _ ⟨c, x, y, hc, hr, rfl⟩
  dsimp only
  refine Def.meet (fun g => ∃ c x y, c ∈ stops3 ∧ Rdr x y (j + 2) ∧ g = (c, x, y)) ?_ fun J hJ => ?_
  ·rintro _ ⟨c, x, y, hc, hr, rfl⟩
   dsimp only
   refine Def.bind (pick_def N 4 hr (by omega)) fun r3 ⟨_, _, _, h3⟩ => ?_
   refine Def.dif (fun _ => Def.ret ⟨fin _ _ hc (by simp [syns3]), h3⟩) (fun _ => ?_)
   exact Def.dif (fun _ => Def.ret ⟨fin _ _ hc (by simp [syns3]), h3⟩) (fun _ => Def.ret ⟨fin _ _ hc (by simp [syns3]), h3⟩)
  ·refine Def.bind (pick_def N 4 hr (by omega)) fun r2 ⟨_, _, _, h2⟩ => ?_
   exact Def.dif (fun _ => hJ _ ⟨_, _, _, by decide, h2, rfl⟩) (fun _ => hJ _ ⟨_, _, _, hc, h2, rfl⟩)
 ·refine Def.bind (pick_def N 3 h (by omega)) fun r ⟨_, _, _, h1⟩ => ?_
  exact Def.dif (fun _ => hJ _ ⟨_, _, _, by decide, h1, rfl⟩) (fun _ => hJ _ ⟨_, _, _, by decide, h1, rfl⟩)
structure Drawn (c : EConf) (s : ESeg) : Prop where
 conf : okD Sm TConf c
 docs : ∀ x, x ∈ s.1 → okD Sm TDoc x
 few : s.1.length ≤ 1048576
theorem seg_def (N : Nat) (hM : 1048576 < N) {b : List Int} {k : Int} (h : Rdr b k 0) : Def (s_l30Seg_m N b k) fun r => Drawn (r.1, r.2.1) (r.2.2.1, r.2.2.2.1) ∧ (0 < r.2.2.2.1.length → 0 < r.2.2.1.length) ∧ r.2.2.2.1.length ≤ 10000 ∧ Rdr r.2.2.2.2.1 r.2.2.2.2.2 1000 := by
 unfold s_l30Seg_m
 refine Def.bind (conf_def N h (by omega)) fun r ⟨⟨c1, c2⟩, h1⟩ => ?_
 refine Def.bind (docs_def N h1 (by omega) (by omega)) fun r2 ⟨d1, h2⟩ => ?_
 have hd := d1.ok
 rw [l7Of_spec N (r.1, r.2.1) c1 hd hM, za]
 have hs := (entries_small (r.1, r.2.1) hd).1
 refine Def.ret ⟨⟨c2, fun x hx => (d1.each x hx).1, by have := d1.few; show r2.1.length ≤ _; omega⟩, fun hl => ?_, by show (entriesS (r.1, r.2.1) r2.1).length ≤ _; omega, h2.le (by omega)⟩
 show 0 < r2.1.length
 rcases Nat.eq_zero_or_pos r2.1.length with h0 | h0
 ·have : r2.1 = [] := zbj h0
  dsimp only at hl
  rw [this] at hl
  exact absurd hl (Nat.lt_irrefl _)
 ·exact h0
theorem anySeg_def (N : Nat) (hM : 1048576 < N) {b : List Int} {k : Int} (h : Rdr b k 0) : Def (s_l30AnySeg_m N b k) fun r => Drawn (r.1, r.2.1) (r.2.2.1, r.2.2.2.1) ∧ Rdr r.2.2.2.2.1 r.2.2.2.2.2 1002 := by
 unfold s_l30AnySeg_m
 refine Def.bind (seg_def N hM h) fun r ⟨d1, d2, d3, h1⟩ => ?_
 refine Def.dif (fun e => ?_) (fun e => Def.ret ⟨d1, h1.le (by omega)⟩)
 refine Def.bind (pick_def N _ h1 (by omega)) fun r2 ⟨p0, p1, _, h2⟩ => ?_
 have p1 := p1 (by omega)
 refine Def.bind (pick_def N 16 h2 (by omega)) fun r3 ⟨_, _, _, h3⟩ => ?_
 have hn : r2.1.toNat < r.2.2.2.1.length := by omega
 refine Def.dif (fun _ => ?_) (fun _ => ?_)
 ·refine Def.ite (by omega) ?_
  rw [zc hn, za]
  exact Def.ret ⟨⟨d1.conf, d1.docs, d1.few⟩, h3⟩
 refine Def.dif (fun _ => ?_) (fun _ => ?_)
 ·refine Def.ite (by omega) ?_
  rw [zc hn, za]
  exact Def.ite (room_of (by simp; omega) (by simp; omega)) (Def.ret ⟨⟨d1.conf, d1.docs, d1.few⟩, h3⟩)
 refine Def.dif (fun _ => ?_) (fun _ => Def.ret ⟨d1, h3⟩)
 have hdl := d2 (by omega)
 refine Def.cut (by omega) (by omega) (by omega) (Def.ret ⟨⟨d1.conf, fun x hx => ?_, ?_⟩, h3⟩)
 ·exact d1.docs x (zaP (List.mem_of_mem_drop hx))
 ·have := d1.few
  show ((r.2.2.1.take _).drop _).length ≤ 1048576
  rw [zaQ, zah]
  dsimp only at this
  omega
end Go.Proofs.YtcjbjmbialienaaGreatDoor
namespace Go.Proofs.YtcjbjmbialienaaGreatDoor
open Go.RowKit
theorem drawTerms_def (N : Nat) (hM : 1048576 < N) {code : List Int} (hb : Bs code) : Def (s_DrawLikeTerms_m N code) fun r => Drawn (r.1, r.2.1) (r.2.2.1, r.2.2.2.1) := by
 unfold s_DrawLikeTerms_m
 refine Def.bind (open_def N hb) fun r h0 => ?_
 refine Def.bind (anySeg_def N hM h0) fun r2 ⟨d2, h2⟩ => ?_
 refine Def.bind (pick_def N 9 h2 (by omega)) fun r3 ⟨_, _, _, h3⟩ => ?_
 refine Def.meet (fun g => ∃ id b k, Rdr b k 1010 ∧ g = (id, r2.1, r2.2.1, r2.2.2.1, r2.2.2.2.1, b, k)) ?_ fun J hJ => ?_
 ·rintro _ ⟨id, b, k, h4, rfl⟩
  dsimp only
  unfold s_l30Field_m
  refine Def.bind (Def.bind (of_def N (by decide) h4 (by omega)) (Q := fun r3 => Rdr r3.2.1 r3.2.2 1011) fun r3 ⟨_, h5⟩ => Def.ret h5) fun r6 h6 => ?_
  unfold s_l30Rd_one_m
  refine Def.bind (Def.bind (pick_def N _ h6 (by omega)) (Q := fun _ => True) fun r7 ⟨p0, p1, _, h7⟩ => ?_) fun r8 _ => Def.ret d2
  have p1 := p1 (by simp)
  exact Def.idx p0 p1 fun x _ _ => Def.ret True.intro
 ·refine Def.dif (fun e => ?_) (fun _ => hJ _ ⟨_, _, _, h3.le (by omega), rfl⟩)
  refine Def.bind (pick_def N 4 h3 (by omega)) fun r4 ⟨_, _, _, h4⟩ => ?_
  refine Def.dif (fun _ => ?_) (fun _ => hJ _ ⟨_, _, _, h4.le (by omega), rfl⟩)
  refine Def.bind (pick_def N _ h4 (by omega)) fun r5 ⟨p0, p1, _, h5⟩ => ?_
  have p1 := p1 (by omega)
  exact Def.idx p0 p1 fun x _ _ => hJ _ ⟨_, _, _, h5.le (by omega), rfl⟩
theorem foHits_same (N : Nat) (l : List EHit) (h : l.length < N) (hl : l.length ≤ 1000000) : l_foHits_m N l l = some true := by
 refine Def.get ?_
 unfold l_foHits_m
 rw [zb rfl, zn, ze]
 refine Def.upto l.length (fun n v => v = (l, l, (n : Int))) (fun go v hv => ?_) (fun go n v hn hv hgo => ?_) N 0 _ (zaf _) rfl (by omega)
 ·subst hv
  dsimp only
  rw [zd (zm _), ze]
  exact Def.ret rfl
 ·subst hv
  dsimp only
  rw [zb (by omega : (n : Int) < (l.length : Int)), zg, idx_at hn, za, za, zb rfl, zb rfl, Bool.and_self, zn, ze, zf (fits_nat (n := n) (by omega))]
  exact hgo _ (by rw [cast_succ'])
theorem segLongC_spec (N : Nat) {c : EConf} {s : ESeg} (g : GoodS N c s) (field : List UInt8) (id : Int) : i_SegLong_m N c.1 c.2 s.1 s.2 field id = some (long c s.1 field id : Int) := by
 unfold i_SegLong_m
 rw [segOk_spec N g.big g.top c g.oc s g.od (by have := g.dok.few; omega), za, g.ok, zn, ze, segLong_spec N g, za]
theorem segPostsC_spec (N : Nat) {c : EConf} {s : ESeg} (g : GoodS N c s) (field term : List UInt8) : i_SegPosts_m N c.1 c.2 s.1 s.2 field term = some (postsP s.2 field term) := by
 have hM := g.m
 have hN := g.top
 have hsl := g.small.1
 have hpl := postsP_len g.small field term
 have hpe : ∀ p, p ∈ postsP s.2 field term → p.2.length ≤ 7680 := fun p hp => by
  unfold postsP at hp
  cases hf : s.2.find? fun e => decide (e.1 = field) && decide (e.2.1 = term) with
  | none => rw [hf] at hp; cases hp
  | some e => rw [hf] at hp; exact (g.small.2 e (zbe hf)).2 p hp
 refine Def.get ?_
 unfold i_SegPosts_m
 rw [segOk_spec N g.big g.top c g.oc s g.od (by have := g.dok.few; omega), za, g.ok, zn, ze, segPosts_spec N (s.1, s.2) field term (by show s.2.length < N; omega) hN, za]
 dsimp only
 generalize postsP s.2 field term = ps at *
 refine Def.upto ps.length (fun n v => v = (ps.take n, ps, (ps.length : Int), (n : Int))) (fun go v hv => ?_) (fun go n v hn hv hgo => ?_) N 0 _ (zaf _) rfl (by omega)
 ·subst hv
  dsimp only
  rw [zd (zm _), ze, zq]
  exact Def.ret rfl
 ·subst hv
  dsimp only
  have hp := hpe _ (zr hn)
  rw [zb (by omega : (n : Int) < (ps.length : Int)), zg, idx_at hn, za, zf (room_of (by simp only [zac]; omega) (by simp only [zac]; omega)), zf (room_of (by rw [zah]; simp only [zi, zac]; omega) (by rw [zah]; simp only [zi, zac]; omega)), zf (fits_nat (n := n) (by omega)), zaW]
  exact hgo _ (by rw [zo hn, cast_succ'])
theorem foAt_spec (N : Nat) (ps : List EPost) (id : Int) (h : ps.length < N) (hN : N ≤ 16777216) : l_foAt_m N ps id = some (atP ps id) := by
 unfold l_foAt_m atP
 refine scan_find _ ps (fun n => (ps, id, (n : Int))) (fun p => decide (p.1 = id)) (·.2) [] _ _ rfl (by cases ps.find? fun p => decide (p.1 = id) <;> rfl) (fun go => ?_) (fun go n hn => ?_) N h
 ·dsimp only
  rw [zd (zm _), ze]
 ·dsimp only
  rw [zb (by omega : (n : Int) < (ps.length : Int)), zg, idx_at hn, za, za, zf (fits_nat (n := n) (by omega)), cast_succ']
theorem long_at (c : EConf) {docs : List EDoc} (hd : DOk docs) (field : List UInt8) (n : Nat) (hn : n < docs.length) : long c docs field docs[n].1 = tl c field docs[n] := by
 have hmem : docs[n] ∈ docs := zr hn
 unfold long docOf
 have : (docs.find? fun d => decide (d.1 = docs[n].1)) = some docs[n] := by
  cases hfd : docs.find? fun d => decide (d.1 = docs[n].1) with
  | none => have := List.find?_eq_none.1 hfd _ hmem; simp at this
  | some d =>
   have h1 : d.1 = docs[n].1 := of_decide_eq_true (List.find?_some (p := fun d : EDoc => decide (d.1 = docs[n].1)) hfd)
   obtain ⟨m, hm, rfl⟩ := zav.1 (zbe hfd)
   have hp := za2.1 hd.inn.ids
   rcases zbl m n with hlt | hlt | hlt
   ·have := hp m n hm hn hlt; omega
   ·subst hlt; rfl
   ·have := hp n m hn hm hlt; omega
 rw [this]
theorem foPoints_spec (N : Nat) {c : EConf} {s : ESeg} (g : GoodS N c s) (field term : List UInt8) (id : Int) : l_foPoints_m N c.1 c.2 s.1 s.2 field term id = some (ptsF c s.1 field term id : Int) := by
 have hM := g.m
 have hN := g.top
 have hsl := g.small.1
 have hfew := g.dok.few
 have hpl := postsP_len g.small field term
 have hf := fun h => pts_fair c g.dok field term id h
 have hat := atP_eq c (field, term) id g.dok.inn.ids
 rw [← postsP_eq c g.dok, ← g.ent] at hat
 refine Def.get ?_
 unfold l_foPoints_m ptsF
 rw [segPostsC_spec N g, za, foAt_spec N _ id (by omega) hN, za, hat]
 by_cases h : (atS c s.1 (field, term) id).length = 0
 ·rw [zb (by omega), zg, zf h]
  exact Def.ret rfl
 ·have hq := hf h
  have htl : ∀ n, sumL ((s.1.take n).map (tl c field)) ≤ 16 * 80 := fun n => by
   refine zau (sumL_le 80 _ fun x hx => ?_) (zag 80 ?_)
   ·obtain ⟨d, hd, rfl⟩ := zab.1 hx
    exact tl_le c g.dok field (zaP hd)
   ·rw [zar, zah]; omega
  have hps : (postsP s.2 field term).length = (postsS c s.1 (field, term)).length := by rw [g.ent, postsP_eq c g.dok]
  rw [zd (by omega), ze, zu h]
  generalize atS c s.1 (field, term) id = at' at *
  generalize postsP s.2 field term = ps at *
  refine Def.upto s.1.length (fun n v => v = (field, id, ps, at', ((sumL ((s.1.take n).map (tl c field)) : Nat) : Int), (n : Int), c.1, c.2, s.1, s.2)) (fun go v hv => ?_) (fun go n v hn hv hgo => ?_) N 0 _ (zaf _) rfl (by omega)
  ·subst hv
   dsimp only
   rw [zd (zm _), ze, zq, segLongC_spec N g, za, hps, show sumL (s.1.map (tl c field)) = total c s.1 field from rfl, termScore_spec N hM hq, za]
   dsimp only
   rw [worth_impl N hM hq, za]
   exact Def.ret rfl
  ·subst hv
   dsimp only
   have hl1 := htl n
   have htn := tl_le c g.dok field (zr hn)
   rw [zb (by omega : (n : Int) < (s.1.length : Int)), zg, idx_at hn, za, segLongC_spec N g, za, long_at c g.dok field n hn, zf (fits_abs (by omega) (by omega)), zf (fits_nat (n := n) (by omega))]
   refine hgo _ ?_
   rw [zo hn, zaK, sumL_append, cast_succ', zbC]
   rfl
end Go.Proofs.YtcjbjmbialienaaGreatDoor
namespace Go.Proofs.YtcjbjmbialienaaGreatDoor
open Go.RowKit
def docIn (d : Int) (xs : List EHit) : Bool := xs.any fun x => decide (x.1 = d)
def findDoc (d : Int) : List EHit → Int → Int
 | [], _ => -1
 | x :: xs, i => if x.1 = d then i else findDoc d xs (i + 1)
theorem findDoc_pos (d : Int) : ∀ (xs : List EHit) (i : Int), 0 ≤ i → (decide (0 ≤ findDoc d xs i)) = docIn d xs
 | [], i, _ => rfl
 | x :: xs, i, h => by
  simp only [findDoc, docIn, List.any_cons]
  by_cases e : x.1 = d
  ·simp [e, h]
  ·simp only [e, if_false, decide_false, zbf]
   exact findDoc_pos d xs (i + 1) (by omega)
theorem hasDoc_spec (N : Nat) (xs : List EHit) (d : Int) (h : xs.length < N) (hl : (xs.length : Int) ≤ 9223372036854775806) : i_hasDoc_m N xs d = some (docIn d xs) := by
 have h1 : k_slices_IndexFunc_200_m N xs d = some (findDoc d xs 0) := by
  unfold k_slices_IndexFunc_200_m
  refine (iter_scan _ xs.length (fun n => (xs, d, (xs.length : Int), (n : Int))) (fun n => some (findDoc d (xs.drop n) n)) (fun go => ?_) (fun go n hn hgo => ?_) N 0 (zaf _) (by omega)).trans (by simp)
  ·simp [findDoc]
  ·have hn' : (n : Int) < (xs.length : Int) := by omega
   dsimp only
   rw [zb hn', zg, idx_at hn, za, i_hasDoc_1_m, za, zan hn]
   by_cases hx : xs[n].1 = d
   ·rw [zb hx, zg, findDoc, zf hx]
   ·rw [zd hx, ze, zf (fits_nat (n := n) (by omega)), findDoc, zu hx]
    simp only [cast_succ'] at hgo
    exact hgo
 simp only [i_hasDoc_m, k_slices_ContainsFunc_50_m, h1, za, findDoc_pos d xs 0 (zbD _)]
theorem hitsOk_true (N : Nat) (hM : 1048576 < N) (L : List EHit) (hl : L.length ≤ 16) (hp : L.Pairwise fun a b => ltH a b = true) (hd : DistH L) (hv : ∀ x, x ∈ L → 1 ≤ x.1 ∧ x.1 ≤ 9999 ∧ 1 ≤ x.2) : i_HitsOk_m N L = some true := by
 refine Def.get ?_
 unfold i_HitsOk_m
 refine Def.upto L.length (fun n v => v = (L, L, (L.length : Int), (n : Int))) (fun go v hv => ?_) (fun go n v hn hv' hgo => ?_) N 0 _ (zaf _) rfl (by omega)
 ·subst hv
  dsimp only
  rw [zd (zm _), ze, zb (by omega)]
  exact Def.ret rfl
 ·subst hv'
  dsimp only
  have hx := hv L[n] (zr hn)
  have hnd : docIn L[n].1 (L.take n) = false := by
   unfold docIn
   rw [List.any_eq_false]
   intro y hy
   obtain ⟨j, hj, rfl⟩ := zav.1 hy
   rw [zah] at hj
   rw [List.getElem_take]
   have := za2.1 hd j n (by omega) hn (by omega)
   simp [this]
  rw [zb (by omega : (n : Int) < (L.length : Int)), zg, idx_at hn, za, within_spec, za, zb hx.1, zb hx.2.1, zaV, zn, ze, zd (by omega), ze, cut_take L n (by omega), za, hasDoc_spec N _ _ (by rw [zah]; omega) (by rw [zah]; omega), za, hnd, ze]
  have hnx : Def (if fits ((n : Int) + 1) then go (L, L, (L.length : Int), (n : Int) + 1) else none) fun r => r = true := by
   rw [zf (fits_nat (n := n) (by omega))]
   exact hgo _ (by rw [cast_succ'])
  refine Def.dif (fun e1 => ?_) (fun _ => hnx)
  have hi : ((n : Int) - 1) = ((n - 1 : Nat) : Int) := by omega
  have hlt := za2.1 hp (n - 1) n (by omega) hn (by omega)
  rw [zf (fits_abs (by omega) (by omega)), hi, idx_at (by omega : n - 1 < L.length), za]
  refine Def.bind (hitOrder_cmp N (by omega) (L[n - 1]'(by omega)) L[n]) fun r hr => ?_
  rw [hlt, zw] at hr
  rw [zd (by omega), ze]
  exact hnx
theorem okDoc_id {d : EDoc} (h : okDoc d = true) : 1 ≤ d.1 ∧ d.1 ≤ 9999 := by
 unfold okDoc at h
 simp only [zj, zw] at h
 omega
theorem fnLikeTop_gen (N : Nat) (hM : Sm < N) (hN : N ≤ 16777216) (code : List Int) (hb : Bs code) : l_FnLikeTop_m N code = some true := by
 have hM' : 1048576 < N := hM
 refine Def.get ?_
 unfold l_FnLikeTop_m
 refine Def.dif (fun e => Def.ret rfl) (fun e => ?_)
 refine Def.bind (P := fun r => Drawn (r.1, r.2.1) (r.2.2.1, r.2.2.2.1)) ?_ fun r d => ?_
 ·unfold s_DrawLikeTop_m
  exact Def.bind (drawTerms_def N hM' hb) fun r d => Def.ret d
 obtain ⟨c1, c2, s1, s2, field, id, many⟩ := r
 dsimp only at d ⊢
 have t1 := likeTop_i N hM hN (c1, c2) d.conf (s1, s2) d.docs d.few field id many
 have t2 := likeTop_s N hM hN (c1, c2) d.conf (s1, s2) d.docs d.few field id many
 have t3 := segOk_spec N hM hN (c1, c2) d.conf (s1, s2) d.docs d.few
 have t6 := likeTerms_i N hM hN (c1, c2) d.conf (s1, s2) d.docs d.few field id many
 dsimp only at t1 t2 t3 t6
 cases hbad : okSeg (c1, c2) (s1, s2) && manyOk many with
 | false =>
  have hR : likeTopR (c1, c2) (s1, s2) field id many = [] := by unfold likeTopR; rw [hbad]; rfl
  rw [hR] at t1 t2
  have tf := foHits_same N [] (by simp; omega) (by simp)
  rw [t1, za, t2, za, tf, za, zn, ze, t3, za]
  cases h1 : okSeg (c1, c2) (s1, s2) with
  | false =>
   rw [zaI, zg, za, tf, za]
   exact Def.ret rfl
  | true =>
   rw [h1, zaj] at hbad
   unfold manyOk at hbad
   rw [zn, ze]
   refine Def.dif (fun _ => by rw [za, tf, za]; exact Def.ret rfl) (fun e1 => ?_)
   refine Def.dif (fun _ => by rw [za, tf, za]; exact Def.ret rfl) (fun e2 => ?_)
   rw [zb (by omega), zb (by omega)] at hbad
   cases hbad
 | true =>
 rw [zj] at hbad
 obtain ⟨h1, h2⟩ := hbad
 obtain ⟨m, rfl, m1, m4⟩ := many_nat h2
 have g : GoodS N (c1, c2) (s1, s2) := ⟨hM, hN, d.conf, d.docs, h1⟩
 have hR : likeR (c1, c2) (s1, s2) field id m = (likeF (c1, c2) s1 field id).take m := by unfold likeR; rw [h1, h2]; rfl
 have hT : likeTopR (c1, c2) (s1, s2) field id m = sortH (hitsOf (c1, c2) s1 field ((likeF (c1, c2) s1 field id).take m) id) := by unfold likeTopR; rw [h1, h2]; rfl
 rw [hR] at t6
 rw [hT] at t1 t2
 have t5 : ∀ t i, l_foPoints_m N c1 c2 s1 s2 field t i = some (ptsF (c1, c2) s1 field t i : Int) := fun t i => foPoints_spec N g field t i
 have htl : ((likeF (c1, c2) s1 field id).take m).length ≤ 4 := by rw [zah]; omega
 generalize (likeF (c1, c2) s1 field id).take m = ts at *
 have hdok : DOk s1 := g.dok
 have hfew := hdok.few
 have hdd := hitsOf_dist (c1, c2) hdok field ts id
 have hll := hitsOf_len (c1, c2) s1 s1 field ts id
 obtain ⟨so1, so2⟩ := sortH_ok hdd
 have hsl : (sortH (hitsOf (c1, c2) s1 field ts id)).length = (hitsOf (c1, c2) s1 field ts id).length := by rw [show sortH _ = List.foldl insH [] _ from rfl, sortH_len]; simp
 have hHl : (hitsOf (c1, c2) s1 field ts id).length ≤ 16 := by unfold hitsOf; omega
 have hsd : DistH (sortH (hitsOf (c1, c2) s1 field ts id)) := by
  refine so1.imp_of_mem fun {a b} ha hb hab e => ?_
  have ha := (so2 a).1 ha
  have hb := (so2 b).1 hb
  have : a = b := by
   obtain ⟨i, hi, rfl⟩ := zav.1 ha
   obtain ⟨j, hj, rfl⟩ := zav.1 hb
   have hpd := za2.1 hdd
   rcases zbl i j with h | h | h
   ·exact absurd e (hpd i j hi hj h)
   ·subst h; rfl
   ·exact absurd e.symm (hpd j i hj hi h)
  rw [this, ltH_irrefl] at hab
  cases hab
 have hval : ∀ x, x ∈ sortH (hitsOf (c1, c2) s1 field ts id) → 1 ≤ x.1 ∧ x.1 ≤ 9999 ∧ 1 ≤ x.2 := fun x hx => by
  obtain ⟨d', hdm, hxd⟩ := zbs.1 ((so2 x).1 hx)
  unfold hitOf at hxd
  split at hxd
  ·rename_i hc
   cases hxd
   have := okDoc_id (okDoc_each (okSeg_docs h1) d' hdm)
   dsimp only
   omega
  ·cases hxd
 have t8 := hitsOk_true N hM' _ (by omega) so1 hsd hval
 have hin : ∀ n (hn : n < s1.length), 0 < sumPts (c1, c2) s1 field ts s1[n].1 → s1[n].1 ≠ id → (s1[n].1, ((sumPts (c1, c2) s1 field ts s1[n].1 : Nat) : Int)) ∈ sortH (hitsOf (c1, c2) s1 field ts id) := fun n hn a b =>
  (so2 _).2 (zbs.2 ⟨s1[n], zr hn, by unfold hitOf; rw [zf ⟨a, b⟩]⟩)
 have hcount : (hitsOf (c1, c2) s1 field ts id).length = (s1.filterMap (hitOf (c1, c2) s1 field ts id)).length := rfl
 generalize sortH (hitsOf (c1, c2) s1 field ts id) = L at *
 rw [hcount] at hsl
 have tf := foHits_same N L (by omega) (by omega)
 rw [t1, za, t2, za, tf, za, zn, ze, t3, za, h1, zn, ze, zd (by omega), ze, zd (by omega), ze, t6, za]
 refine Def.upto s1.length (fun n v => v = (field, id, L, ts, (((s1.take n).filterMap (hitOf (c1, c2) s1 field ts id)).length : Int), (n : Int), c1, c2, s1, s2)) (fun go v hv => ?_) (fun go n v hn hv hgo => ?_) N 0 _ (zaf _) rfl (by omega)
 ·subst hv
  dsimp only
  rw [zd (zm _), ze, t8, za, zg, zq, zb (by omega)]
  exact Def.ret rfl
 ·subst hv
  dsimp only
  have hst := filterMap_step (hitOf (c1, c2) s1 field ts id) s1 n hn
  have hcl := hitsOf_len (c1, c2) s1 (s1.take n) field ts id
  rw [zah] at hcl
  generalize hacc : (s1.take n).filterMap (hitOf (c1, c2) s1 field ts id) = acc at *
  generalize (s1.take (n + 1)).filterMap (hitOf (c1, c2) s1 field ts id) = acc' at *
  rw [zb (by omega : (n : Int) < (s1.length : Int)), zg]
  refine Def.upto ts.length (fun j v => v = (field, id, L, ts, (acc.length : Int), (n : Int), ((sumPts (c1, c2) s1 field (ts.take j) s1[n].1 : Nat) : Int), (j : Int), c1, c2, s1, s2)) (fun go2 v hv => ?_) (fun go2 j v hj hv hgo2 => ?_) N 0 _ (zaf _) rfl (by omega)
  ·subst hv
   dsimp only
   rw [zd (zm _), ze, zq]
   unfold hitOf at hst
   refine Def.dif (fun e1 => ?_) (fun e1 => ?_)
   ·rw [zu (fun h => by omega)] at hst
    rw [zf (fits_nat (n := n) (by omega))]
    exact hgo _ (by rw [hst, zat, cast_succ'])
   ·rw [idx_at hn, za]
    refine Def.dif (fun e2 => ?_) (fun e2 => ?_)
    ·rw [zu (fun h => h.2 e2)] at hst
     rw [zf (fits_nat (n := n) (by omega))]
     exact hgo _ (by rw [hst, zat, cast_succ'])
    ·rw [zf ⟨by omega, e2⟩] at hst
     have hmem := hin n hn (by omega) e2
     rw [zf (fits_nat (n := acc.length) (by omega)), zd e2]
     refine Def.upto L.length (fun k v => ∃ is : Bool, v = (field, id, L, ts, (acc.length : Int) + 1, (n : Int), ((sumPts (c1, c2) s1 field ts s1[n].1 : Nat) : Int), is, (k : Int), false, c1, c2, s1, s2) ∧ ((s1[n].1, ((sumPts (c1, c2) s1 field ts s1[n].1 : Nat) : Int)) ∈ L.take k → is = true)) (fun go3 v hv => ?_) (fun go3 k v hk hv hgo3 => ?_) N 0 _ (zaf _) ⟨false, rfl, fun h => by simp at h⟩ (by omega)
     ·obtain ⟨is, rfl, hi⟩ := hv
      rw [zq] at hi
      dsimp only
      rw [zd (zm _), ze, hi hmem, zn, ze, zf (fits_nat (n := n) (by omega))]
      exact hgo _ (by rw [hst, zam, cast_succ', zbC]; rfl)
     ·obtain ⟨is, rfl, hi⟩ := hv
      dsimp only
      rw [zb (by omega : (k : Int) < (L.length : Int)), zg]
      cases is with
      | true =>
       rw [zg, zf (fits_nat (n := k) (by omega))]
       exact hgo3 _ ⟨true, by rw [cast_succ'], fun _ => rfl⟩
      | false =>
       rw [ze, idx_at hk, za, idx_at hn, za, zf (fits_nat (n := k) (by omega))]
       refine hgo3 _ ⟨_, by rw [cast_succ'], fun h => ?_⟩
       rw [zo hk, zaB, zaD] at h
       rcases h with h | h
       ·cases hi h
       ·rw [← h, zb rfl, zb rfl]; rfl
  ·subst hv
   dsimp only
   have b1 := sumPts_le (c1, c2) hdok field (ts.take j) s1[n].1
   have b2 := ptsF_le (c1, c2) hdok field ts[j] s1[n].1
   have b3 : (ts.take j).length ≤ 4 := by rw [zah]; omega
   have b4 := zag 8800000 b3
   rw [zb (by omega : (j : Int) < (ts.length : Int)), zg, idx_at hj, za, idx_at hn, za, t5, za, zf (fits_abs (by omega) (by omega)), zf (fits_nat (n := j) (by omega))]
   exact hgo2 _ (by rw [sumPts_step (c1, c2) s1 field ts s1[n].1 j hj, cast_succ', zbC])
theorem fnLikeTop_law (x0 : List Int) (o0 : okD BigN (.sl (.int .u8)) x0) : l_FnLikeTop_m 1048700 x0 = some true :=
 fnLikeTop_gen 1048700 (by decide) (by decide) x0 fun x hx => by
  have h := o0.2 x hx
  have h1 : IntKind.u8.min ≤ x ∧ x ≤ IntKind.u8.max := h
  have e1 : IntKind.u8.min = 0 := rfl
  have e2 : IntKind.u8.max = 255 := rfl
  omega
end Go.Proofs.YtcjbjmbialienaaGreatDoor
