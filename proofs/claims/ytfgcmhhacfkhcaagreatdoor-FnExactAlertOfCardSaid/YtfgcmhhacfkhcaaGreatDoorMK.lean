/- Plain laws: the laws' own marks over string, int, Syn, Conf, Field, Attr, Doc, Post, Entry, Hit. (marks.py) -/
import Derived.Test.YtfgcmhhacfkhcaaGreatDoorFS
set_option linter.unusedVariables false
set_option linter.unusedSimpArgs false
namespace Go.Proofs.YtfgcmhhacfkhcaaGreatDoor
open Go.RowKit
theorem jhG {F : ((Int × List UInt8) → Option (List UInt8)) → (Int × List UInt8) → Option (List UInt8)} (hF : F = fun go g => match g with
    | (k2, out) =>
    (bif (decide ((0 : Int) < k2)) then
     (if 10 ≠ 0 then
      (if fits (48 + (k2.tmod 10)) then (if (bytesOf ([(IntKind.u8.wrap (48 + (k2.tmod 10)))] : List Int)).length + out.length ≤ 9223372036854775807 then
        (if 10 ≠ 0 then
         (if fits (k2.tdiv 10) then (go ((k2.tdiv 10), ((bytesOf ([(IntKind.u8.wrap (48 + (k2.tmod 10)))] : List Int)) ++ out))) else none)
         else none)
        else none) else none)
      else none)
     else
     (if ([109] : List UInt8).length + out.length ≤ 9223372036854775807 then
      (some (([109] : List UInt8) ++ out))
      else none))) : ∀ (j N : Nat) (k : Int) (out : List UInt8), 0 ≤ k → k ≤ 9223372036854775807 → k < (10 : Int) ^ j → j < N → out.length + j ≤ 1000 → Def (iter F N (k, out)) fun _ => True
 | _, 0, _, _, _, _, _, h, _ => absurd h (zbN _)
 | 0, N + 1, k, out, h0, hk, h1, h2, h3 => by
  show Def (F (iter F N) (k, out)) _
  subst hF
  dsimp only
  rw [zd (by simp at h1; omega), ze]
  exact Def.ite (by simp only [zi, zac]; omega) (Def.ret True.intro)
 | j + 1, N + 1, k, out, h0, hk, h1, h2, h3 => by
  show Def (F (iter F N) (k, out)) _
  have ih := fun out' => jhG hF j N (k.tdiv 10) out'
  subst hF
  dsimp only
  have hp : (10 : Int) ^ (j + 1) = 10 * (10 : Int) ^ j := by rw [Int.pow_succ, Int.mul_comm]
  have hd : k.tdiv 10 = k / 10 := Int.tdiv_eq_ediv_of_nonneg h0
  have hm : k.tmod 10 = k % 10 := Int.tmod_eq_emod_of_nonneg h0
  refine Def.dif (fun e => ?_) (fun e => Def.ite (by simp only [zi, zac]; omega) (Def.ret True.intro))
  have hb : (bytesOf ([(IntKind.u8.wrap (48 + (k.tmod 10)))] : List Int)).length = 1 := by simp [bytesOf]
  refine Def.ite (by decide) (Def.ite (by unfold fits; omega) (Def.ite (by rw [hb]; omega) (Def.ite (by decide) (Def.ite ?_ ?_))))
  ·rw [hd]; unfold fits; omega
  ·refine ih _ (by omega) (by omega) (by omega) (by omega) ?_
   rw [zam, hb]; omega
def mT (N : Nat) (k : Int) : List UInt8 := (jr N k).getD []
theorem markText_spec (N : Nat) (k : Int) (h0 : 0 ≤ k) (h1 : k ≤ 1000000000000000000) (hN : 30 ≤ N) : jr N k = some (mT N k) := by
 have : Def (jr N k) fun _ => True := by
  unfold jr
  refine Def.dif (fun e => Def.ret True.intro) (fun e => ?_)
  exact jhG rfl 19 N k [] h0 (by omega) (by omega) (by omega) (by simp)
 obtain ⟨r, h, _⟩ := this
 unfold mT
 rw [h]; rfl
theorem mod_set {α : Type} (a : List α) (n : Nat) (v : α) (f : α → α) : (a.set n v).modify n f = a.set n (f v) := by
 apply zbc
 intro i
 rw [List.getElem?_modify, zbm, zbm]
 by_cases e : n = i
 ·subst e
  by_cases h : n < a.length
  ·simp [h]
  ·simp [h]
 ·simp [e]
theorem jar {α : Type} (a : List α) (n : Nat) (v w : α) : (a.set n v).set n w = a.set n w := List.set_set ..
theorem jax {α : Type} {a : List α} {n : Nat} (h : n < a.length) (f : α → α) : a.modify n f = a.set n (f a[n]) := by
 have := mod_set a n a[n] f
 rw [List.set_getElem_self] at this
 exact this
theorem jP {t : Tp} (c : t.D → Nat) (h : ∀ x, c x ≤ 8 * (tot t x + 1)) : ∀ xs : List t.D, mcnt c xs ≤ 8 * tot (.sl t) xs
 | [] => zaf _
 | x :: xs => by
  have h1 := h x
  have h2 := jP c h xs
  simp only [tot, mcnt, zi] at h2 ⊢
  omega
def mStr (N : Nat) (x : List UInt8) (k : Int) : List UInt8 := mT N k
def cStr (x : List UInt8) : Nat := 1
theorem jgx (xs : List (List UInt8)) : mcnt cStr xs ≤ 8 * tot (.sl .str) xs := jP (t := .str) cStr (fun x => by unfold cStr; omega) xs
theorem markStringS_spec (N : Nat) (hM : Sm < N) (hN : N ≤ 1099511627776) (a : List (List UInt8)) (k : Int) (hk : 0 ≤ k) (hK : k + (mcnt cStr a : Nat) ≤ 1000000000000000000) (ho : okD Sm (.sl .str) a) : jas N a k = some (k + (mcnt cStr a : Nat), jc (mStr N) cStr a k) := by
 have hM1 : 1048576 < N := hM
 unfold jas
 refine jW (mStr N) cStr N 1000000000000000000 (okD Sm .str) (fun go a k => ?_) (fun go a n hn k hn0 hx hk hK => ?_) a k hk hK (zal ho.1 hM) hN ho.2
 ·dsimp only
  rw [zd (zm _), ze]
 ·dsimp only
  unfold cStr at hK
  rw [zb (by omega : (n : Int) < (a.length : Int)), zg, markText_spec N _ (by omega) (by omega) (by omega), za, zf ⟨by omega, by first | omega | (simp only [zap, zaC]; omega)⟩, zai, zc hn, za, zf (by unfold fits; omega), zf (by unfold fits; omega)]
  refine congrArg go (Prod.ext ?_ (Prod.ext ?_ rfl))
  ·rfl
  ·rfl
theorem heldStringS_spec (N : Nat) (hM : Sm < N) (hN : N ≤ 1099511627776) (a : List (List UInt8)) (k : Int) (hk : 0 ≤ k) (hK : k + (mcnt cStr a : Nat) ≤ 1000000000000000000) (ho : okD Sm (.sl .str) a) : ja4 N (jc (mStr N) cStr a k) k = some (k + (mcnt cStr a : Nat)) := by
 have hM1 : 1048576 < N := hM
 unfold ja4
 refine jnA (mStr N) cStr N 1000000000000000000 (okD Sm .str) (fun go a k => ?_) (fun go a n hn k x hn0 hx ho hk hK => ?_) a k hk hK (zal ho.1 hM) hN ho.2
 ·dsimp only
  rw [zd (zm _), ze]
 ·dsimp only
  unfold cStr at hK
  have e0 : a[n] = mT N k := hx
  rw [zb (by omega : (n : Int) < (a.length : Int)), zg, idx_at hn, za, markText_spec N _ (by omega) (by omega) (by omega), za, zb e0, zn, ze, zf (by unfold fits; omega), zf (by unfold fits; omega)]
  rfl
def cSyn (x : ESyn) : Nat := mcnt cStr x.1 + 1
def mSyn (N : Nat) (x : ESyn) (k : Int) : ESyn := (jc (mStr N) cStr x.1 k, mT N (k + (mcnt cStr x.1 : Nat)))
theorem jmO (x : ESyn) : cSyn x ≤ 8 * (tot TSyn x + 1) := by
 have h0 := jgx x.1
 unfold cSyn
 show _ ≤ 8 * ((tot .str x.2 + tot (.sl .str) x.1) + 1)
 omega
theorem job (xs : List ESyn) : mcnt cSyn xs ≤ 8 * tot (.sl TSyn) xs := jP (t := TSyn) cSyn (fun x => jmO x) xs
theorem jlM (N : Nat) (hM : Sm < N) (hN : N ≤ 1099511627776) (a : List (ESyn)) (k : Int) (hk : 0 ≤ k) (hK : k + (mcnt cSyn a : Nat) ≤ 1000000000000000000) (ho : okD Sm (.sl TSyn) a) : jbZ N a k = some (k + (mcnt cSyn a : Nat), jc (mSyn N) cSyn a k) := by
 have hM1 : 1048576 < N := hM
 unfold jbZ
 refine jW (mSyn N) cSyn N 1000000000000000000 (okD Sm TSyn) (fun go a k => ?_) (fun go a n hn k hn0 hx hk hK => ?_) a k hk hK (zal ho.1 hM) hN ho.2
 ·dsimp only
  rw [zd (zm _), ze]
 ·dsimp only
  unfold cSyn at hK
  rw [zb (by omega : (n : Int) < (a.length : Int)), zg, zf ⟨by omega, by first | omega | (simp only [zap, zaC]; omega)⟩, zai, zc hn, za, markStringS_spec N hM hN _ _ (by omega) (by omega) hx.1, za, markText_spec N _ (by omega) (by omega) (by omega), za, zf ⟨by omega, by first | omega | (simp only [zap, zaC]; omega)⟩, za, zf (by unfold fits; omega), zf (by unfold fits; omega)]
  refine congrArg go (Prod.ext ?_ (Prod.ext ?_ rfl))
  ·dsimp only
   simp only [mod_set, jar, jax hn, zaG]
   rfl
  ·show _ = k + ((mcnt cStr a[n].1 + 1 : Nat) : Int)
   dsimp only
   omega
def jGS (x : EConf) : Nat := mcnt cStr x.1 + mcnt cSyn x.2
def jha (N : Nat) (x : EConf) (k : Int) : EConf := (jc (mStr N) cStr x.1 k, jc (mSyn N) cSyn x.2 (k + (mcnt cStr x.1 : Nat)))
theorem cConf_le (x : EConf) : jGS x ≤ 8 * (tot TConf x + 1) := by
 have h0 := jgx x.1
 have h1 := job x.2
 unfold jGS
 show _ ≤ 8 * ((tot (.sl TSyn) x.2 + tot (.sl .str) x.1) + 1)
 omega
theorem markConf_spec (N : Nat) (hM : Sm < N) (hN : N ≤ 1099511627776) (x : EConf) (k : Int) (hk : 0 ≤ k) (hK : k + (jGS x : Nat) ≤ 1000000000000000000) (ho : okD Sm TConf x) : jb0 N x.1 x.2 k = some (k + (jGS x : Nat), (jha N x k).1, (jha N x k).2) := by
 have hM1 : 1048576 < N := hM
 unfold jGS at hK
 unfold jb0
 rw [markStringS_spec N hM hN _ _ (by omega) (by omega) ho.1, za, jlM N hM hN _ _ (by omega) (by omega) ho.2, za]
 refine congrArg some (Prod.ext ?_ rfl)
 show _ = k + ((mcnt cStr x.1 + mcnt cSyn x.2 : Nat) : Int)
 dsimp only
 omega
def ju (x : EField) : Nat := 1 + 1
def jc3 (N : Nat) (x : EField) (k : Int) : EField := (mT N k, mT N (k + 1))
theorem jlQ (x : EField) : ju x ≤ 8 * (tot jj x + 1) := by
 unfold ju
 show _ ≤ 8 * ((tot .str x.2 + tot .str x.1) + 1)
 omega
theorem jkl (xs : List EField) : mcnt ju xs ≤ 8 * tot (.sl jj) xs := jP (t := jj) ju (fun x => jlQ x) xs
theorem jqo (N : Nat) (hM : Sm < N) (hN : N ≤ 1099511627776) (a : List (EField)) (k : Int) (hk : 0 ≤ k) (hK : k + (mcnt ju a : Nat) ≤ 1000000000000000000) (ho : okD Sm (.sl jj) a) : jbW N a k = some (k + (mcnt ju a : Nat), jc (jc3 N) ju a k) := by
 have hM1 : 1048576 < N := hM
 unfold jbW
 refine jW (jc3 N) ju N 1000000000000000000 (okD Sm jj) (fun go a k => ?_) (fun go a n hn k hn0 hx hk hK => ?_) a k hk hK (zal ho.1 hM) hN ho.2
 ·dsimp only
  rw [zd (zm _), ze]
 ·dsimp only
  unfold ju at hK
  rw [zb (by omega : (n : Int) < (a.length : Int)), zg, markText_spec N _ (by omega) (by omega) (by omega), za, zf ⟨by omega, by first | omega | (simp only [zap, zaC]; omega)⟩, zai, zc hn, za, zf (by unfold fits; omega), markText_spec N _ (by omega) (by omega) (by omega), za, zf ⟨by omega, by first | omega | (simp only [zap, zaC]; omega)⟩, zc (by simp only [zap]; exact hn), zaG, za, zf (by unfold fits; omega), zf (by unfold fits; omega)]
  refine congrArg go (Prod.ext ?_ (Prod.ext ?_ rfl))
  ·dsimp only
   simp only [mod_set, jar, jax hn, zaG]
   rfl
  ·show _ = k + ((1 + 1 : Nat) : Int)
   dsimp only
   omega
def jz (x : EAttr) : Nat := 1 + 1
def jdk (N : Nat) (x : EAttr) (k : Int) : EAttr := (mT N k, (k + 1))
theorem jmS (x : EAttr) : jz x ≤ 8 * (tot ji x + 1) := by
 unfold jz
 show _ ≤ 8 * ((tot (.int .i64) x.2 + tot .str x.1) + 1)
 omega
theorem jk6 (xs : List EAttr) : mcnt jz xs ≤ 8 * tot (.sl ji) xs := jP (t := ji) jz (fun x => jmS x) xs
theorem jkW (N : Nat) (hM : Sm < N) (hN : N ≤ 1099511627776) (a : List (EAttr)) (k : Int) (hk : 0 ≤ k) (hK : k + (mcnt jz a : Nat) ≤ 1000000000000000000) (ho : okD Sm (.sl ji) a) : jbP N a k = some (k + (mcnt jz a : Nat), jc (jdk N) jz a k) := by
 have hM1 : 1048576 < N := hM
 unfold jbP
 refine jW (jdk N) jz N 1000000000000000000 (okD Sm ji) (fun go a k => ?_) (fun go a n hn k hn0 hx hk hK => ?_) a k hk hK (zal ho.1 hM) hN ho.2
 ·dsimp only
  rw [zd (zm _), ze]
 ·dsimp only
  unfold jz at hK
  rw [zb (by omega : (n : Int) < (a.length : Int)), zg, markText_spec N _ (by omega) (by omega) (by omega), za, zf ⟨by omega, by first | omega | (simp only [zap, zaC]; omega)⟩, zai, zc hn, za, zf (by unfold fits; omega), zf ⟨by omega, by first | omega | (simp only [zap, zaC]; omega)⟩, zc (by simp only [zap]; exact hn), zaG, za, zf (by unfold fits; omega), zf (by unfold fits; omega)]
  refine congrArg go (Prod.ext ?_ (Prod.ext ?_ rfl))
  ·dsimp only
   simp only [mod_set, jar, jax hn, zaG]
   rfl
  ·show _ = k + ((1 + 1 : Nat) : Int)
   dsimp only
   omega
def cDoc (x : EDoc) : Nat := 1 + mcnt ju x.2.1 + mcnt jz x.2.2
theorem cDoc_le (x : EDoc) : cDoc x ≤ 8 * (tot TDoc x + 1) := by
 have h1 := jkl x.2.1
 have h2 := jk6 x.2.2
 unfold cDoc
 show _ ≤ 8 * (((tot (.sl ji) x.2.2 + tot (.sl jj) x.2.1) + tot (.int .i64) x.1) + 1)
 omega
theorem markDoc_def (N : Nat) (hM : Sm < N) (hN : N ≤ 1099511627776) (x : EDoc) (k : Int) (hk : 0 ≤ k) (hK : k + (cDoc x : Nat) ≤ 1000000000000000000) (ho : okD Sm TDoc x) : Def (jGT N x.1 x.2.1 x.2.2 k) fun r => 0 ≤ r.1 := by
 have hM1 : 1048576 < N := hM
 unfold cDoc at hK
 unfold jGT
 rw [jqo N hM hN _ _ (by omega) (by omega) ho.2.1, za, jkW N hM hN _ _ (by omega) (by omega) ho.2.2, za]
 exact Def.ret (by dsimp only; omega)
end Go.Proofs.YtfgcmhhacfkhcaaGreatDoor
