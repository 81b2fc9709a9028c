import Derived.Test.YtfgcmhhacfkhcaaGreatDoorG1A
set_option linter.unusedVariables false
set_option linter.unusedSimpArgs false
namespace Go.Proofs.YtfgcmhhacfkhcaaGreatDoor
open Go.RowKit
open Option renaming bind → oB
def i_Seg_put_m (N : Nat) (f : List UInt8) (h : List UInt8) (i : Int) (e : Int) (q : List Z2) (a : List Z1) : Option ((List Z2) × (List Z1)) :=
 (oB (k_slices_IndexFunc_146_m N a (f, h, i)) fun d => bif decide (d < 0) then if room a.length ([(f, h, ([] : Z4))] : List Z1).length 56 then if 0 ≤ (a.length : Int) ∧ (a.length : Int) < ((a ++ ([(f, h, ([] : Z4))] : List Z1)).length : Int) then oB ((a ++ ([(f, h, ([] : Z4))] : List Z1))[(a.length : Int).toNat]?) fun c => (if fits ((c.2.2.length : Int) - 1) then bif decide (((c.2.2.length : Int) - 1) < 0) then oB ((a ++ ([(f, h, ([] : Z4))] : List Z1))[(a.length : Int).toNat]?) fun W => (if (a.length : Int).toNat = (a.length : Int).toNat then if room c.2.2.length ([(e, ([] : List Int))] : Z4).length 32 then if (a.length : Int).toNat = (a.length : Int).toNat then oB ((a ++ ([(f, h, ([] : Z4))] : List Z1))[(a.length : Int).toNat]?) fun k => (if fits (((c.2.2.length : Int) - 1) + 1) then oB (((a ++ ([(f, h, ([] : Z4))] : List Z1)).set (a.length : Int).toNat (k.1, k.2.1, (c.2.2 ++ ([(e, ([] : List Int))] : Z4))))[(a.length : Int).toNat]?) fun r => (oB (r.2.2[(((c.2.2.length : Int) - 1) + 1).toNat]?) fun E => oB (((a ++ ([(f, h, ([] : Z4))] : List Z1)).set (a.length : Int).toNat (k.1, k.2.1, (c.2.2 ++ ([(e, ([] : List Int))] : Z4))))[(a.length : Int).toNat]?) fun af => if (a.length : Int).toNat = (a.length : Int).toNat then oB (((a ++ ([(f, h, ([] : Z4))] : List Z1)).set (a.length : Int).toNat (k.1, k.2.1, (c.2.2 ++ ([(e, ([] : List Int))] : Z4))))[(a.length : Int).toNat]?) fun ag => (if (a.length : Int).toNat = (a.length : Int).toNat then if 0 ≤ (((c.2.2.length : Int) - 1) + 1) ∧ (((c.2.2.length : Int) - 1) + 1) < (r.2.2.length : Int) then oB (r.2.2[(((c.2.2.length : Int) - 1) + 1).toNat]?) fun al => (if (((c.2.2.length : Int) - 1) + 1).toNat = (((c.2.2.length : Int) - 1) + 1).toNat then if room E.2.length ([i] : List Int).length 8 then if 0 ≤ (((c.2.2.length : Int) - 1) + 1) ∧ (((c.2.2.length : Int) - 1) + 1) < (r.2.2.length : Int) then if (((c.2.2.length : Int) - 1) + 1).toNat = (((c.2.2.length : Int) - 1) + 1).toNat then oB (r.2.2[(((c.2.2.length : Int) - 1) + 1).toNat]?) fun Q => (some (q, (((a ++ ([(f, h, ([] : Z4))] : List Z1)).set (a.length : Int).toNat (k.1, k.2.1, (c.2.2 ++ ([(e, ([] : List Int))] : Z4)))).modify ((a.length : Int).toNat) fun u => (u.1, u.2.1, (r.2.2.set (((c.2.2.length : Int) - 1) + 1).toNat (Q.1, (E.2 ++ ([i] : List Int)))))))) else none else none else none else none) else none else none) else none) else none) else none else none else none) else (oB ((a ++ ([(f, h, ([] : Z4))] : List Z1))[(a.length : Int).toNat]?) fun ap => if (a.length : Int).toNat = (a.length : Int).toNat then if 0 ≤ ((c.2.2.length : Int) - 1) ∧ ((c.2.2.length : Int) - 1) < (c.2.2.length : Int) then oB (c.2.2[((c.2.2.length : Int) - 1).toNat]?) fun K => (bif !decide (K.1 = e) then oB ((a ++ ([(f, h, ([] : Z4))] : List Z1))[(a.length : Int).toNat]?) fun V => (if (a.length : Int).toNat = (a.length : Int).toNat then if room c.2.2.length ([(e, ([] : List Int))] : Z4).length 32 then if (a.length : Int).toNat = (a.length : Int).toNat then oB ((a ++ ([(f, h, ([] : Z4))] : List Z1))[(a.length : Int).toNat]?) fun l => (if fits (((c.2.2.length : Int) - 1) + 1) then oB (((a ++ ([(f, h, ([] : Z4))] : List Z1)).set (a.length : Int).toNat (l.1, l.2.1, (c.2.2 ++ ([(e, ([] : List Int))] : Z4))))[(a.length : Int).toNat]?) fun p => (oB (p.2.2[(((c.2.2.length : Int) - 1) + 1).toNat]?) fun v => oB (((a ++ ([(f, h, ([] : Z4))] : List Z1)).set (a.length : Int).toNat (l.1, l.2.1, (c.2.2 ++ ([(e, ([] : List Int))] : Z4))))[(a.length : Int).toNat]?) fun am => if (a.length : Int).toNat = (a.length : Int).toNat then oB (((a ++ ([(f, h, ([] : Z4))] : List Z1)).set (a.length : Int).toNat (l.1, l.2.1, (c.2.2 ++ ([(e, ([] : List Int))] : Z4))))[(a.length : Int).toNat]?) fun ad => (if (a.length : Int).toNat = (a.length : Int).toNat then if 0 ≤ (((c.2.2.length : Int) - 1) + 1) ∧ (((c.2.2.length : Int) - 1) + 1) < (p.2.2.length : Int) then oB (p.2.2[(((c.2.2.length : Int) - 1) + 1).toNat]?) fun aa => (if (((c.2.2.length : Int) - 1) + 1).toNat = (((c.2.2.length : Int) - 1) + 1).toNat then if room v.2.length ([i] : List Int).length 8 then if 0 ≤ (((c.2.2.length : Int) - 1) + 1) ∧ (((c.2.2.length : Int) - 1) + 1) < (p.2.2.length : Int) then if (((c.2.2.length : Int) - 1) + 1).toNat = (((c.2.2.length : Int) - 1) + 1).toNat then oB (p.2.2[(((c.2.2.length : Int) - 1) + 1).toNat]?) fun L => (some (q, (((a ++ ([(f, h, ([] : Z4))] : List Z1)).set (a.length : Int).toNat (l.1, l.2.1, (c.2.2 ++ ([(e, ([] : List Int))] : Z4)))).modify ((a.length : Int).toNat) fun B => (B.1, B.2.1, (p.2.2.set (((c.2.2.length : Int) - 1) + 1).toNat (L.1, (v.2 ++ ([i] : List Int)))))))) else none else none else none else none) else none else none) else none) else none) else none else none else none) else if (a.length : Int).toNat = (a.length : Int).toNat then oB (c.2.2[((c.2.2.length : Int) - 1).toNat]?) fun w => (oB ((a ++ ([(f, h, ([] : Z4))] : List Z1))[(a.length : Int).toNat]?) fun ak => if (a.length : Int).toNat = (a.length : Int).toNat then oB ((a ++ ([(f, h, ([] : Z4))] : List Z1))[(a.length : Int).toNat]?) fun aq => (if (a.length : Int).toNat = (a.length : Int).toNat then if 0 ≤ ((c.2.2.length : Int) - 1) ∧ ((c.2.2.length : Int) - 1) < (c.2.2.length : Int) then oB (c.2.2[((c.2.2.length : Int) - 1).toNat]?) fun ah => (if ((c.2.2.length : Int) - 1).toNat = ((c.2.2.length : Int) - 1).toNat then if room w.2.length ([i] : List Int).length 8 then if 0 ≤ ((c.2.2.length : Int) - 1) ∧ ((c.2.2.length : Int) - 1) < (c.2.2.length : Int) then if ((c.2.2.length : Int) - 1).toNat = ((c.2.2.length : Int) - 1).toNat then oB (c.2.2[((c.2.2.length : Int) - 1).toNat]?) fun O => (some (q, ((a ++ ([(f, h, ([] : Z4))] : List Z1)).modify ((a.length : Int).toNat) fun z => (z.1, z.2.1, (c.2.2.set ((c.2.2.length : Int) - 1).toNat (O.1, (w.2 ++ ([i] : List Int)))))))) else none else none else none else none) else none else none) else none) else none) else none else none) else none) else none else none else if 0 ≤ d ∧ d < (a.length : Int) then oB (a[d.toNat]?) fun b => (if fits ((b.2.2.length : Int) - 1) then bif decide (((b.2.2.length : Int) - 1) < 0) then oB (a[d.toNat]?) fun X => (if d.toNat = d.toNat then if room b.2.2.length ([(e, ([] : List Int))] : Z4).length 32 then if d.toNat = d.toNat then oB (a[d.toNat]?) fun j => (if fits (((b.2.2.length : Int) - 1) + 1) then oB ((a.set d.toNat (j.1, j.2.1, (b.2.2 ++ ([(e, ([] : List Int))] : Z4))))[d.toNat]?) fun o => (oB (o.2.2[(((b.2.2.length : Int) - 1) + 1).toNat]?) fun A => oB ((a.set d.toNat (j.1, j.2.1, (b.2.2 ++ ([(e, ([] : List Int))] : Z4))))[d.toNat]?) fun U => if d.toNat = d.toNat then oB ((a.set d.toNat (j.1, j.2.1, (b.2.2 ++ ([(e, ([] : List Int))] : Z4))))[d.toNat]?) fun ac => (if d.toNat = d.toNat then if 0 ≤ (((b.2.2.length : Int) - 1) + 1) ∧ (((b.2.2.length : Int) - 1) + 1) < (o.2.2.length : Int) then oB (o.2.2[(((b.2.2.length : Int) - 1) + 1).toNat]?) fun ao => (if (((b.2.2.length : Int) - 1) + 1).toNat = (((b.2.2.length : Int) - 1) + 1).toNat then if room A.2.length ([i] : List Int).length 8 then if 0 ≤ (((b.2.2.length : Int) - 1) + 1) ∧ (((b.2.2.length : Int) - 1) + 1) < (o.2.2.length : Int) then if (((b.2.2.length : Int) - 1) + 1).toNat = (((b.2.2.length : Int) - 1) + 1).toNat then oB (o.2.2[(((b.2.2.length : Int) - 1) + 1).toNat]?) fun I => (some (q, ((a.set d.toNat (j.1, j.2.1, (b.2.2 ++ ([(e, ([] : List Int))] : Z4)))).modify d.toNat fun x => (x.1, x.2.1, (o.2.2.set (((b.2.2.length : Int) - 1) + 1).toNat (I.1, (A.2 ++ ([i] : List Int)))))))) else none else none else none else none) else none else none) else none) else none) else none else none else none) else (oB (a[d.toNat]?) fun R => if d.toNat = d.toNat then if 0 ≤ ((b.2.2.length : Int) - 1) ∧ ((b.2.2.length : Int) - 1) < (b.2.2.length : Int) then oB (b.2.2[((b.2.2.length : Int) - 1).toNat]?) fun H => (bif !decide (H.1 = e) then oB (a[d.toNat]?) fun ae => (if d.toNat = d.toNat then if room b.2.2.length ([(e, ([] : List Int))] : Z4).length 32 then if d.toNat = d.toNat then oB (a[d.toNat]?) fun m => (if fits (((b.2.2.length : Int) - 1) + 1) then oB ((a.set d.toNat (m.1, m.2.1, (b.2.2 ++ ([(e, ([] : List Int))] : Z4))))[d.toNat]?) fun n => (oB (n.2.2[(((b.2.2.length : Int) - 1) + 1).toNat]?) fun y => oB ((a.set d.toNat (m.1, m.2.1, (b.2.2 ++ ([(e, ([] : List Int))] : Z4))))[d.toNat]?) fun ai => if d.toNat = d.toNat then oB ((a.set d.toNat (m.1, m.2.1, (b.2.2 ++ ([(e, ([] : List Int))] : Z4))))[d.toNat]?) fun aj => (if d.toNat = d.toNat then if 0 ≤ (((b.2.2.length : Int) - 1) + 1) ∧ (((b.2.2.length : Int) - 1) + 1) < (n.2.2.length : Int) then oB (n.2.2[(((b.2.2.length : Int) - 1) + 1).toNat]?) fun ab => (if (((b.2.2.length : Int) - 1) + 1).toNat = (((b.2.2.length : Int) - 1) + 1).toNat then if room y.2.length ([i] : List Int).length 8 then if 0 ≤ (((b.2.2.length : Int) - 1) + 1) ∧ (((b.2.2.length : Int) - 1) + 1) < (n.2.2.length : Int) then if (((b.2.2.length : Int) - 1) + 1).toNat = (((b.2.2.length : Int) - 1) + 1).toNat then oB (n.2.2[(((b.2.2.length : Int) - 1) + 1).toNat]?) fun G => (some (q, ((a.set d.toNat (m.1, m.2.1, (b.2.2 ++ ([(e, ([] : List Int))] : Z4)))).modify d.toNat fun C => (C.1, C.2.1, (n.2.2.set (((b.2.2.length : Int) - 1) + 1).toNat (G.1, (y.2 ++ ([i] : List Int)))))))) else none else none else none else none) else none else none) else none) else none) else none else none else none) else if d.toNat = d.toNat then oB (b.2.2[((b.2.2.length : Int) - 1).toNat]?) fun D => (oB (a[d.toNat]?) fun an => if d.toNat = d.toNat then oB (a[d.toNat]?) fun T => (if d.toNat = d.toNat then if 0 ≤ ((b.2.2.length : Int) - 1) ∧ ((b.2.2.length : Int) - 1) < (b.2.2.length : Int) then oB (b.2.2[((b.2.2.length : Int) - 1).toNat]?) fun S => (if ((b.2.2.length : Int) - 1).toNat = ((b.2.2.length : Int) - 1).toNat then if room D.2.length ([i] : List Int).length 8 then if 0 ≤ ((b.2.2.length : Int) - 1) ∧ ((b.2.2.length : Int) - 1) < (b.2.2.length : Int) then if ((b.2.2.length : Int) - 1).toNat = ((b.2.2.length : Int) - 1).toNat then oB (b.2.2[((b.2.2.length : Int) - 1).toNat]?) fun P => (some (q, (a.modify d.toNat fun t => (t.1, t.2.1, (b.2.2.set ((b.2.2.length : Int) - 1).toNat (P.1, (D.2 ++ ([i] : List Int)))))))) else none else none else none else none) else none else none) else none) else none) else none else none) else none) else none)
theorem jky (N : Nat) : mK 98 ⟨⟨[.box 900000 0, pS, .agg [pS, pI], pI], [(900000, false, [.pv Y2, .tre 850001 Y5 156])]⟩, ⟨[.tup []], [(900000, false, [.pv Y2, .tre 1 Y5 156])]⟩, c6A (i_Seg_put_m N)⟩ :=
 mO (fC (jrl N) ja) Tryz.func98 rfl N (.seq .no (.seq .no (.seq .no (.seq .no (.seq .no (.seq .no (.touch [.out 9 [(2, 79, 239, 10), (1, 88, 3, 0)]]))))))) _ (wr := [33, 34, 70, 71, 91, 92]) (rs := [900000, 850001]) (dw := [16, 33, 70])
def jl0 : Sh := ⟨.pv (.int .u64) :: .dead :: pI :: dz 22 [], []⟩
def k_math_bits_Len64_m (N : Nat) (e : Int) : Z10 :=
 (meet (fun (a : Int × Int) => match a with | (c, f) => meet (fun (a : Int × Int) => match a with | (d, b) => meet (fun (a : Int × Int) => match a with | (m, k) => oB (idx ([0, 1, 2, 2, 3, 3, 3, 3, 4, 4, 4, 4, 4, 4, 4, 4, 5, 5, 5, 5, 5, 5, 5, 5, 5, 5, 5, 5, 5, 5, 5, 5, 6, 6, 6, 6, 6, 6, 6, 6, 6, 6, 6, 6, 6, 6, 6, 6, 6, 6, 6, 6, 6, 6, 6, 6, 6, 6, 6, 6, 6, 6, 6, 6, 7, 7, 7, 7, 7, 7, 7, 7, 7, 7, 7, 7, 7, 7, 7, 7, 7, 7, 7, 7, 7, 7, 7, 7, 7, 7, 7, 7, 7, 7, 7, 7, 7, 7, 7, 7, 7, 7, 7, 7, 7, 7, 7, 7, 7, 7, 7, 7, 7, 7, 7, 7, 7, 7, 7, 7, 7, 7, 7, 7, 7, 7, 7, 7, 8, 8, 8, 8, 8, 8, 8, 8, 8, 8, 8, 8, 8, 8, 8, 8, 8, 8, 8, 8, 8, 8, 8, 8, 8, 8, 8, 8, 8, 8, 8, 8, 8, 8, 8, 8, 8, 8, 8, 8, 8, 8, 8, 8, 8, 8, 8, 8, 8, 8, 8, 8, 8, 8, 8, 8, 8, 8, 8, 8, 8, 8, 8, 8, 8, 8, 8, 8, 8, 8, 8, 8, 8, 8, 8, 8, 8, 8, 8, 8, 8, 8, 8, 8, 8, 8, 8, 8, 8, 8, 8, 8, 8, 8, 8, 8, 8, 8, 8, 8, 8, 8, 8, 8, 8, 8, 8, 8, 8, 8, 8, 8, 8, 8, 8, 8, 8, 8, 8, 8, 8, 8, 8, 8, 8, 8, 8, 8] : List UInt8) (IntKind.u8.wrap m)) fun h => if fits (k + (IntKind.i64.wrap (h.toNat : Int))) then some (k + (IntKind.i64.wrap (h.toNat : Int))) else none) fun l => bif decide ((256 : Int) ≤ d) then if 0 ≤ (8 : Int) then if fits (b + 8) then l ((d.fdiv (2 ^ (min (8 : Int).toNat (IntKind.bits .u64)))), (b + 8)) else none else none else l (d, b)) fun j => bif decide ((65536 : Int) ≤ c) then if 0 ≤ (16 : Int) then if fits (f + 16) then j ((c.fdiv (2 ^ (min (16 : Int).toNat (IntKind.bits .u64)))), (f + 16)) else none else none else j (c, f)) fun i => bif decide ((4294967296 : Int) ≤ e) then if 0 ≤ (32 : Int) then i ((e.fdiv (2 ^ (min (32 : Int).toNat (IntKind.bits .u64)))), 32) else none else i (e, 0))
theorem jrK (N : Nat) : mK 244 ⟨⟨[.pv (.int .u64)], []⟩, ⟨[pI], []⟩, c1A (k_math_bits_Len64_m N)⟩ :=
 mO ja Tryz.func244 rfl N (.seq .no (.meet jl0 .no (.meet jl0 .no (.meet jl0 .no .no)))) _
def k_math_bits_Len_m (N : Nat) (a : Int) : Z10 :=
 (oB (k_math_bits_Len64_m N a) fun b => some b)
theorem jda (N : Nat) : mK 176 ⟨⟨[.pv (.int .u64)], []⟩, ⟨[pI], []⟩, c1A (k_math_bits_Len_m N)⟩ :=
 mO (fC (jrK N) ja) Tryz.func176 rfl N .no _
def jbn (N : Nat) (a : List UInt8) : Z7 :=
 (some (!decide (a = a)))
theorem jkt (N : Nat) : mK 177 ⟨⟨[pS], []⟩, ⟨[pB], []⟩, c1A (jbn N)⟩ :=
 mO ja Tryz.func177 rfl N .no _
def jam (N : Nat) (b : List UInt8) (a : List UInt8) : Z10 :=
 (oB (jbn N b) fun d => oB (jbn N a) fun c => bif d then bif c then some 0 else (some (-1)) else bif c then some 1 else bif Op.bytesLess b a then some (-1) else bif !(Op.bytesLess b a || decide (b = a)) then some 1 else some 0)
theorem ji2 (N : Nat) : mK 102 ⟨⟨[pS, pS], []⟩, ⟨[pI], []⟩, c2A (jam N)⟩ :=
 mO (fC (jkt N) ja) Tryz.func102 rfl N .no _
def jlp : Sh := ⟨dz 3 (pI :: .dead :: .dead :: .pv Y19 :: pI :: pI :: dz 9 []), []⟩
def jbe (N : Nat) (c : List Int) : Z10 :=
 (iter (fun i (b, d, e, a) => bif decide (a < e) then oB (idx d a) fun f => (bif !decide (f = b) then some f else if fits (a + 1) then i (b, d, e, (a + 1)) else none) else some b) N ((0 : Int), c, (c.length : Int), (0 : Int)))
theorem jhC (N : Nat) : mK 101 ⟨⟨[.pv Y19], []⟩, ⟨[pI], []⟩, c1A (jbe N)⟩ :=
 mO ja Tryz.func101 rfl N (.seq .no (.seq .no (.seq (.seq .no (.block (.loop jlp .no))) .no))) _
def je (N : Nat) (c : List UInt8) (f : List UInt8) (j : Z4) (d : List UInt8) (b : List UInt8) (i : Z4) : Z10 :=
 (oB (jam N c d) fun h => oB (jam N f b) fun e => oB (jbe N ([h, e] : List Int)) fun a => some a)
theorem jaf (N : Nat) : mK 100 ⟨⟨[.agg [pS, pS, .pv Y11], .agg [pS, pS, .pv Y11]], []⟩, ⟨[pI], []⟩, c6A (je N)⟩ :=
 mO (fC (ji2 N) (fC (jhC N) ja)) Tryz.func100 rfl N .no _
def k_slices_nextPowerOfTwo_m (N : Nat) (b : Int) : Z10 :=
 (oB (k_math_bits_Len_m N (IntKind.u64.wrap b)) fun a => if 0 ≤ a then some (IntKind.u64.wrap ((1 : Int) * 2 ^ (min a.toNat (IntKind.bits .u64)))) else none)
theorem jhv (N : Nat) : mK 287 ⟨⟨[pI], []⟩, ⟨[.pv (.int .u64)], []⟩, c1A (k_slices_nextPowerOfTwo_m N)⟩ :=
 mO (fC (jda N) ja) Tryz.func287 rfl N .no _
def k__slices_xorshift_Next_m (N : Nat) (a : Int) : Option (Int × Int) :=
 (if 0 ≤ (13 : Int) then if 0 ≤ (7 : Int) then if 0 ≤ (17 : Int) then some ((bitsI .xor .u64 (bitsI .xor .u64 (bitsI .xor .u64 a (IntKind.u64.wrap (a * 2 ^ (min (13 : Int).toNat (IntKind.bits .u64))))) ((bitsI .xor .u64 a (IntKind.u64.wrap (a * 2 ^ (min (13 : Int).toNat (IntKind.bits .u64))))).fdiv (2 ^ (min (7 : Int).toNat (IntKind.bits .u64))))) (IntKind.u64.wrap ((bitsI .xor .u64 (bitsI .xor .u64 a (IntKind.u64.wrap (a * 2 ^ (min (13 : Int).toNat (IntKind.bits .u64))))) ((bitsI .xor .u64 a (IntKind.u64.wrap (a * 2 ^ (min (13 : Int).toNat (IntKind.bits .u64))))).fdiv (2 ^ (min (7 : Int).toNat (IntKind.bits .u64))))) * 2 ^ (min (17 : Int).toNat (IntKind.bits .u64))))), (bitsI .xor .u64 (bitsI .xor .u64 (bitsI .xor .u64 a (IntKind.u64.wrap (a * 2 ^ (min (13 : Int).toNat (IntKind.bits .u64))))) ((bitsI .xor .u64 a (IntKind.u64.wrap (a * 2 ^ (min (13 : Int).toNat (IntKind.bits .u64))))).fdiv (2 ^ (min (7 : Int).toNat (IntKind.bits .u64))))) (IntKind.u64.wrap ((bitsI .xor .u64 (bitsI .xor .u64 a (IntKind.u64.wrap (a * 2 ^ (min (13 : Int).toNat (IntKind.bits .u64))))) ((bitsI .xor .u64 a (IntKind.u64.wrap (a * 2 ^ (min (13 : Int).toNat (IntKind.bits .u64))))).fdiv (2 ^ (min (7 : Int).toNat (IntKind.bits .u64))))) * 2 ^ (min (17 : Int).toNat (IntKind.bits .u64)))))) else none else none else none)
theorem jet (N : Nat) : mK 288 ⟨⟨[.box 900000 0], [(900000, false, [.pv (.int .u64)])]⟩, ⟨[.pv (.int .u64)], [(900000, false, [.pv (.int .u64)])]⟩, c1A (k__slices_xorshift_Next_m N)⟩ :=
 mO ja Tryz.func288 rfl N .no _ (rs := [900000])
section
variable {α γ ρ : Type} (c : γ → α → α → Option Int)
def swpG (d : List α) (i j : Int) (k : List α → Option ρ) : Option ρ :=
 if 0 ≤ j ∧ j < (d.length : Int) then oB (d[j.toNat]?) fun e => if 0 ≤ i ∧ i < (d.length : Int) then oB (d[i.toNat]?) fun e2 =>
  if 0 ≤ i ∧ i < (d.length : Int) then oB (d[i.toNat]?) fun e3 => if 0 ≤ j ∧ j < ((d.set i.toNat e).length : Int) then oB ((d.set i.toNat e)[j.toNat]?) fun e4 => k ((d.set i.toNat e).set j.toNat e2)
  else none else none else none else none
def cmpG (ks : γ) (d : List α) (i j : Int) (k : Int → Option ρ) : Option ρ :=
 if 0 ≤ i ∧ i < (d.length : Int) then oB (d[i.toNat]?) fun e => if 0 ≤ j ∧ j < (d.length : Int) then oB (d[j.toNat]?) fun e2 => oB (c ks e e2) k else none else none
def cmpP (ks : γ) (d : List α) (j : Int) (k : Int → Option ρ) : Option ρ :=
 if 0 ≤ j ∧ j < (d.length : Int) then oB (d[j.toNat]?) fun e => if fits (j - 1) then if 0 ≤ (j - 1) ∧ (j - 1) < (d.length : Int) then oB (d[(j - 1).toNat]?) fun e2 => oB (c ks e e2) k else none else none else none
def swpP (d : List α) (j : Int) (k : List α → Option ρ) : Option ρ := if fits (j - 1) then if fits (j - 1) then swpG d j (j - 1) k else none else none
def insG (N : Nat) (d : List α) (a b : Int) (ks : γ) : Option (List α) :=
 if fits (a + 1) then iter (fun go (g : List α × Int × Int × γ × Int) =>
  match g with
  | (d2, a2, b2, ks2, i) =>
  bif decide (i < b2) then
   iter (fun go2 (g : List α × Int × Int × γ × Int × Int) =>
    match g with
    | (d3, a3, b3, ks3, i2, j) =>
    bif decide (a3 < j) then cmpP c ks3 d3 j fun r => bif decide (r < 0) then swpP d3 j fun d => if fits (j - 1) then go2 (d, a3, b3, ks3, i2, j - 1) else none
     else if fits (i2 + 1) then go (d3, a3, b3, ks3, i2 + 1) else none
    else if fits (i2 + 1) then go (d3, a3, b3, ks3, i2 + 1) else none) N (d2, a2, b2, ks2, i, i)
  else some d2) N (d, a, b, ks, a + 1) else none
def siftG (N : Nat) (data : List α) (lo : Int) (hi : Int) (first : Int) (cmp : γ) : Option ((List α)) :=
 (iter (fun go (g : (List α) × Int × Int × γ × Int) => 
   match g with
   | (data2, hi2, first2, cmp2, root) =>
   (if fits (2 * root) then (if fits ((2 * root) + 1) then (bif (decide (hi2 ≤ ((2 * root) + 1))) then
      (some data2)
      else
      (meet (fun (g : (List α) × Int × Int × γ × Int × Int) => 
        match g with
        | (data3, hi3, first3, cmp3, root2, child) =>
        (if fits (first3 + root2) then (if 0 ≤ (first3 + root2) ∧ (first3 + root2) < (data3.length : Int) then
          (oB (data3[(first3 + root2).toNat]?) fun e3 =>
           (if fits (first3 + child) then (if 0 ≤ (first3 + child) ∧ (first3 + child) < (data3.length : Int) then
             (oB (data3[(first3 + child).toNat]?) fun e4 =>
              (oB (c cmp3 e3 e4) fun r2 =>
               (bif (!(decide (r2 < 0))) then
                (some data3)
                else
                (if fits (first3 + root2) then (if fits (first3 + child) then (if fits (first3 + child) then (if 0 ≤ (first3 + child) ∧ (first3 + child) < (data3.length : Int) then
                    (oB (data3[(first3 + child).toNat]?) fun e5 =>
                     (if fits (first3 + root2) then (if 0 ≤ (first3 + root2) ∧ (first3 + root2) < (data3.length : Int) then
                       (oB (data3[(first3 + root2).toNat]?) fun e6 =>
                        (if 0 ≤ (first3 + root2) ∧ (first3 + root2) < (data3.length : Int) then
                         (oB (data3[(first3 + root2).toNat]?) fun e7 =>
                          (if 0 ≤ (first3 + child) ∧ (first3 + child) < ((data3.set (first3 + root2).toNat e5).length : Int) then
                           (oB ((data3.set (first3 + root2).toNat e5)[(first3 + child).toNat]?) fun e8 =>
                            (go (((data3.set (first3 + root2).toNat e5).set (first3 + child).toNat e6), hi3, first3, cmp3, child)))
                           else none))
                         else none))
                       else none) else none))
                    else none) else none) else none) else none))))
             else none) else none))
          else none) else none)) fun J =>
       (if fits (((2 * root) + 1) + 1) then (bif (decide ((((2 * root) + 1) + 1) < hi2)) then
         (if fits (first2 + ((2 * root) + 1)) then (if 0 ≤ (first2 + ((2 * root) + 1)) ∧ (first2 + ((2 * root) + 1)) < (data2.length : Int) then
           (oB (data2[(first2 + ((2 * root) + 1)).toNat]?) fun e =>
            (if fits (first2 + ((2 * root) + 1)) then (if fits ((first2 + ((2 * root) + 1)) + 1) then (if 0 ≤ ((first2 + ((2 * root) + 1)) + 1) ∧ ((first2 + ((2 * root) + 1)) + 1) < (data2.length : Int) then
               (oB (data2[((first2 + ((2 * root) + 1)) + 1).toNat]?) fun e2 =>
                (oB (c cmp2 e e2) fun r =>
                 (bif (decide (r < 0)) then
                  (if fits (((2 * root) + 1) + 1) then (J (data2, hi2, first2, cmp2, root, (((2 * root) + 1) + 1))) else none)
                  else
                  (J (data2, hi2, first2, cmp2, root, ((2 * root) + 1))))))
               else none) else none) else none))
           else none) else none)
         else
         (J (data2, hi2, first2, cmp2, root, ((2 * root) + 1)))) else none))) else none) else none)) N (data, hi, first, cmp, lo))
def heapG (N : Nat) (data : List α) (a : Int) (b : Int) (cmp : γ) : Option ((List α)) :=
 (if fits (b - a) then (if fits ((b - a) - 1) then (if 2 ≠ 0 then
    (if fits (((b - a) - 1).tdiv 2) then (iter (fun go (g : (List α) × γ × Int × Int × Int × Int) => 
       match g with
       | (data2, cmp2, first, lo, hi, i) =>
       (bif (decide ((0 : Int) ≤ i)) then
        (oB (siftG c N data2 i hi first cmp2) fun r =>
         (if fits (i - 1) then (go (r, cmp2, first, lo, hi, (i - 1))) else none))
        else
        (if fits (hi - 1) then (iter (fun go2 (g : (List α) × γ × Int × Int × Int) => 
           match g with
           | (data3, cmp3, first2, lo2, i2) =>
           (bif (decide ((0 : Int) ≤ i2)) then
            (if fits (first2 + i2) then (if fits (first2 + i2) then swpG data3 first2 (first2 + i2) fun d => (oB (siftG c N d lo2 i2 first2 cmp3) fun r2 =>
                       (if fits (i2 - 1) then (go2 (r2, cmp3, first2, lo2, (i2 - 1))) else none)) else none) else none)
            else
            (some data3))) N (data2, cmp2, first, lo, (hi - 1))) else none))) N (data, cmp, a, 0, (b - a), (((b - a) - 1).tdiv 2))) else none)
    else none) else none) else none)
def breakG (N : Nat) (data : List α) (a : Int) (b : Int) (cmp : γ) : Option (List α) :=
 (if fits (b - a) then (bif (decide ((8 : Int) ≤ (b - a))) then
   (oB (k_slices_nextPowerOfTwo_m N (b - a)) fun r =>
    (if 4 ≠ 0 then
     (if fits ((b - a).tdiv 4) then (if fits (((b - a).tdiv 4) * 2) then (if fits (a + (((b - a).tdiv 4) * 2)) then (if fits ((a + (((b - a).tdiv 4) * 2)) - 1) then (iter (fun go (g : (List α) × Int × Int × Int × Int × Int) => 
           match g with
           | (data2, a2, length, modulus, idx0, random) =>
           (if 4 ≠ 0 then
            (if fits (length.tdiv 4) then (if fits ((length.tdiv 4) * 2) then (if fits (a2 + ((length.tdiv 4) * 2)) then (if fits ((a2 + ((length.tdiv 4) * 2)) + 1) then (bif (decide (idx0 ≤ ((a2 + ((length.tdiv 4) * 2)) + 1))) then
                 (oB (k__slices_xorshift_Next_m N random) fun r2 =>
                  (meet (fun (g : (List α) × Int × Int × Int × Int × Int × Int) => 
                    match g with
                    | (data3, a3, length2, modulus2, idx02, other, random2) =>
                    (if fits (a3 + other) then (if fits (a3 + other) then swpG data3 idx02 (a3 + other) fun d => (if fits (idx02 + 1) then (go (d, a3, length2, modulus2, (idx02 + 1), random2)) else none) else none) else none)) fun J =>
                   (bif (decide (length ≤ (IntKind.i64.wrap (bitsI .and .u64 r2.1 (IntKind.u64.wrap (modulus - 1)))))) then
                    (if fits ((IntKind.i64.wrap (bitsI .and .u64 r2.1 (IntKind.u64.wrap (modulus - 1)))) - length) then (J (data2, a2, length, modulus, idx0, ((IntKind.i64.wrap (bitsI .and .u64 r2.1 (IntKind.u64.wrap (modulus - 1)))) - length), r2.2)) else none)
                    else
                    (J (data2, a2, length, modulus, idx0, (IntKind.i64.wrap (bitsI .and .u64 r2.1 (IntKind.u64.wrap (modulus - 1)))), r2.2)))))
                 else
                 (some data2)) else none) else none) else none) else none)
            else none)) N (data, a, (b - a), r, ((a + (((b - a).tdiv 4) * 2)) - 1), (IntKind.u64.wrap (b - a)))) else none) else none) else none) else none)
     else none))
   else
   (some data)) else none)
def order2G (N : Nat) (data : List α) (a : Int) (b : Int) (cmp : γ) (b2 : Int) : Option (Int × Int × (List α) × Int) :=
 cmpG c cmp data b a fun r => (bif (decide (r < 0)) then (if fits (b2 + 1) then (some (b, a, data, (b2 + 1))) else none) else (some (a, b, data, b2)))
def medianG (N : Nat) (data : List α) (a : Int) (b : Int) (c0 : Int) (cmp : γ) (b2 : Int) : Option (Int × (List α) × Int) :=
 (oB (order2G c N data a b cmp b2) fun r =>
  (oB (order2G c N r.2.2.1 r.2.1 c0 cmp r.2.2.2) fun r2 =>
   (oB (order2G c N r2.2.2.1 r.1 r2.1 cmp r2.2.2.2) fun r3 =>
    (some (r3.2.1, r3.2.2.1, r3.2.2.2)))))
def medianAdjacentG (N : Nat) (data : List α) (a : Int) (cmp : γ) (b : Int) : Option (Int × (List α) × Int) :=
 (if fits (a - 1) then (if fits (a + 1) then (oB (medianG c N data (a - 1) a (a + 1) cmp b) fun r =>
    (some (r.1, r.2.1, r.2.2))) else none) else none)
def choosePivotG (N : Nat) (data : List α) (a : Int) (b : Int) (cmp : γ) : Option (Int × Int × (List α)) :=
 (if fits (b - a) then (if 4 ≠ 0 then
   (if fits ((b - a).tdiv 4) then (if fits (((b - a).tdiv 4) * 1) then (if fits (a + (((b - a).tdiv 4) * 1)) then (if 4 ≠ 0 then
       (if fits ((b - a).tdiv 4) then (if fits (((b - a).tdiv 4) * 2) then (if fits (a + (((b - a).tdiv 4) * 2)) then (if 4 ≠ 0 then
           (if fits ((b - a).tdiv 4) then (if fits (((b - a).tdiv 4) * 3) then (if fits (a + (((b - a).tdiv 4) * 3)) then (meet (fun (g : (List α) × Int × Int) => 
                match g with
                | (data3, j2, swaps2) =>
                (bif (decide (swaps2 = 0)) then
                 (some (j2, 1, data3))
                 else
                 (bif (decide (swaps2 = 12)) then
                  (some (j2, 2, data3))
                  else
                  (some (j2, 0, data3))))) fun J =>
               (bif (decide ((8 : Int) ≤ (b - a))) then
                (meet (fun (g : (List α) × γ × Int × Int × Int × Int) => 
                  match g with
                  | (data2, cmp2, i, j, k, swaps) =>
                  (oB (medianG c N data2 i j k cmp2 swaps) fun r4 =>
                   (J (r4.2.1, r4.1, r4.2.2)))) fun J2 =>
                 (bif (decide ((50 : Int) ≤ (b - a))) then
                  (oB (medianAdjacentG c N data (a + (((b - a).tdiv 4) * 1)) cmp 0) fun r =>
                   (oB (medianAdjacentG c N r.2.1 (a + (((b - a).tdiv 4) * 2)) cmp r.2.2) fun r2 =>
                    (oB (medianAdjacentG c N r2.2.1 (a + (((b - a).tdiv 4) * 3)) cmp r2.2.2) fun r3 =>
                     (J2 (r3.2.1, cmp, r.1, r2.1, r3.1, r3.2.2)))))
                  else
                  (J2 (data, cmp, (a + (((b - a).tdiv 4) * 1)), (a + (((b - a).tdiv 4) * 2)), (a + (((b - a).tdiv 4) * 3)), 0))))
                else
                (J (data, (a + (((b - a).tdiv 4) * 2)), 0)))) else none) else none) else none)
           else none) else none) else none) else none)
       else none) else none) else none) else none)
   else none) else none)
def reverseRangeG (N : Nat) (data : List α) (a : Int) (b : Int) (cmp : γ) : Option ((List α)) :=
 (if fits (b - 1) then (iter (fun go (g : (List α) × Int × Int) => 
    match g with
    | (data2, i, j) =>
    (bif (decide (i < j)) then swpG data2 i j fun d => (if fits (i + 1) then (if fits (j - 1) then (go (d, (i + 1), (j - 1))) else none) else none)
     else
     (some data2))) N (data, a, (b - 1))) else none)
def shDown (k : (List α × Int × Int × γ × Int × Int) → Option ρ) (N : Nat) (g : List α × Int × Int × γ × Int × Int × Int) : Option ρ :=
 iter (fun go3 (g : (List α) × Int × Int × γ × Int × Int × Int) =>
  match g with
  | (d, a, b, ks, i, j, j4) =>
  bif decide ((1 : Int) ≤ j4) then cmpP c ks d j4 fun r => bif !decide (r < 0) then k (d, a, b, ks, i, j) else swpP d j4 fun d' => if fits (j4 - 1) then go3 (d', a, b, ks, i, j, j4 - 1) else none
  else k (d, a, b, ks, i, j)) N g
def shUp (k : (List α × Int × Int × γ × Int × Int) → Option ρ) (N : Nat) (g : List α × Int × Int × γ × Int × Int × Int) : Option ρ :=
 iter (fun go4 (g : (List α) × Int × Int × γ × Int × Int × Int) =>
  match g with
  | (d, a, b, ks, i, j, j4) =>
  bif decide (j4 < b) then cmpP c ks d j4 fun r => bif !decide (r < 0) then (if fits (j + 1) then k (d, a, b, ks, i, j + 1) else none) else swpP d j4 fun d' => if fits (j4 + 1) then go4 (d', a, b, ks, i, j, j4 + 1) else none
  else if fits (j + 1) then k (d, a, b, ks, i, j + 1) else none) N g
def pisX (N : Nat) (go : (List α × Int × Int × γ × Int × Int) → Option (Bool × List α)) (d : List α) (a b : Int) (ks : γ) (i j : Int) : Option (Bool × List α) :=
 bif decide (i = b) then some (true, d) else if fits (b - a) then bif decide ((b - a) < 50) then some (false, d) else
  swpP d i fun d' => meet (fun (g : List α × Int × Int × γ × Int × Int) =>
   match g with
   | (d5, a5, b5, ks5, i4, j5) =>
   if fits (b5 - i4) then bif decide ((2 : Int) ≤ (b5 - i4)) then if fits (i4 + 1) then shUp c go N (d5, a5, b5, ks5, i4, j5, i4 + 1) else none
    else (if fits (j5 + 1) then go (d5, a5, b5, ks5, i4, j5 + 1) else none) else none) fun J =>
   if fits (i - a) then bif decide ((2 : Int) ≤ (i - a)) then if fits (i - 1) then shDown c J N (d', a, b, ks, i, j, i - 1) else none else J (d', a, b, ks, i, j) else none
 else none
def pisG (N : Nat) (d : List α) (a b : Int) (ks : γ) : Option (Bool × List α) :=
 if fits (a + 1) then iter (fun go (g : List α × Int × Int × γ × Int × Int) =>
  match g with
  | (d2, a2, b2, ks2, i, j) =>
  bif decide (j < 5) then
   iter (fun go2 (g : List α × Int × Int × γ × Int × Int) =>
    match g with
    | (d3, a3, b3, ks3, i2, j2) =>
    bif decide (i2 < b3) then cmpP c ks3 d3 i2 fun r => bif !decide (r < 0) then (if fits (i2 + 1) then go2 (d3, a3, b3, ks3, i2 + 1, j2) else none) else pisX c N go d3 a3 b3 ks3 i2 j2
    else pisX c N go d3 a3 b3 ks3 i2 j2) N (d2, a2, b2, ks2, i, j)
  else some (false, d2)) N (d, a, b, ks, a + 1, 0) else none
def partE (go3 : (List α × Int × γ × Int × Int) → Option (Int × Bool × List α)) (fl : Bool) (g : List α × Int × γ × Int × Int) : Option (Int × Bool × List α) :=
 match g with
 | (d, a, ks, i, j) =>
 bif decide (j < i) then swpG d j a fun d' => some (j, fl, d') else swpG d i j fun d' => if fits (i + 1) then if fits (j - 1) then go3 (d', a, ks, i + 1, j - 1) else none else none
def partD (k : (List α × Int × γ × Int × Int) → Option ρ) (N : Nat) (g : List α × Int × γ × Int × Int) : Option ρ :=
 iter (fun go (g : List α × Int × γ × Int × Int) =>
  match g with
  | (d, a, ks, i, j) =>
  bif decide (i ≤ j) then cmpG c ks d j a fun r => bif !decide (r < 0) then (if fits (j - 1) then go (d, a, ks, i, j - 1) else none) else k (d, a, ks, i, j)
  else k (d, a, ks, i, j)) N g
def partU (k : (List α × Int × γ × Int × Int) → Option ρ) (N : Nat) (g : List α × Int × γ × Int × Int) : Option ρ :=
 iter (fun go (g : List α × Int × γ × Int × Int) =>
  match g with
  | (d, a, ks, i, j) =>
  bif decide (i ≤ j) then cmpG c ks d i a fun r => bif decide (r < 0) then (if fits (i + 1) then go (d, a, ks, i + 1, j) else none) else k (d, a, ks, i, j)
  else k (d, a, ks, i, j)) N g
def partG (N : Nat) (d : List α) (a b p : Int) (ks : γ) : Option (Int × Bool × List α) :=
 swpG d a p fun d => if fits (a + 1) then if fits (b - 1) then
  partU c (fun g => partD c (partE (fun g => iter (fun go3 g => partU c (fun g => partD c (partE go3 false) N g) N g) N g) true) N g) N (d, a, ks, a + 1, b - 1)
 else none else none
def peqE (go : (List α × Int × γ × Int × Int) → Option (Int × List α)) (g : List α × Int × γ × Int × Int) : Option (Int × List α) :=
 match g with
 | (d, a, ks, i, j) =>
 bif decide (j < i) then some (i, d) else swpG d i j fun d' => if fits (i + 1) then if fits (j - 1) then go (d', a, ks, i + 1, j - 1) else none else none
def peqD (k : (List α × Int × γ × Int × Int) → Option ρ) (N : Nat) (g : List α × Int × γ × Int × Int) : Option ρ :=
 iter (fun go (g : List α × Int × γ × Int × Int) =>
  match g with
  | (d, a, ks, i, j) =>
  bif decide (i ≤ j) then cmpG c ks d a j fun r => bif decide (r < 0) then (if fits (j - 1) then go (d, a, ks, i, j - 1) else none) else k (d, a, ks, i, j)
  else k (d, a, ks, i, j)) N g
def peqU (k : (List α × Int × γ × Int × Int) → Option ρ) (N : Nat) (g : List α × Int × γ × Int × Int) : Option ρ :=
 iter (fun go (g : List α × Int × γ × Int × Int) =>
  match g with
  | (d, a, ks, i, j) =>
  bif decide (i ≤ j) then cmpG c ks d a i fun r => bif !decide (r < 0) then (if fits (i + 1) then go (d, a, ks, i + 1, j) else none) else k (d, a, ks, i, j)
  else k (d, a, ks, i, j)) N g
def peqG (N : Nat) (d : List α) (a b p : Int) (ks : γ) : Option (Int × List α) :=
 swpG d a p fun d => if fits (a + 1) then if fits (b - 1) then iter (fun go g => peqU c (fun g => peqD c (peqE go) N g) N g) N (d, a, ks, a + 1, b - 1) else none else none
def pdqG (hs : List α → Int → Int → γ → Option (List α)) (pe : List α → Int → Int → Int → γ → Option (Int × List α)) (N : Nat) : (D : Nat) → (List α) → Int → Int → Int → γ → Option ((List α))
 | 0, _, _, _, _, _ => none
 | D + 1, data, a, b, limit, cmp =>
 (iter (fun go (g : (List α) × Int × Int × Int × γ × Bool × Bool) => 
   match g with
   | (data2, a2, b2, limit2, cmp2, wasBalanced, wasPartitioned) =>
   (if fits (b2 - a2) then (bif (decide ((b2 - a2) ≤ 12)) then
     (oB (insG c N data2 a2 b2 cmp2) fun r =>
      (some r))
     else
     (bif (decide (limit2 = 0)) then
      (oB (hs data2 a2 b2 cmp2) fun r2 =>
       (some r2))
      else
      (meet (fun (g : (List α) × Int × Int × Int × γ × Bool × Bool × Int) => 
        match g with
        | (data3, a3, b3, limit3, cmp3, wasBalanced2, wasPartitioned2, length) =>
        (oB (choosePivotG c N data3 a3 b3 cmp3) fun r4 =>
         (meet (fun (g : (List α) × Int × Int × Int × γ × Bool × Bool × Int × Int × Int) => 
           match g with
           | (data4, a4, b4, limit4, cmp4, wasBalanced3, wasPartitioned3, length2, pivot, hint) =>
           (meet (fun (g : (List α) × Int × Int × Int × γ × Bool × Bool × Int × Int) => 
             match g with
             | (data5, a5, b5, limit5, cmp5, wasBalanced4, wasPartitioned4, length3, pivot2) =>
             (bif (decide ((0 : Int) < a5)) then
              (if fits (a5 - 1) then (if 0 ≤ (a5 - 1) ∧ (a5 - 1) < (data5.length : Int) then
                (oB (data5[(a5 - 1).toNat]?) fun e =>
                 (if 0 ≤ pivot2 ∧ pivot2 < (data5.length : Int) then
                  (oB (data5[pivot2.toNat]?) fun e2 =>
                   (oB (c cmp5 e e2) fun r7 =>
                    (bif (!(decide (r7 < 0))) then
                     (oB (pe data5 a5 b5 pivot2 cmp5) fun r8 =>
                      (go (r8.2, r8.1, b5, limit5, cmp5, wasBalanced4, wasPartitioned4)))
                     else
                     (oB (partG c N data5 a5 b5 pivot2 cmp5) fun r9 =>
                      (if fits (r9.1 - a5) then (if fits (b5 - r9.1) then (if 8 ≠ 0 then
                         (if fits (length3.tdiv 8) then (bif (decide ((r9.1 - a5) < (b5 - r9.1))) then
                           (oB (pdqG hs pe N D r9.2.2 a5 r9.1 limit5 cmp5) fun r10 =>
                            (if fits (r9.1 + 1) then (go (r10, (r9.1 + 1), b5, limit5, cmp5, (decide ((length3.tdiv 8) ≤ (r9.1 - a5))), r9.2.1)) else none))
                           else
                           (if fits (r9.1 + 1) then (oB (pdqG hs pe N D r9.2.2 (r9.1 + 1) b5 limit5 cmp5) fun r11 =>
                             (go (r11, a5, r9.1, limit5, cmp5, (decide ((length3.tdiv 8) ≤ (b5 - r9.1))), r9.2.1))) else none)) else none)
                         else none) else none) else none)))))
                  else none))
                else none) else none)
              else
              (oB (partG c N data5 a5 b5 pivot2 cmp5) fun r12 =>
               (if fits (r12.1 - a5) then (if fits (b5 - r12.1) then (if 8 ≠ 0 then
                  (if fits (length3.tdiv 8) then (bif (decide ((r12.1 - a5) < (b5 - r12.1))) then
                    (oB (pdqG hs pe N D r12.2.2 a5 r12.1 limit5 cmp5) fun r13 =>
                     (if fits (r12.1 + 1) then (go (r13, (r12.1 + 1), b5, limit5, cmp5, (decide ((length3.tdiv 8) ≤ (r12.1 - a5))), r12.2.1)) else none))
                    else
                    (if fits (r12.1 + 1) then (oB (pdqG hs pe N D r12.2.2 (r12.1 + 1) b5 limit5 cmp5) fun r14 =>
                      (go (r14, a5, r12.1, limit5, cmp5, (decide ((length3.tdiv 8) ≤ (b5 - r12.1))), r12.2.1))) else none)) else none)
                  else none) else none) else none)))) fun J3 =>
            (bif wasBalanced3 then
             (bif wasPartitioned3 then
              (bif (decide (hint = 1)) then
               (oB (pisG c N data4 a4 b4 cmp4) fun r6 =>
                (bif r6.1 then
                 (some r6.2)
                 else
                 (J3 (r6.2, a4, b4, limit4, cmp4, wasBalanced3, wasPartitioned3, length2, pivot))))
               else
               (J3 (data4, a4, b4, limit4, cmp4, wasBalanced3, wasPartitioned3, length2, pivot)))
              else
              (J3 (data4, a4, b4, limit4, cmp4, wasBalanced3, wasPartitioned3, length2, pivot)))
             else
             (J3 (data4, a4, b4, limit4, cmp4, wasBalanced3, wasPartitioned3, length2, pivot))))) fun J2 =>
          (bif (decide (r4.2.1 = 2)) then
           (oB (reverseRangeG N r4.2.2 a3 b3 cmp3) fun r5 =>
            (if fits (b3 - 1) then (if fits (r4.1 - a3) then (if fits ((b3 - 1) - (r4.1 - a3)) then (J2 (r5, a3, b3, limit3, cmp3, wasBalanced2, wasPartitioned2, length, ((b3 - 1) - (r4.1 - a3)), 1)) else none) else none) else none))
           else
           (J2 (r4.2.2, a3, b3, limit3, cmp3, wasBalanced2, wasPartitioned2, length, r4.1, r4.2.1)))))) fun J =>
       (bif (!wasBalanced) then
        (oB (breakG N data2 a2 b2 cmp2) fun r3 =>
         (if fits (limit2 - 1) then (J (r3, a2, b2, (limit2 - 1), cmp2, wasBalanced, wasPartitioned, (b2 - a2))) else none))
        else
        (J (data2, a2, b2, limit2, cmp2, wasBalanced, wasPartitioned, (b2 - a2))))))) else none)) N (data, a, b, limit, cmp, true, true))
end
def cmp105 (N : Nat) : (Unit) → Z1 → Z1 → Option Int := (fun (cmp : Unit) (e e2 : Z0 × Z0 × Z17) => je N e.1 e.2.1 e.2.2 e2.1 e2.2.1 e2.2.2)
def jny : Sh := ⟨.mtk 800000 Y5 156 false :: pI :: pI :: .clo 100 [] :: dz 4 (pI :: dz 44 []), []⟩
def jll : Sh := ⟨.mtk 800000 Y5 156 false :: pI :: pI :: .clo 100 [] :: dz 4 (pI :: pI :: dz 43 []), []⟩
def jeC (N : Nat) (b : List Z1) (c : Int) (d : Int) (a : Unit) : Option ((List Z1)) := insG (cmp105 N) N b c d a
 
theorem jqw (N : Nat) : mK 235 ⟨⟨[.mtk 800000 Y5 156 false, pI, pI, .clo 100 []], []⟩, ⟨[.tup [], .mtk 800000 Y5 156 false], []⟩, c4A (jeC N)⟩ :=
 mO (fC (jaf N) ja) Tryz.func235 rfl N (.seq .no (.block (.loop jny (.seq .no (.seq (.block (.seq .no (.block (.loop jll .no)))) .no))))) _ (rs := [800000])
def jnV : Sh := ⟨.mtk 800000 Y5 156 false :: .dead :: pI :: pI :: .clo 100 [] :: dz 5 (pI :: dz 71 []), []⟩
def jmo : Sh := ⟨.mtk 800000 Y5 156 false :: .dead :: pI :: pI :: .clo 100 [] :: dz 5 (pI :: pI :: dz 70 []), []⟩
def jdy (N : Nat) (b : List Z1) (c : Int) (d : Int) (e : Int) (a : Unit) : Option ((List Z1)) := siftG (cmp105 N) N b c d e a
 
theorem jqE (N : Nat) : mK 286 ⟨⟨[.mtk 800000 Y5 156 false, pI, pI, pI, .clo 100 []], []⟩, ⟨[.tup [], .mtk 800000 Y5 156 false], []⟩, c5A (jdy N)⟩ :=
 mO (fC (jaf N) ja) Tryz.func286 rfl N (.seq .no (.block (.loop jnV (.block (.seq .no (.seq .no (.meet jmo .no .no))))))) _ (rs := [800000])
def jmY : Sh := ⟨.mtk 800000 Y5 156 false :: .dead :: .dead :: .clo 100 [] :: dz 4 (pI :: pI :: pI :: pI :: dz 48 []), []⟩
def jq3 : Sh := ⟨.mtk 800000 Y5 156 false :: .dead :: .dead :: .clo 100 [] :: dz 4 (pI :: pI :: .dead :: .dead :: pI :: dz 47 []), []⟩
def jaC (N : Nat) (b : List Z1) (c : Int) (d : Int) (a : Unit) : Option ((List Z1)) := heapG (cmp105 N) N b c d a
 
theorem jqz (N : Nat) : mK 236 ⟨⟨[.mtk 800000 Y5 156 false, pI, pI, .clo 100 []], []⟩, ⟨[.tup [], .mtk 800000 Y5 156 false], []⟩, c4A (jaC N)⟩ :=
 mO (fC (jqE N) ja) Tryz.func236 rfl N (.seq .no (.seq .no (.seq .no (.seq (.seq .no (.block (.loop jmY .no))) (.seq .no (.block (.loop jq3 .no))))))) _ (rs := [800000])
def jkH : Sh := ⟨.mtk 800000 Y5 156 false :: pI :: dz 6 (pI :: .box 9 0 :: .pv (.int .u64) :: pI :: dz 55 []), [(9, false, [.pv (.int .u64)])]⟩
def jmx : Sh := ⟨.mtk 800000 Y5 156 false :: pI :: dz 6 (pI :: .box 9 0 :: .pv (.int .u64) :: pI :: pI :: dz 54 []), [(9, false, [.pv (.int .u64)])]⟩
def jez (N : Nat) (b : List Z1) (c : Int) (d : Int) (a : Unit) : Option ((List Z1)) := breakG N b c d a
 
theorem jlO (N : Nat) : mK 237 ⟨⟨[.mtk 800000 Y5 156 false, pI, pI, .clo 100 []], []⟩, ⟨[.tup [], .mtk 800000 Y5 156 false], []⟩, c4A (jez N)⟩ :=
 mO (fC (jhv N) (fC (jet N) ja)) Tryz.func237 rfl N (.seq .no (.seq .no (.cond (.seq .no (.seq .no (.seq .no (.block (.loop jkH (.seq .no (.seq (.block (.seq .no (.meet jmx .no .no))) .no))))))) .no))) _ (rs := [800000])
def jcG (N : Nat) (c : List Z1) (d : Int) (e : Int) (b : Unit) (a : Int) : Option (Int × Int × (List Z1) × Int) := order2G (cmp105 N) N c d e b a
 
theorem jrN (N : Nat) : mK 330 ⟨⟨[.mtk 800000 Y5 156 false, pI, pI, .box 900003 0, .clo 100 []], [(900003, false, [pI])]⟩, ⟨[.tup [pI, pI], .mtk 800000 Y5 156 false], [(900003, false, [pI])]⟩, c5A (jcG N)⟩ :=
 mO (fC (jaf N) ja) Tryz.func330 rfl N .no _ (rs := [900003, 800000])
def jdE (N : Nat) (d : List Z1) (e : Int) (f : Int) (a : Int) (c : Unit) (b : Int) : Option (Int × (List Z1) × Int) := medianG (cmp105 N) N d e f a c b
 
theorem jfr (N : Nat) : mK 290 ⟨⟨[.mtk 800000 Y5 156 false, pI, pI, pI, .box 900004 0, .clo 100 []], [(900004, false, [pI])]⟩, ⟨[pI, .mtk 800000 Y5 156 false], [(900004, false, [pI])]⟩, c6A (jdE N)⟩ :=
 mO (fC (jrN N) ja) Tryz.func290 rfl N .no _ (rs := [900004, 800000])
def jca (N : Nat) (b : List Z1) (c : Int) (a : Unit) (d : Int) : Option (Int × (List Z1) × Int) := medianAdjacentG (cmp105 N) N b c a d
 
theorem jko (N : Nat) : mK 289 ⟨⟨[.mtk 800000 Y5 156 false, pI, .box 900002 0, .clo 100 []], [(900002, false, [pI])]⟩, ⟨[pI, .mtk 800000 Y5 156 false], [(900002, false, [pI])]⟩, c4A (jca N)⟩ :=
 mO (fC (jfr N) ja) Tryz.func289 rfl N .no _ (rs := [900002, 800000])
def jnR : Sh := ⟨.mtk 800000 Y5 156 false :: .dead :: .dead :: .clo 100 [] :: dz 7 (.box 11 0 :: pI :: pI :: pI :: dz 48 []), [(11, false, [pI])]⟩
def jrt : Sh := ⟨.mtk 800000 Y5 156 false :: dz 10 (.box 11 0 :: .dead :: pI :: dz 49 []), [(11, false, [pI])]⟩
def jjM (N : Nat) (b : List Z1) (c : Int) (d : Int) (a : Unit) : Option (Int × Int × (List Z1)) := choosePivotG (cmp105 N) N b c d a
 
theorem joO (N : Nat) : mK 238 ⟨⟨[.mtk 800000 Y5 156 false, pI, pI, .clo 100 []], []⟩, ⟨[.tup [pI, pI], .mtk 800000 Y5 156 false], []⟩, c4A (jjM N)⟩ :=
 mO (fC (jko N) (fC (jfr N) ja)) Tryz.func238 rfl N (.seq .no (.seq .no (.seq .no (.seq .no (.seq .no (.seq .no (.meet jrt (.seq .no (.cond (.meet jnR .no .no) .no)) .no))))))) _ (rs := [800000])
def jpl : Sh := ⟨.mtk 800000 Y5 156 false :: dz 7 (pI :: pI :: dz 24 []), []⟩
def jeV (N : Nat) (b : List Z1) (c : Int) (d : Int) (a : Unit) : Option ((List Z1)) := reverseRangeG N b c d a
 
theorem jma (N : Nat) : mK 239 ⟨⟨[.mtk 800000 Y5 156 false, pI, pI, .clo 100 []], []⟩, ⟨[.tup [], .mtk 800000 Y5 156 false], []⟩, c4A (jeV N)⟩ :=
 mO ja Tryz.func239 rfl N (.seq .no (.seq .no (.block (.loop jpl .no)))) _ (rs := [800000])
def jn3 : Sh := ⟨.mtk 800000 Y5 156 false :: pI :: pI :: .clo 100 [] :: dz 5 (pI :: pI :: dz 130 []), []⟩
def jsj : Sh := ⟨.mtk 800000 Y5 156 false :: pI :: pI :: .clo 100 [] :: dz 5 (pI :: pI :: pI :: dz 129 []), []⟩
def jnQ : Sh := ⟨.mtk 800000 Y5 156 false :: pI :: pI :: .clo 100 [] :: dz 5 (pI :: pI :: .dead :: pI :: dz 128 []), []⟩
def jhb (N : Nat) (b : List Z1) (c : Int) (d : Int) (a : Unit) : Option (Bool × (List Z1)) := pisG (cmp105 N) N b c d a
 
theorem jnw (N : Nat) : mK 240 ⟨⟨[.mtk 800000 Y5 156 false, pI, pI, .clo 100 []], []⟩, ⟨[pB, .mtk 800000 Y5 156 false], []⟩, c4A (jhb N)⟩ :=
 mO (fC (jaf N) ja) Tryz.func240 rfl N (.seq .no (.seq .no (.seq (.seq .no (.block (.loop jn3 (.seq .no (.seq (.block (.seq (.block (.loop jn3 .no)) (.seq .no (.seq .no (.seq .no (.meet jn3 (.seq .no (.cond (.seq .no (.block (.loop jsj .no))) .no)) (.seq .no (.cond (.seq .no (.block (.loop jnQ .no))) .no)))))))) .no))))) .no))) _ (rs := [800000])
def jnv : Sh := ⟨.mtk 800000 Y5 156 false :: pI :: .dead :: .dead :: .clo 100 [] :: dz 6 (pI :: pI :: dz 77 []), []⟩
def jbG (N : Nat) (b : List Z1) (d : Int) (e : Int) (c : Int) (a : Unit) : Option (Int × (List Z1)) := peqG (cmp105 N) N b d e c a
 
theorem jp1 (N : Nat) : mK 241 ⟨⟨[.mtk 800000 Y5 156 false, pI, pI, pI, .clo 100 []], []⟩, ⟨[pI, .mtk 800000 Y5 156 false], []⟩, c5A (jbG N)⟩ :=
 mO (fC (jaf N) ja) Tryz.func241 rfl N (.seq .no (.seq .no (.seq .no (.seq (.block (.loop jnv (.block (.seq (.block (.loop jnv .no)) (.seq (.block (.loop jnv .no)) .no))))) .no)))) _ (rs := [800000])
def jru : Sh := ⟨.mtk 800000 Y5 156 false :: pI :: .dead :: .dead :: .clo 100 [] :: dz 7 (pI :: pI :: dz 164 []), []⟩
def jcT (N : Nat) (b : List Z1) (d : Int) (e : Int) (c : Int) (a : Unit) : Option (Int × Bool × (List Z1)) := partG (cmp105 N) N b d e c a
 
theorem jrO (N : Nat) : mK 242 ⟨⟨[.mtk 800000 Y5 156 false, pI, pI, pI, .clo 100 []], []⟩, ⟨[.tup [pI, pB], .mtk 800000 Y5 156 false], []⟩, c5A (jcT N)⟩ :=
 mO (fC (jaf N) ja) Tryz.func242 rfl N (.seq .no (.seq .no (.seq .no (.seq (.block (.loop jru .no)) (.seq (.block (.loop jru .no)) (.seq .no (.seq .no (.seq .no (.seq .no (.seq (.block (.loop jru (.block (.seq (.block (.loop jru .no)) (.seq (.block (.loop jru .no)) .no))))) .no)))))))))) _ (rs := [800000])
def jmM : Sh := ⟨.mtk 800000 Y5 156 false :: pI :: pI :: pI :: .clo 100 [] :: dz 5 (pB :: pB :: dz 136 []), []⟩
def jnd : Sh := ⟨.mtk 800000 Y5 156 false :: pI :: pI :: pI :: .clo 100 [] :: dz 5 (pB :: pB :: pI :: pI :: dz 134 []), []⟩
def jmi : Sh := ⟨.mtk 800000 Y5 156 false :: pI :: pI :: pI :: .clo 100 [] :: dz 5 (pB :: pB :: pI :: pI :: pI :: dz 133 []), []⟩
def js7 : Sh := ⟨.mtk 800000 Y5 156 false :: pI :: pI :: pI :: .clo 100 [] :: dz 5 (pB :: pB :: pI :: dz 135 []), []⟩
def jK (N D : Nat) (e : List Z1) (a b limit : Int) (h : Unit) : Option ((List Z1)) := pdqG (cmp105 N) (fun c a b d => heapG (cmp105 N) N c a b d) (fun c a b f d => peqG (cmp105 N) N c a b f d) N D e a b limit h
 
def jcj (N D : Nat) : Model := ⟨⟨[.mtk 800000 Y5 156 false, pI, pI, pI, .clo 100 []], []⟩, ⟨[.tup [], .mtk 800000 Y5 156 false], []⟩, c5A (jK N D)⟩
theorem jrm (N D : Nat) (ih : mK 175 (jcj N D)) : mK 175 (jcj N (D + 1)) :=
 mO (fC ih (fC (jqw N) (fC (jqz N) (fC (jlO N) (fC (joO N) (fC (jma N) (fC (jnw N) (fC (jaf N) (fC (jp1 N) (fC (jrO N) ja)))))))))) Tryz.func175 rfl N (.seq .no (.seq .no (.block (.loop jmM (.block (.seq .no (.seq .no (.seq .no (.meet js7 .no (.seq .no (.meet jmi .no (.meet jnd .no .no)))))))))))) (jcj N (D + 1)) (rs := [800000])
theorem jix (N : Nat) : ∀ D, mK 175 (jcj N D)
 | 0 => modelOk_none ⟨_, Tryz.func175, by decide, by kernel_rfl⟩ _ (fun a => rfl)
 | D + 1 => jrm N D (jix N D)
def k_slices_SortFunc_105_m (N : Nat) (a : List Z1) (d : Unit) : Option ((List Z1)) :=
 (oB (k_math_bits_Len_m N (IntKind.u64.wrap (a.length : Int))) fun c => oB (jK N N a 0 (a.length : Int) c ()) fun b => some b)
theorem jtu (N : Nat) : mK 99 ⟨⟨[.mtk 800000 Y5 156 false, .clo 100 []], []⟩, ⟨[.tup [], .mtk 800000 Y5 156 false], []⟩, c2A (k_slices_SortFunc_105_m N)⟩ :=
 mO (fC (jda N) (fC (jix N N) ja)) Tryz.func99 rfl N .no _ (rs := [800000])
def jmK : Sh := ⟨.dead :: .dead :: .box 2 0 :: .dead :: .box 4 0 :: .box 5 0 :: dz 19 (.pv Y2 :: pI :: pI :: dz 32 []), [(2, false, [.pv (.sl .str), .pv Y14]), (4, false, [.nils, .nils]), (5, false, [.pv Y2, .tre 700501 Y5 156])]⟩
def jor : Sh := ⟨.dead :: .dead :: .box 2 0 :: .dead :: .box 4 0 :: .box 5 0 :: .dead :: .box 7 0 :: dz 17 (.pv Y2 :: pI :: pI :: dz 4 (.pv Y17 :: pI :: pI :: dz 25 [])), [(2, false, [.pv (.sl .str), .pv Y14]), (4, false, [.nils, .nils]), (5, false, [.pv Y2, .tre 700501 Y5 156]), (7, false, [pI, .pv Y17, .pv Y13])]⟩
def jnj : Sh := ⟨.dead :: .dead :: .box 2 0 :: .dead :: .box 4 0 :: .box 5 0 :: .dead :: .box 7 0 :: .dead :: .box 9 0 :: dz 15 (.pv Y2 :: pI :: pI :: dz 4 (.pv Y17 :: pI :: pI :: dz 6 (.own 600041 Y15 151 true :: pI :: pI :: dz 16 []))), [(2, false, [.pv (.sl .str), .pv Y14]), (4, false, [.nils, .nils]), (5, false, [.pv Y2, .tre 700501 Y5 156]), (7, false, [pI, .pv Y17, .pv Y13]), (9, false, [pS, pS])]⟩
def i_SegOf_m (N : Nat) (c : List Z0) (c2 : List Z3) (docs : List Z2) : Option ((List Z2) × (List Z1)) :=
 (oB (jaj N c c2) fun r => bif !r then some (([] : List Z2), ([] : List Z1)) else oB (jbf N docs) fun r2 => bif !r2 then some (([] : List Z2), ([] : List Z1)) else oB (jbV N docs) fun r3 => iter (fun go (t25, t26, t27, c3, c4, s, s2) => bif decide (t27 < t26) then oB (idx t25 t27) fun e => (iter (fun go2 (t252, t262, t272, t32, t33, t34, c5, c6, s3, s4, d, d2, d3) => bif decide (t34 < t33) then oB (idx t32 t34) fun e2 => (oB (jbw N c5 c6 e2.2) fun r4 => iter (fun go3 (t253, t263, t273, t322, t332, t342, t41, t42, t43, c7, c8, s5, s6, d4, d5, d6, f, f2) => bif decide (t43 < t42) then oB (idx t41 t43) fun e3 => (oB (i_Seg_put_m N f e3.1 e3.2 d4 s5 s6) fun r5 => if fits (t43 + 1) then go3 (t253, t263, t273, t322, t332, t342, t41, t42, (t43 + 1), c7, c8, r5.1, r5.2, d4, d5, d6, f, f2) else none) else if fits (t342 + 1) then go2 (t253, t263, t273, t322, t332, (t342 + 1), c7, c8, s5, s6, d4, d5, d6) else none) N (t252, t262, t272, t32, t33, t34, r4, (r4.length : Int), (0 : Int), c5, c6, s3, s4, d, d2, d3, e2.1, e2.2)) else if fits (t272 + 1) then go (t252, t262, (t272 + 1), c5, c6, s3, s4) else none) N (t25, t26, t27, e.2.1, (e.2.1.length : Int), (0 : Int), c3, c4, s, s2, e.1, e.2.1, e.2.2)) else oB (k_slices_SortFunc_105_m N s2 ()) fun r6 => some (s, r6)) N (docs, (docs.length : Int), (0 : Int), c, c2, r3, ([] : List Z1)))
theorem jqC (N : Nat) : mK 31 ⟨⟨[.agg [.pv (.sl .str), .pv Y14], .pv Y2], []⟩, ⟨[.agg [.pv Y2, .own 1 Y5 156 false]], []⟩, c3A (i_SegOf_m N)⟩ :=
 mO (fC (jdX N) (fC (jjU N) (fC (joC N) (fC (jgO N) (fC (jky N) (fC (jtu N) ja)))))) Tryz.func31 rfl N (.seq .no (.seq .no (.seq .no (.seq (.seq .no (.block (.loop jmK (.seq .no (.seq .no (.seq (.block (.seq .no (.seq .no (.block (.loop jor (.seq .no (.seq .no (.seq (.block (.seq .no (.seq .no (.block (.loop jnj .no))))) .no)))))))) .no)))))) .no)))) _ (wr := [23]) (dw := [23, 57])
def jqv : Sh := ⟨.dead :: pI :: .dead :: .dead :: .box 4 0 :: dz 6 (.pv Y2 :: pI :: pI :: dz 10 []), [(4, false, [pI, .nils, .nils])]⟩
def i_Seg_doc_m (N : Nat) (d : (List Z2) × (List Z1)) (h : Int) : Option (Int × Z9 × Z5 × Bool) :=
 (iter (fun k (e, f, c, a, j) => bif decide (a < c) then oB (idx f a) fun b => (bif decide (b.1 = e) then some (b.1, b.2.1, b.2.2, true) else if fits (a + 1) then k (e, f, c, (a + 1), j) else none) else some (0, ([] : Z11), ([] : Z6), false)) N (h, d.1, (d.1.length : Int), (0 : Int), (0 : Int)))
theorem jlU (N : Nat) : mK 159 ⟨⟨[.ptr Y1, pI], []⟩, ⟨[.tup [.agg [pI, .pv Y17, .pv Y13], pB]], []⟩, c2A (i_Seg_doc_m N)⟩ :=
 mO ja Tryz.func159 rfl N (.seq .no (.seq (.seq .no (.block (.loop jqv .no))) .no)) _
def jtB : Sh := ⟨.pv Y19 :: .pv Y19 :: dz 10 (pI :: pI :: dz 12 []), []⟩
def jbX (N : Nat) (b : List Int) (d : List Int) : Z7 :=
 (bif !decide ((b.length : Int) = (d.length : Int)) then some false else iter (fun k (e, f, c, a) => bif decide (a < c) then oB (idx e a) fun j => (oB (idx f a) fun h => bif !decide (j = h) then some false else if fits (a + 1) then k (e, f, c, (a + 1)) else none) else some true) N (b, d, (b.length : Int), (0 : Int)))
theorem jqi (N : Nat) : mK 250 ⟨⟨[.pv Y19, .pv Y19], []⟩, ⟨[pB], []⟩, c2A (jbX N)⟩ :=
 mO ja Tryz.func250 rfl N (.seq .no (.seq .no (.seq (.seq .no (.block (.loop jtB .no))) .no))) _
def jcp (N : Nat) (b : Int) (c : List Int) (e : Int) (a : List Int) : Z7 :=
 (bif decide (b = e) then oB (jbX N c a) fun d => (some d) else some false)
theorem jth (N : Nat) : mK 187 ⟨⟨[.agg [pI, .pv Y19], .agg [pI, .pv Y19]], []⟩, ⟨[pB], []⟩, c4A (jcp N)⟩ :=
 mO (fC (jqi N) ja) Tryz.func187 rfl N .no _
def jlX : Sh := ⟨.dead :: .pv Y11 :: .clo 187 [] :: dz 12 (.pv Y11 :: pI :: pI :: dz 14 []), []⟩
def jb6 (N : Nat) (b : Z4) (e : Z4) (n : Unit) : Z7 :=
 (bif !decide ((b.length : Int) = (e.length : Int)) then some false else iter (fun l (i, m, d, f, a) => bif decide (a < f) then oB (idx d a) fun h => (oB (idx i a) fun c => oB (jcp N h.1 h.2 c.1 c.2) fun k => bif !k then some false else if fits (a + 1) then l (i, (), d, f, (a + 1)) else none) else some true) N (e, (), b, (b.length : Int), (0 : Int)))
theorem jnG (N : Nat) : mK 186 ⟨⟨[.pv Y11, .pv Y11, .clo 187 []], []⟩, ⟨[pB], []⟩, c3A (jb6 N)⟩ :=
 mO (fC (jth N) ja) Tryz.func186 rfl N (.seq .no (.seq .no (.seq (.seq .no (.block (.loop jlX .no))) .no))) _
def jcz (N : Nat) (b : List UInt8) (f : List UInt8) (e : Z4) (d : List UInt8) (a : List UInt8) (c : Z4) : Z7 :=
 (bif decide (b = d) then bif decide (f = a) then oB (jb6 N e c ()) fun h => (some h) else (some false) else some false)
theorem jp4 (N : Nat) : mK 115 ⟨⟨[.agg [pS, pS, .pv Y11], .agg [pS, pS, .pv Y11]], []⟩, ⟨[pB], []⟩, c6A (jcz N)⟩ :=
 mO (fC (jnG N) ja) Tryz.func115 rfl N .no _
def jlD : Sh := ⟨.dead :: .pv Y4 :: .clo 115 [] :: dz 12 (.pv Y4 :: pI :: pI :: dz 14 []), []⟩
def jcn (N : Nat) (c : List Z1) (f : List Z1) (n : Unit) : Z7 :=
 (bif !decide ((c.length : Int) = (f.length : Int)) then some false else iter (fun l (i, m, e, h, a) => bif decide (a < h) then oB (idx e a) fun d => (oB (idx i a) fun b => oB (jcz N d.1 d.2.1 d.2.2 b.1 b.2.1 b.2.2) fun k => bif !k then some false else if fits (a + 1) then l (i, (), e, h, (a + 1)) else none) else some true) N (f, (), c, (c.length : Int), (0 : Int)))
theorem jsa (N : Nat) : mK 114 ⟨⟨[.pv Y4, .pv Y4, .clo 115 []], []⟩, ⟨[pB], []⟩, c3A (jcn N)⟩ :=
 mO (fC (jp4 N) ja) Tryz.func114 rfl N (.seq .no (.seq .no (.seq (.seq .no (.block (.loop jlD .no))) .no))) _
def i_SegOk_m (N : Nat) (a : List Z0) (c : List Z3) (b : List Z2) (f : List Z1) : Z7 :=
 (oB (jaj N a c) fun i => bif !i then some false else oB (jbf N b) fun h => bif !h then some false else oB (i_SegOf_m N a c b) fun e => oB (jcn N e.2 f ()) fun d => some d)
theorem joa (N : Nat) : mK 37 ⟨⟨[.agg [.pv (.sl .str), .pv Y14], .agg [.pv Y2, .pv Y4]], []⟩, ⟨[pB], []⟩, c4A (i_SegOk_m N)⟩ :=
 mO (fC (jdX N) (fC (jjU N) (fC (jqC N) (fC (jsa N) ja)))) Tryz.func37 rfl N .no _
def jyc (N : Nat) (c : List Z0) (d : List Z3) (a : List UInt8) : Option (Z0) :=
 (oB (jO N a) fun f => bif !f then some ([] : List UInt8) else oB (jbw N c d a) fun b => bif decide ((b.length : Int) = 0) then some ([] : List UInt8) else oB (idx b 0) fun e => some e.1)
theorem jBn (N : Nat) : mK 224 ⟨⟨[.agg [.pv (.sl .str), .pv Y14], pS], []⟩, ⟨[pS], []⟩, c3A (jyc N)⟩ :=
 mO (fC (jcM N) (fC (jgO N) ja)) Tryz.func224 rfl N .no _
def jnu : Sh := ⟨.dead :: pS :: pS :: dz 9 (.pv Y4 :: pI :: pI :: dz 16 []), []⟩
def i_Seg_posts_m (N : Nat) (h : (List Z2) × (List Z1)) (k : List UInt8) (l : List UInt8) : Option (Z17) :=
 (iter (fun i (d, e, b, c, a) => bif decide (a < c) then oB (idx b a) fun f => (bif decide (f.1 = d) then bif decide (f.2.1 = e) then some f.2.2 else (if fits (a + 1) then i (d, e, b, c, (a + 1)) else none) else if fits (a + 1) then i (d, e, b, c, (a + 1)) else none) else some ([] : Z4)) N (k, l, h.2, (h.2.length : Int), (0 : Int)))
theorem jcq (N : Nat) : mK 280 ⟨⟨[.ptr Y1, pS, pS], []⟩, ⟨[.pv Y11], []⟩, c3A (i_Seg_posts_m N)⟩ :=
 mO ja Tryz.func280 rfl N (.seq .no (.seq (.seq .no (.block (.loop jnu .no))) .no)) _
def jni : Sh := ⟨dz 3 (pI :: dz 12 (.pv Y11 :: pI :: pI :: dz 10 [])), []⟩
def i_scorer_places_m (N : Nat) (l : ((List Z0) × (List Z3)) × (List Z2) × (List Z1)) (j : List UInt8) (k : List UInt8) (h : Int) : Option ((List Int)) :=
 (oB (i_Seg_posts_m N l.2 j k) fun c => iter (fun m (e, b, d, a) => bif decide (a < d) then oB (idx b a) fun f => (bif decide (f.1 = e) then some f.2 else if fits (a + 1) then m (e, b, d, (a + 1)) else none) else some ([] : List Int)) N (h, c, (c.length : Int), (0 : Int)))
theorem jrB (N : Nat) : mK 229 ⟨⟨[.ptr Y0, pS, pS, pI], []⟩, ⟨[.pv Y19], []⟩, c4A (i_scorer_places_m N)⟩ :=
 mO (fC (jcq N) ja) Tryz.func229 rfl N (.seq .no (.seq (.seq .no (.block (.loop jni .no))) .no)) _
def jmV : Sh := ⟨.dead :: pS :: dz 8 (.pv Y17 :: pI :: pI :: dz 10 []), []⟩
def i_DocField_m (N : Nat) (i : Int) (b : Z11) (h : Z6) (l : List UInt8) : Option (Z0) :=
 (oB (jbx N i b h) fun k => bif k then iter (fun m (c, d, e, a) => bif decide (a < e) then oB (idx d a) fun f => (bif decide (f.1 = c) then some f.2 else if fits (a + 1) then m (c, d, e, (a + 1)) else none) else some ([] : List UInt8)) N (l, b, (b.length : Int), (0 : Int)) else some ([] : List UInt8))
theorem jqd (N : Nat) : mK 322 ⟨⟨[.agg [pI, .pv Y17, .pv Y13], pS], []⟩, ⟨[pS], []⟩, c4A (i_DocField_m N)⟩ :=
 mO (fC (jh0 N) ja) Tryz.func322 rfl N (.seq .no (.seq (.seq .no (.cond (.seq .no (.block (.loop jmV .no))) .no)) .no)) _
def i_Seg_long_m (N : Nat) (e : (List Z2) × (List Z1)) (b : List Z0) (f : List Z3) (h : List UInt8) (d : Int) : Z10 :=
 (oB (i_Seg_doc_m N e d) fun a => bif !a.2.2.2 then some 0 else oB (i_DocField_m N a.1 a.2.1 a.2.2.1 h) fun i => oB (jbw N b f i) fun c => some (c.length : Int))
theorem jhs (N : Nat) : mK 278 ⟨⟨[.ptr Y1, .agg [.pv (.sl .str), .pv Y14], pS, pI], []⟩, ⟨[pI], []⟩, c5A (i_Seg_long_m N)⟩ :=
 mO (fC (jlU N) (fC (jqd N) (fC (jgO N) ja))) Tryz.func278 rfl N .no _
def joq : Sh := ⟨pI :: pI :: dz 13 [], []⟩
def ja2 (N : Nat) (d : Int) (f : Int) : Z10 :=
 (iter (fun e (a, b) => bif !decide (b = 0) then if b ≠ 0 then e (b, (a.tmod b)) else none else if fits (0 - a) then some (if (0 - a) > a then 0 - a else a) else none) N (d, f))
theorem jiQ (N : Nat) : mK 342 ⟨⟨[pI, pI], []⟩, ⟨[pI], []⟩, c2A (ja2 N)⟩ :=
 mO ja Tryz.func342 rfl N (.seq .no (.seq (.block (.loop joq .no)) .no)) _
def jbk (N : Nat) (a : Int) (b : Int) : Z7 :=
 (oB (jm N a (-1000000000) 1000000000) fun d => bif d then oB (jm N b 1 1000000000) fun c => (bif c then oB (ja2 N a b) fun e => (some (decide (e = 1))) else some false) else some false)
theorem jhS (N : Nat) : mK 324 ⟨⟨[.agg [pI, pI]], []⟩, ⟨[pB], []⟩, c2A (jbk N)⟩ :=
 mO (fC (jY N) (fC (jiQ N) ja)) Tryz.func324 rfl N .no _
def jk5 : Sh := ⟨pI :: pI :: .dead :: .dead :: .box 4 0 :: dz 24 [], [(4, false, [pI, pI])]⟩
def jcl (N : Nat) (e : Int) (d : Int) : Option (Int × Int × Bool) :=
 (meet (fun (h : Int × Int × Int × Int) => match h with | (b, c, k, j) => oB (ja2 N b c) fun a => if a ≠ 0 then if fits (b.tdiv a) then if a ≠ 0 then if fits (c.tdiv a) then oB (jbk N (b.tdiv a) (c.tdiv a)) fun i => (bif !i then some (0, 1, false) else some ((b.tdiv a), (c.tdiv a), true)) else none else none else none else none) fun f => bif decide (d < 0) then if fits (0 - e) then if fits (0 - d) then f ((0 - e), (0 - d), 0, 0) else none else none else f (e, d, 0, 0))
theorem jlG (N : Nat) : mK 341 ⟨⟨[pI, pI], []⟩, ⟨[.tup [.agg [pI, pI], pB]], []⟩, c2A (jcl N)⟩ :=
 mO (fC (jiQ N) (fC (jhS N) ja)) Tryz.func341 rfl N (.seq .no (.meet jk5 .no .no)) _
def jb7 (N : Nat) (c : Int) (b : Int) : Option (Int × Int × Bool) :=
 (oB (jm N c (-1000000000) 1000000000) fun e => bif !e then some (0, 1, false) else oB (jm N b (-1000000000) 1000000000) fun d => bif !d then some (0, 1, false) else bif decide (b = 0) then some (0, 1, false) else oB (jcl N c b) fun a => some (a.1, a.2.1, a.2.2))
theorem jpX (N : Nat) : mK 323 ⟨⟨[pI, pI], []⟩, ⟨[.tup [.agg [pI, pI], pB]], []⟩, c2A (jb7 N)⟩ :=
 mO (fC (jY N) (fC (jlG N) ja)) Tryz.func323 rfl N .no _
def jtO : Sh := ⟨pI :: pI :: pI :: pI :: pI :: dz 5 (.box 10 0 :: .dead :: pI :: dz 53 []), [(10, false, [pI, pI])]⟩
def i_TermScore_m (N : Nat) (k : Int) (j : Int) (m : Int) (i : Int) (l : Int) : Option (Int × Int × Bool) :=
 (oB (jm N k 1 80) fun w => bif !w then some (0, 1, false) else oB (jm N j k 80) fun r => bif !r then some (0, 1, false) else oB (jm N i 1 16) fun n => bif !n then some (0, 1, false) else oB (jm N l 1 i) fun u => bif !u then some (0, 1, false) else oB (jm N m j 1280) fun p => bif !p then some (0, 1, false) else iter (fun t (b, c, e, d, h, a, q, o) => if fits (a + 1) then if 0 ≤ (a + 1) then if fits (h * 2 ^ (min (a + 1).toNat (IntKind.bits .i64))) then bif decide ((h * 2 ^ (min (a + 1).toNat (IntKind.bits .i64))) ≤ d) then if fits (a + 1) then t (b, c, e, d, h, (a + 1), q, o) else none else (if fits (22 * b) then if fits (a + 1) then if fits ((22 * b) * (a + 1)) then if fits (10 * b) then if fits ((10 * b) + 3) then if fits (9 * c) then if fits ((9 * c) * d) then if e ≠ 0 then if fits (((9 * c) * d).tdiv e) then if fits (((10 * b) + 3) + (((9 * c) * d).tdiv e)) then oB (jb7 N ((22 * b) * (a + 1)) (((10 * b) + 3) + (((9 * c) * d).tdiv e))) fun f => (some (f.1, f.2.1, f.2.2)) else none else none else none else none else none else none else none else none else none else none) else none else none else none) N (k, j, m, i, l, (0 : Int), (0 : Int), (0 : Int)))
theorem jgE (N : Nat) : mK 279 ⟨⟨[pI, pI, pI, pI, pI], []⟩, ⟨[.tup [.agg [pI, pI], pB]], []⟩, c5A (i_TermScore_m N)⟩ :=
 mO (fC (jY N) (fC (jpX N) ja)) Tryz.func279 rfl N (.seq .no (.seq .no (.seq .no (.seq (.block (.loop jtO .no)) .no)))) _
def i_RatFloor_m (N : Nat) (c : Int) (a : Int) (b : Int) : Z10 :=
 (oB (jbk N c a) fun e => bif !e then some 0 else oB (jm N b 1 1000) fun d => bif !d then some 0 else if fits (c * b) then bif decide ((0 : Int) ≤ (c * b)) then if a ≠ 0 then if fits ((c * b).tdiv a) then some ((c * b).tdiv a) else none else none else (if fits (0 - (c * b)) then if fits ((0 - (c * b)) + a) then if fits (((0 - (c * b)) + a) - 1) then if a ≠ 0 then if fits ((((0 - (c * b)) + a) - 1).tdiv a) then if fits (0 - ((((0 - (c * b)) + a) - 1).tdiv a)) then some (0 - ((((0 - (c * b)) + a) - 1).tdiv a)) else none else none else none else none else none else none) else none)
theorem jiY (N : Nat) : mK 281 ⟨⟨[.agg [pI, pI], pI], []⟩, ⟨[pI], []⟩, c3A (i_RatFloor_m N)⟩ :=
 mO (fC (jhS N) (fC (jY N) ja)) Tryz.func281 rfl N .no _
def jlZ : Sh := ⟨.ptr Y0 :: pS :: pS :: pI :: dz 5 (.pv Y19 :: pI :: dz 16 (.pv Y2 :: pI :: pI :: dz 49 [])), []⟩
def i_scorer_points_m (N : Nat) (d : ((List Z0) × (List Z3)) × (List Z2) × (List Z1)) (n : List UInt8) (j : List UInt8) (f : Int) : Z10 :=
 (oB (i_scorer_places_m N d n j f) fun q => bif decide ((q.length : Int) = 0) then some 0 else iter (fun v (a, c, o, l, m, e, h, p, b) => bif decide (b < p) then oB (idx h b) fun u => (oB (i_Seg_long_m N a.2 a.1.1 a.1.2 c u.1) fun k => if fits (e + k) then if fits (b + 1) then v (a, c, o, l, m, (e + k), h, p, (b + 1)) else none else none) else oB (i_Seg_long_m N a.2 a.1.1 a.1.2 c l) fun r => oB (i_Seg_posts_m N a.2 c o) fun w => oB (i_TermScore_m N (m.length : Int) r e (a.2.1.length : Int) (w.length : Int)) fun i => oB (i_RatFloor_m N i.1 i.2.1 1000) fun t => some t) N (d, n, j, f, q, (0 : Int), d.2.1, (d.2.1.length : Int), (0 : Int)))
theorem jsD (N : Nat) : mK 223 ⟨⟨[.ptr Y0, pS, pS, pI], []⟩, ⟨[pI], []⟩, c4A (i_scorer_points_m N)⟩ :=
 mO (fC (jrB N) (fC (jhs N) (fC (jcq N) (fC (jgE N) (fC (jiY N) ja))))) Tryz.func223 rfl N (.seq .no (.seq .no (.seq .no (.seq .no (.seq (.seq .no (.block (.loop jlZ .no))) .no))))) _
def jyu (N : Nat) (a : List Z0) (b : List UInt8) : Option (Z0) := jxR a b
 
def jBB (N : Nat) : Model := ⟨⟨[.pv (.sl .str), pS], []⟩, ⟨[pS], []⟩, c2A (jyu N)⟩
theorem jBE (N : Nat) : mK 282 (jBB N) := jBz
def jDT : Sh := ⟨.pv Y19 :: dz 4 (.pv Y19 :: pI :: pI :: dz 24 []), []⟩
def jx1 (N : Nat) (c : List Int) : Z7 :=
 (iter (fun h (b, e, d, a) => bif decide (a < d) then oB (idx e a) fun f => (oB (jm N f 0 999999999) fun k => bif !k then some false else bif decide ((0 : Int) < a) then if fits (a - 1) then oB (idx b (a - 1)) fun j => (bif decide (f ≤ j) then some false else if fits (a + 1) then h (b, e, d, (a + 1)) else none) else none else if fits (a + 1) then h (b, e, d, (a + 1)) else none) else some (decide ((b.length : Int) ≤ 60))) N (c, c, (c.length : Int), (0 : Int)))
theorem jAN (N : Nat) : mK 120 ⟨⟨[.pv Y19], []⟩, ⟨[pB], []⟩, c1A (jx1 N)⟩ :=
 mO (fC (jY N) ja) Tryz.func120 rfl N (.seq .no (.seq (.seq .no (.block (.loop jDT .no))) .no)) _
def jBY : Sh := ⟨.pv (.sl Y19) :: dz 4 (.pv (.sl Y19) :: pI :: pI :: dz 10 []), []⟩
def jyD (N : Nat) (b : List (List Int)) : Z7 :=
 (iter (fun j (d, e, c, a) => bif decide (a < c) then oB (idx e a) fun i => (oB (jx1 N i) fun h => bif !h then some false else if fits (a + 1) then j (d, e, c, (a + 1)) else none) else some (decide ((d.length : Int) ≤ 6))) N (b, b, (b.length : Int), (0 : Int)))
theorem jD9 (N : Nat) : mK 345 ⟨⟨[.pv (.sl Y19)], []⟩, ⟨[pB], []⟩, c1A (jyD N)⟩ :=
 mO (fC (jAN N) ja) Tryz.func345 rfl N (.seq .no (.seq (.seq .no (.block (.loop jBY .no))) .no)) _
def jyK (N : Nat) (a : List (List Int)) : Z7 :=
 (bif decide ((0 : Int) < (a.length : Int)) then oB (jyD N a) fun b => (some b) else some false)
theorem jD6 (N : Nat) : mK 328 ⟨⟨[.pv (.sl Y19)], []⟩, ⟨[pB], []⟩, c1A (jyK N)⟩ :=
 mO (fC (jD9 N) ja) Tryz.func328 rfl N .no _
def jxH (N : Nat) (a : Int) : Z7 :=
 (some (!decide (a = a)))
theorem joK (N : Nat) : mK 267 ⟨⟨[pI], []⟩, ⟨[pB], []⟩, c1A (jxH N)⟩ :=
 mO ja Tryz.func267 rfl N .no _
def jye (N : Nat) (b : Int) (a : Int) : Z7 :=
 (oB (jxH N b) fun d => bif d then oB (jxH N a) fun c => (bif !c then some true else some (decide (b < a))) else some (decide (b < a)))
theorem jA5 (N : Nat) : mK 258 ⟨⟨[pI, pI], []⟩, ⟨[pB], []⟩, c2A (jye N)⟩ :=
 mO (fC (joK N) ja) Tryz.func258 rfl N .no _
def jxW (N : Nat) (a : Int) : Z7 :=
 (some (!decide (a = a)))
theorem jCp (N : Nat) : mK 354 ⟨⟨[pI], []⟩, ⟨[pB], []⟩, c1A (jxW N)⟩ :=
 mO ja Tryz.func354 rfl N .no _
def jB3 : Sh := ⟨.pv Y19 :: pI :: dz 4 (pI :: pI :: pI :: dz 45 []), []⟩
def jyA (N : Nat) (f : List Int) (m : Int) : Option (Int × Bool) :=
 (iter (fun h (c, d, e, a, b) => bif decide (a < b) then if fits (a + b) then if 0 ≤ (1 : Int) then oB (idx c (IntKind.i64.wrap ((IntKind.u64.wrap (a + b)).fdiv (2 ^ (min (1 : Int).toNat (IntKind.bits .u64)))))) fun n => (oB (jye N n d) fun p => bif p then if fits ((IntKind.i64.wrap ((IntKind.u64.wrap (a + b)).fdiv (2 ^ (min (1 : Int).toNat (IntKind.bits .u64))))) + 1) then h (c, d, e, ((IntKind.i64.wrap ((IntKind.u64.wrap (a + b)).fdiv (2 ^ (min (1 : Int).toNat (IntKind.bits .u64))))) + 1), b) else none else h (c, d, e, a, (IntKind.i64.wrap ((IntKind.u64.wrap (a + b)).fdiv (2 ^ (min (1 : Int).toNat (IntKind.bits .u64))))))) else none else none else bif decide (a < e) then oB (idx c a) fun l => (bif decide (l = d) then some (a, true) else oB (idx c a) fun i => oB (jxW N i) fun o => bif o then oB (jxW N d) fun j => (some (a, j)) else some (a, false)) else some (a, false)) N (f, m, (f.length : Int), (0 : Int), (f.length : Int)))
theorem jDL (N : Nat) : mK 346 ⟨⟨[.pv Y19, pI], []⟩, ⟨[.tup [pI, pB]], []⟩, c2A (jyA N)⟩ :=
 mO (fC (jA5 N) (fC (jCp N) ja)) Tryz.func346 rfl N (.seq .no (.seq .no (.seq .no (.seq (.block (.loop jB3 .no)) .no)))) _
def jys (N : Nat) (a : List Int) (d : Int) : Option (Int × Bool) :=
 (oB (jyA N a d) fun b => bif decide (b.1 = (a.length : Int)) then some (0, false) else oB (idx a b.1) fun c => some (c, true))
theorem jAO (N : Nat) : mK 329 ⟨⟨[.pv Y19, pI], []⟩, ⟨[.tup [pI, pB]], []⟩, c2A (jys N)⟩ :=
 mO (fC (jDL N) ja) Tryz.func329 rfl N .no _
def jBS : Sh := ⟨.pv (.sl Y19) :: pI :: dz 3 (.own 600005 tI 3 true :: dz 20 (.pv Y19 :: pI :: pI :: dz 42 [])), []⟩
def jDv : Sh := ⟨.pv (.sl Y19) :: pI :: dz 3 (.own 600005 tI 3 true :: .dead :: pI :: pI :: pB :: dz 16 (.pv Y19 :: pI :: pI :: dz 5 (.pv (.sl Y19) :: pI :: pI :: dz 34 []))), []⟩
def jyw (N : Nat) (k : List (List Int)) (u : Int) : Option ((List Int)) :=
 (oB (jyK N k) fun G => bif !G then some ([] : List Int) else oB (jm N u 0 5) fun E => bif !E then some ([] : List Int) else oB (idx k 0) fun y => iter (fun o (m, D, w, x, t, r) => bif decide (r < t) then oB (idx x r) fun B => (oB (cut m 1 (m.length : Int)) fun z => iter (fun A (a, d, f, c, p, v, h, i, b, n, l, e) => bif decide (e < l) then oB (idx n e) fun C => (if fits (p + 1) then oB (jys N C (p + 1)) fun j => (bif v then if fits (e + 1) then A (a, d, f, c, j.1, j.2, h, i, b, n, l, (e + 1)) else none else if fits (e + 1) then A (a, d, f, c, j.1, false, h, i, b, n, l, (e + 1)) else none) else none) else bif v then if fits (c + (a.length : Int)) then if fits ((c + (a.length : Int)) - 1) then if fits (((c + (a.length : Int)) - 1) + d) then bif decide (p ≤ (((c + (a.length : Int)) - 1) + d)) then if room f.length ([c] : List Int).length 8 then if fits (b + 1) then o (a, d, (f ++ ([c] : List Int)), h, i, (b + 1)) else none else none else (if fits (b + 1) then o (a, d, f, h, i, (b + 1)) else none) else none else none else none else if fits (b + 1) then o (a, d, f, h, i, (b + 1)) else none) N (m, D, w, B, B, true, x, t, r, z, (z.length : Int), (0 : Int))) else some w) N (k, u, ([] : List Int), y, (y.length : Int), (0 : Int)))
theorem jCX (N : Nat) : mK 283 ⟨⟨[.pv (.sl Y19), pI], []⟩, ⟨[.own 1 tI 3 true], []⟩, c2A (jyw N)⟩ :=
 mO (fC (jD6 N) (fC (jY N) (fC (jAO N) ja))) Tryz.func283 rfl N (.seq .no (.seq .no (.seq .no (.seq (.seq .no (.block (.loop jBS (.seq .no (.seq .no (.seq (.block (.seq .no (.seq .no (.seq (.seq .no (.block (.loop jDv .no))) .no)))) .no)))))) .no)))) _
def jCk : Sh := ⟨.ptr Y0 :: dz 3 (.box 4 0 :: .box 5 0 :: .dead :: .own 600007 Y15 151 true :: .own 600008 Y19 66 true :: pI :: dz 18 (.pv Y13 :: pI :: pI :: dz 59 [])), [(4, false, [pI, pS, .pv (.sl .str), pI, pI, .pv (.sl .q)]), (5, false, [pI, .pv Y17, .pv Y13])]⟩
def jDK : Sh := ⟨.ptr Y0 :: dz 3 (.box 4 0 :: .box 5 0 :: .dead :: .own 600007 Y15 151 true :: .own 600008 Y19 66 true :: pI :: pI :: .box 11 0 :: .own 600012 tI 3 true :: dz 15 (.pv Y13 :: pI :: pI :: dz 12 (.pv Y19 :: pI :: pI :: dz 44 []))), [(4, false, [pI, pS, .pv (.sl .str), pI, pI, .pv (.sl .q)]), (5, false, [pI, .pv Y17, .pv Y13]), (11, false, [pS, pI])]⟩
def jyB (N : Nat) (x : ((List Z0) × (List Z3)) × (List Z2) × (List Z1)) (q : Int) (q2 : List UInt8) (q3 : List Z0) (q4 : Int) (q5 : Int) (q6 : List DQ) (d : Int) (d2 : Z11) (d3 : Z6) : Z10 :=
 (oB (jyu N q3 ([32] : List UInt8)) fun r => oB (jbw N x.1.1 x.1.2 r) fun r2 => bif decide ((r2.length : Int) = 0) then some 0 else iter (fun go (x2, terms, lists, all, t28, t29, t30, q7, q8, q9, q10, q11, q12, d4, d5, d6) => bif decide (t30 < t29) then oB (idx t28 t30) fun e => (oB (i_scorer_places_m N x2 q8 e.1 d4) fun r3 => iter (fun go2 (x3, terms2, lists2, all2, i, list, t282, t292, t302, t43, t44, t45, q13, q14, q15, q16, q17, q18, d7, d8, d9, t, t2) => bif decide (t45 < t44) then oB (idx t43 t45) fun e2 => (oB (idx terms2 0) fun e3 => if fits (t2 - e3.2) then if fits ((t2 - e3.2) - i) then if fits (e2 - ((t2 - e3.2) - i)) then bif decide ((0 : Int) ≤ (e2 - ((t2 - e3.2) - i))) then if room list.length ([(e2 - ((t2 - e3.2) - i))] : List Int).length 8 then if fits (t45 + 1) then go2 (x3, terms2, lists2, all2, i, (list ++ ([(e2 - ((t2 - e3.2) - i))] : List Int)), t282, t292, t302, t43, t44, (t45 + 1), q13, q14, q15, q16, q17, q18, d7, d8, d9, t, t2) else none else none else (if fits (t45 + 1) then go2 (x3, terms2, lists2, all2, i, list, t282, t292, t302, t43, t44, (t45 + 1), q13, q14, q15, q16, q17, q18, d7, d8, d9, t, t2) else none) else none else none else none) else if room lists2.length ([list] : List (List Int)).length 24 then oB (i_scorer_points_m N x3 q14 t d7) fun r4 => (if fits (all2 + r4) then if fits (t302 + 1) then go (x3, terms2, (lists2 ++ ([list] : List (List Int))), (all2 + r4), t282, t292, (t302 + 1), q13, q14, q15, q16, q17, q18, d7, d8, d9) else none else none) else none) N (x2, terms, lists, all, t30, ([] : List Int), t28, t29, t30, r3, (r3.length : Int), (0 : Int), q7, q8, q9, q10, q11, q12, d4, d5, d6, e.1, e.2)) else oB (jyw N lists q10) fun r5 => if fits ((if (r5.length : Int) < 3 then (r5.length : Int) else 3) * all) then some ((if (r5.length : Int) < 3 then (r5.length : Int) else 3) * all) else none) N (x, r2, ([] : List (List Int)), (0 : Int), r2, (r2.length : Int), (0 : Int), q, q2, q3, q4, q5, q6, d, d2, d3))
theorem jDC (N : Nat) : mK 225 ⟨⟨[.ptr Y0, .agg [pI, pS, .pv (.sl .str), pI, pI, .pv (.sl .q)], .agg [pI, .pv Y17, .pv Y13]], []⟩, ⟨[pI], []⟩, c10A (jyB N)⟩ :=
 mO (fC (jBE N) (fC (jgO N) (fC (jrB N) (fC (jsD N) (fC (jCX N) ja))))) Tryz.func225 rfl N (.seq .no (.seq .no (.seq .no (.seq .no (.seq .no (.seq (.seq .no (.block (.loop jCk (.seq .no (.seq .no (.seq (.block (.seq .no (.seq .no (.seq (.seq .no (.block (.loop jDK .no))) .no)))) .no)))))) .no)))))) _
def jtE : Sh := ⟨.dead :: pS :: dz 3 (.own 600005 .str 9 true :: dz 6 (.pv Y4 :: pI :: pI :: dz 14 [])), []⟩
def i_Seg_terms_m (N : Nat) (h : (List Z2) × (List Z1)) (k : List UInt8) : Option ((List Z0)) :=
 (iter (fun i (e, b, c, d, a) => bif decide (a < d) then oB (idx c a) fun f => (bif decide (f.1 = e) then if room b.length ([f.2.1] : List Z0).length 16 then if fits (a + 1) then i (e, (b ++ ([f.2.1] : List Z0)), c, d, (a + 1)) else none else none else if fits (a + 1) then i (e, b, c, d, (a + 1)) else none) else some b) N (k, ([] : List Z0), h.2, (h.2.length : Int), (0 : Int)))
theorem jln (N : Nat) : mK 226 ⟨⟨[.ptr Y1, pS], []⟩, ⟨[.own 1 .str 9 true], []⟩, c2A (i_Seg_terms_m N)⟩ :=
 mO ja Tryz.func226 rfl N (.seq .no (.seq .no (.seq (.seq .no (.block (.loop jtE .no))) .no))) _
def jDE : Sh := ⟨pS :: pS :: dz 3 (.mtk 600005 tI 3 true :: dz 18 (pI :: pI :: dz 62 [])), []⟩
def jBC : Sh := ⟨pS :: pS :: dz 3 (.mtk 600005 tI 3 true :: .dead :: pI :: dz 80 []), []⟩
def jCv : Sh := ⟨pS :: pS :: dz 3 (.mtk 600005 tI 3 true :: .dead :: pI :: pI :: pI :: dz 78 []), []⟩
def jAI : Sh := ⟨pS :: pS :: dz 3 (.mtk 600005 tI 3 true :: .dead :: pI :: .dead :: pI :: pI :: dz 77 []), []⟩
def jAQ : Sh := ⟨pS :: pS :: dz 3 (.mtk 22 tI 3 true :: dz 82 []), []⟩
def jDZ : Sh := ⟨pS :: pS :: dz 86 [], []⟩
def i_NearFar_m (N : Nat) (a : List UInt8) (b : List UInt8) : Z10 :=
 (meet (fun (g : Z0 × Z0) => match g with | (a2, b2) => meet (fun (g : Z0 × Z0 × (List Int)) => match g with | (a3, b3, row) => iter (fun go (a4, b4, row2, t24, t25) => bif decide (t25 < t24) then if 0 ≤ t25 ∧ t25 < (row2.length : Int) then oB (row2[t25.toNat]?) fun e => (if fits (t25 + 1) then go (a4, b4, (row2.set t25.toNat t25), t24, (t25 + 1)) else none) else none else iter (fun go2 (a5, b5, row3, i) => bif decide (i ≤ (a5.length : Int)) then if 0 ≤ (0 : Int) ∧ (0 : Int) < (row3.length : Int) then oB (row3[(0 : Int).toNat]?) fun e2 => (if 0 ≤ (0 : Int) ∧ (0 : Int) < (row3.length : Int) then oB (row3[(0 : Int).toNat]?) fun e3 => (iter (fun go3 (a6, b6, row4, i2, corner, j) => bif decide (j ≤ (b6.length : Int)) then meet (fun (g : Z18) => match g with | (a7, b7, row5, i3, j2, cost) => if 0 ≤ j2 ∧ j2 < (row5.length : Int) then oB (row5[j2.toNat]?) fun e4 => (if 0 ≤ j2 ∧ j2 < (row5.length : Int) then oB (row5[j2.toNat]?) fun e5 => (if fits (e5 + 1) then if fits (j2 - 1) then if 0 ≤ (j2 - 1) ∧ (j2 - 1) < (row5.length : Int) then oB (row5[(j2 - 1).toNat]?) fun e6 => (if fits (e6 + 1) then if 0 ≤ j2 ∧ j2 < (row5.length : Int) then oB (row5[j2.toNat]?) fun e7 => (if fits (j2 + 1) then go3 (a7, b7, (row5.set j2.toNat (if (e6 + 1) < (if (e5 + 1) < cost then e5 + 1 else cost) then e6 + 1 else if (e5 + 1) < cost then e5 + 1 else cost)), i3, e4, (j2 + 1)) else none) else none else none) else none else none else none) else none) else none) fun J3 => (if fits (i2 - 1) then oB (idx a6 (i2 - 1)) fun c => (if fits (j - 1) then oB (idx b6 (j - 1)) fun c2 => (bif !decide ((c.toNat : Int) = (c2.toNat : Int)) then if fits (corner + 1) then J3 (a6, b6, row4, i2, j, (corner + 1)) else none else J3 (a6, b6, row4, i2, j, corner)) else none) else none) else if fits (i2 + 1) then go2 (a6, b6, row4, (i2 + 1)) else none) N (a5, b5, (row3.set (0 : Int).toNat i), i, e2, (1 : Int))) else none) else none else if 0 ≤ (b5.length : Int) ∧ (b5.length : Int) < (row3.length : Int) then oB (row3[(b5.length : Int).toNat]?) fun e8 => (some e8) else none) N (a4, b4, row2, (1 : Int))) N (a3, b3, row, (row.length : Int), (0 : Int))) fun J2 => if fits ((b2.length : Int) + 1) then if ((b2.length : Int) + 1) = ((b2.length : Int) + 1) ∧ 0 ≤ ((b2.length : Int) + 1) ∧ ((b2.length : Int) + 1) * 8 ≤ 140737488355328 ∧ ((b2.length : Int) + 1) ≤ 140737488355328 then J2 (a2, b2, (List.replicate ((b2.length : Int) + 1).toNat 0)) else none else none) fun J => oB (jO N a) fun r => bif !r then some (-1) else oB (jO N b) fun r2 => bif !r2 then some (-1) else J (a, b))
theorem jDu (N : Nat) : mK 227 ⟨⟨[pS, pS], []⟩, ⟨[pI], []⟩, c2A (i_NearFar_m N)⟩ :=
 mO (fC (jcM N) ja) Tryz.func227 rfl N (.seq .no (.meet jDZ .no (.meet jAQ .no (.seq (.seq .no (.block (.loop jDE .no))) (.seq (.seq .no (.block (.loop jBC (.seq .no (.seq (.block (.seq .no (.seq .no (.seq .no (.block (.loop jCv (.seq .no (.seq (.block (.seq .no (.meet jAI .no .no))) .no)))))))) .no))))) .no))))) _ (wr := [22])
def jxG (N : Nat) : (D : Nat) → Z0 → Z0 → Z7
 | 0, _, _ => none
 | D + 1, p, s =>
 bif decide (p = ([] : List UInt8)) then
 some (decide (s = ([] : List UInt8)))
 else
 oB (idx p 0) fun c =>
 bif decide ((c.toNat : Int) = 42) then
 oB (cut p 1 (p.length : Int)) fun y =>
 (oB (jxG N D y s) fun r =>
 bif r then
 some true
 else
 bif !decide (s = ([] : List UInt8)) then
 oB (cut s 1 (s.length : Int)) fun y2 =>
 (oB (jxG N D p y2) fun r2 =>
 some r2)
 else
 some false)
 else
 bif decide (s = ([] : List UInt8)) then
 some false
 else
 oB (idx p 0) fun c2 =>
 bif decide ((c2.toNat : Int) = 63) then
 oB (cut p 1 (p.length : Int)) fun y3 =>
 (oB (cut s 1 (s.length : Int)) fun y4 =>
 oB (jxG N D y3 y4) fun r3 =>
 some r3)
 else
 oB (idx p 0) fun c3 =>
 oB (idx s 0) fun c4 =>
 bif decide ((c3.toNat : Int) = (c4.toNat : Int)) then
 oB (cut p 1 (p.length : Int)) fun y5 =>
 (oB (cut s 1 (s.length : Int)) fun y6 =>
 oB (jxG N D y5 y6) fun r4 =>
 some r4)
 else
 some false
def jyg (N D : Nat) : Model := ⟨⟨[pS, pS], []⟩, ⟨[pB], []⟩, c2A (jxG N D)⟩
theorem jBG (N D : Nat) (ih : mK 284 (jyg N D)) : mK 284 (jyg N (D + 1)) :=
 mO (fC ih ja) Tryz.func284 rfl N .no (jyg N (D + 1))
theorem jAz (N : Nat) : ∀ D, mK 284 (jyg N D)
 | 0 => modelOk_none ⟨_, Tryz.func284, by decide, by kernel_rfl⟩ _ (fun a => rfl)
 | D + 1 => jBG N D (jAz N D)
def jx0 (N : Nat) (a : List UInt8) (b : List UInt8) : Z7 :=
 (oB (jxV N a) fun e => bif e then oB (jO N b) fun d => (bif d then oB (jxG N N a b) fun c => (some c) else some false) else some false)
theorem jDd (N : Nat) : mK 228 ⟨⟨[pS, pS], []⟩, ⟨[pB], []⟩, c2A (jx0 N)⟩ :=
 mO (fC (jz9 N) (fC (jcM N) (fC (jAz N N) ja))) Tryz.func228 rfl N .no _
def jD5 : Sh := ⟨.dead :: pS :: dz 8 (.pv Y13 :: pI :: pI :: dz 10 []), []⟩
def jyp (N : Nat) (h : Int) (k : Z11) (b : Z6) (l : List UInt8) : Z10 :=
 (oB (jbx N h k b) fun j => bif j then iter (fun m (c, d, e, a) => bif decide (a < e) then oB (idx d a) fun f => (bif decide (f.1 = c) then some f.2 else if fits (a + 1) then m (c, d, e, (a + 1)) else none) else some (-1)) N (l, b, (b.length : Int), (0 : Int)) else some (-1))
theorem jBQ (N : Nat) : mK 230 ⟨⟨[.agg [pI, .pv Y17, .pv Y13], pS], []⟩, ⟨[pI], []⟩, c4A (jyp N)⟩ :=
 mO (fC (jh0 N) ja) Tryz.func230 rfl N (.seq .no (.seq (.seq .no (.cond (.seq .no (.block (.loop jD5 .no))) .no)) .no)) _
def jDa : Sh := ⟨.ptr Y0 :: dz 3 (.box 4 0 :: .box 5 0 :: .dead :: pI :: dz 43 (.own 600051 .str 9 true :: pI :: pI :: dz 122 [])), [(4, false, [pI, pS, .pv (.sl .str), pI, pI, .pv (.sl .q)]), (5, false, [pI, .pv Y17, .pv Y13])]⟩
def jCO : Sh := ⟨.ptr Y0 :: dz 3 (.box 4 0 :: .box 5 0 :: dz 83 (.own 600089 .str 9 true :: pI :: pI :: dz 84 [])), [(4, false, [pI, pS, .pv (.sl .str), pI, pI, .pv (.sl .q)]), (5, false, [pI, .pv Y17, .pv Y13])]⟩
def jDp : Sh := ⟨.ptr Y0 :: dz 3 (.box 4 0 :: .box 5 0 :: dz 7 (pI :: dz 140 (.pv (.sl .q) :: pI :: pI :: dz 19 []))), [(4, false, [pI, pS, .pv (.sl .str), pI, pI, .pv (.sl .q)]), (5, false, [pI, .pv Y17, .pv Y13])]⟩
def i_scorer_score_m (N : Nat) : (D : Nat) → Z12 → Int → Z0 → (List Z0) → Int → Int → (List DQ) → Int → Z9 → Z5 → Z10
 | 0, _, _, _, _, _, _, _, _, _, _ => none
 | D + 1, x, q, q2, q3, q4, q5, q6, d, d2, d3 =>
 bif decide (q = 1) then
 some 100
 else
 bif decide (q = 2) then
 oB (idx q3 0) fun e =>
 (oB (jyc N x.1.1 x.1.2 e) fun r =>
 oB (i_scorer_points_m N x q2 r d) fun r2 =>
 some r2)
 else
 bif decide (q = 3) then
 oB (jyB N x q q2 q3 q4 q5 q6 d d2 d3) fun r3 =>
 (some r3)
 else
 bif decide (q = 4) then
 oB (i_Seg_terms_m N x.2 q2) fun r4 =>
 (iter (fun go (g : Z12 × Int × (List Z0) × Int × Int × Int × Z0 × (List Z0) × Int × Int × (List DQ) × Int × Z9 × Z5) =>
 match g with
 | (x2, best, t51, t52, t53, q7, q8, q9, q10, q11, q12, d4, d5, d6) =>
 bif decide (t53 < t52) then
 oB (idx t51 t53) fun e2 =>
 (oB (idx q9 0) fun e3 =>
 oB (i_NearFar_m N e2 e3) fun r5 =>
 oB (jm N r5 0 q10) fun r6 =>
 bif r6 then
 oB (i_scorer_points_m N x2 q8 e2 d4) fun r7 =>
 (if fits (3 - r5) then if fits (r7 * (3 - r5)) then if 3 ≠ 0 then
 if fits ((r7 * (3 - r5)).tdiv 3) then if fits (t53 + 1) then go (x2, (if ((r7 * (3 - r5)).tdiv 3) > best then (r7 * (3 - r5)).tdiv 3 else best), t51, t52, (t53 + 1), q7, q8, q9, q10, q11, q12, d4, d5, d6) else none else none
 else none else none else none)
 else
 if fits (t53 + 1) then go (x2, best, t51, t52, (t53 + 1), q7, q8, q9, q10, q11, q12, d4, d5, d6) else none)
 else
 some best) N (x, 0, r4, (r4.length : Int), 0, q, q2, q3, q4, q5, q6, d, d2, d3))
 else
 bif decide (q = 5) then
 oB (i_Seg_terms_m N x.2 q2) fun r8 =>
 (iter (fun go2 (g : Z12 × (List Z0) × Int × Int × Int × Z0 × (List Z0) × Int × Int × (List DQ) × Int × Z9 × Z5) =>
 match g with
 | (x3, t89, t90, t91, q13, q14, q15, q16, q17, q18, d7, d8, d9) =>
 bif decide (t91 < t90) then
 oB (idx t89 t91) fun e4 =>
 (oB (idx q15 0) fun e5 =>
 oB (jx0 N e5 e4) fun r9 =>
 bif r9 then
 oB (i_scorer_places_m N x3 q14 e4 d7) fun r10 =>
 (bif decide ((0 : Int) < (r10.length : Int)) then
 some 100
 else
 if fits (t91 + 1) then go2 (x3, t89, t90, (t91 + 1), q13, q14, q15, q16, q17, q18, d7, d8, d9) else none)
 else
 if fits (t91 + 1) then go2 (x3, t89, t90, (t91 + 1), q13, q14, q15, q16, q17, q18, d7, d8, d9) else none)
 else
 some 0) N (x, r8, (r8.length : Int), 0, q, q2, q3, q4, q5, q6, d, d2, d3))
 else
 bif decide (q = 6) then
 oB (jyp N d d2 d3 q2) fun r11 =>
 (oB (jm N r11 q4 q5) fun r12 =>
 bif r12 then
 some 100
 else
 some 0)
 else
 bif decide (q = 10) then
 oB (idx q6 0) fun e6 =>
 (oB (i_scorer_score_m N D x e6.kind e6.field e6.words e6.lo e6.hi e6.kids d d2 d3) fun r13 =>
 if fits (q4 * r13) then some (q4 * r13) else none)
 else
 bif decide (q = 9) then
 oB (idx q6 1) fun e7 =>
 (oB (i_scorer_score_m N D x e7.kind e7.field e7.words e7.lo e7.hi e7.kids d d2 d3) fun r14 =>
 bif decide ((0 : Int) < r14) then
 some 0
 else
 oB (idx q6 0) fun e8 =>
 oB (i_scorer_score_m N D x e8.kind e8.field e8.words e8.lo e8.hi e8.kids d d2 d3) fun r15 =>
 some r15)
 else
 iter (fun go3 (g : Z12 × Int × (List DQ) × Int × Int × Int × Z0 × (List Z0) × Int × Int × (List DQ) × Int × Z9 × Z5) =>
 match g with
 | (x4, all, t154, t155, t156, q19, q20, q21, q22, q23, q24, d10, d11, d12) =>
 bif decide (t156 < t155) then
 oB (idx t154 t156) fun e9 =>
 (oB (i_scorer_score_m N D x4 e9.kind e9.field e9.words e9.lo e9.hi e9.kids d10 d11 d12) fun r16 =>
 bif decide (r16 = 0) then
 bif decide (q19 = 7) then
 some 0
 else
 (if fits (all + r16) then if fits (t156 + 1) then go3 (x4, (all + r16), t154, t155, (t156 + 1), q19, q20, q21, q22, q23, q24, d10, d11, d12) else none else none)
 else
 if fits (all + r16) then if fits (t156 + 1) then go3 (x4, (all + r16), t154, t155, (t156 + 1), q19, q20, q21, q22, q23, q24, d10, d11, d12) else none else none)
 else
 some all) N (x, 0, q6, (q6.length : Int), 0, q, q2, q3, q4, q5, q6, d, d2, d3)
def jx6 (N D : Nat) : Model := ⟨⟨[.ptr Y0, .agg [pI, pS, .pv (.sl .str), pI, pI, .pv (.sl .q)], .agg [pI, .pv Y17, .pv Y13]], []⟩, ⟨[pI], []⟩, c10A (i_scorer_score_m N D)⟩
theorem jBq (N D : Nat) (ih : mK 160 (jx6 N D)) : mK 160 (jx6 N (D + 1)) :=
 mO (fC ih (fC (jBn N) (fC (jsD N) (fC (jDC N) (fC (jln N) (fC (jDu N) (fC (jY N) (fC (jDd N) (fC (jrB N) (fC (jBQ N) ja)))))))))) Tryz.func160 rfl N (.seq .no (.seq (.seq .no (.block (.seq .no (.cond .no (.seq .no (.cond .no (.seq .no (.cond .no (.seq .no (.cond (.seq .no (.seq (.seq .no (.block (.loop jDa .no))) .no)) (.seq .no (.cond (.seq (.seq .no (.block (.loop jCO .no))) .no) .no)))))))))))) (.seq .no (.seq (.seq .no (.block (.loop jDp .no))) .no)))) (jx6 N (D + 1))
theorem jzy (N : Nat) : ∀ D, mK 160 (jx6 N D)
 | 0 => modelOk_none ⟨_, Tryz.func160, by decide, by kernel_rfl⟩ _ (fun a => rfl)
 | D + 1 => jBq N D (jzy N D)
def i_ScoreOf_m (N : Nat) (d : List Z0) (f : List Z3) (c : List Z2) (b : List Z1) (h : Int) (i : List UInt8) (e : List Z0) (j : Int) (k : Int) (l : List DQ) (n : Int) : Z10 :=
 (oB (i_Seg_doc_m N (c, b) n) fun a => oB (i_SegOk_m N d f c b) fun o => bif !o then some 0 else oB (i_QueryOk_m N h i e j k l) fun m => bif !m then some 0 else bif !a.2.2.2 then some 0 else oB (i_scorer_score_m N N ((d, f), c, b) h i e j k l a.1 a.2.1 a.2.2.1) fun p => some p)
theorem jEf (N : Nat) : mK 75 ⟨⟨[.agg [.pv (.sl .str), .pv Y14], .agg [.pv Y2, .pv Y4], .agg [pI, pS, .pv (.sl .str), pI, pI, .pv (.sl .q)], pI], []⟩, ⟨[pI], []⟩, c11A (i_ScoreOf_m N)⟩ :=
 mO (fC (jlU N) (fC (joa N) (fC (jCN N) (fC (jzy N N) ja)))) Tryz.func75 rfl N .no _
def jGe : Sh := ⟨dz 4 (.box 4 0 :: .box 5 0 :: .dead :: .own 600007 .str 9 true :: .box 8 0 :: dz 21 (.pv (.sl (.pair .str .q)) :: pI :: pI :: dz 18 [])), [(4, false, [.pv (.sl .str), .pv Y14]), (5, false, [pI, .pv Y17, .pv Y13]), (8, false, [.pv Y2, .own 700801 Y5 156 false])]⟩
def i_AlertOf_m (N : Nat) (n : List (Z0 × DQ)) (d : List Z0) (f : List Z3) (j : Int) (h : Z11) (k : Z6) : Option ((List Z0)) :=
 (oB (jGU N n) fun A => bif !A then some ([] : List Z0) else oB (jaj N d f) fun y => bif !y then some ([] : List Z0) else oB (jbx N j h k) fun w => bif !w then some ([] : List Z0) else oB (i_SegOf_m N d f ([(j, h, k)] : List Z2)) fun t => iter (fun r (c, q, l, b, o, p, i, u, v, m, e) => bif decide (b < l) then oB (idx q b) fun a => (oB (i_ScoreOf_m N o p m e a.2.kind a.2.field a.2.words a.2.lo a.2.hi a.2.kids i) fun x => bif decide ((0 : Int) < x) then if room c.length ([a.1] : List Z0).length 16 then if fits (b + 1) then r ((c ++ ([a.1] : List Z0)), q, l, (b + 1), o, p, i, u, v, m, e) else none else none else if fits (b + 1) then r (c, q, l, (b + 1), o, p, i, u, v, m, e) else none) else some c) N (([] : List Z0), n, (n.length : Int), (0 : Int), d, f, j, h, k, t.1, t.2))
theorem jGA (N : Nat) : mK 15 ⟨⟨[.pv (.sl (.pair .str .q)), .agg [.pv (.sl .str), .pv Y14], .agg [pI, .pv Y17, .pv Y13]], []⟩, ⟨[.own 1 .str 9 true], []⟩, c6A (i_AlertOf_m N)⟩ :=
 mO (fC (jFt N) (fC (jdX N) (fC (jh0 N) (fC (jqC N) (fC (jEf N) ja))))) Tryz.func15 rfl N (.seq .no (.seq .no (.seq .no (.seq .no (.seq (.seq .no (.block (.loop jGe .no))) .no))))) _
def jo5 : Sh := ⟨.pv (.sl .str) :: .pv (.sl .str) :: dz 3 (pI :: dz 20 []), []⟩
def j0 (N : Nat) (d : List Z0) (e : List Z0) : Z7 :=
 (bif !decide ((d.length : Int) = (e.length : Int)) then some false else iter (fun j (b, c, a) => bif decide (a < (b.length : Int)) then oB (idx b a) fun i => (oB (idx c a) fun h => bif !decide (i = h) then some false else if fits (a + 1) then j (b, c, (a + 1)) else none) else some true) N (d, e, (0 : Int)))
theorem jd6 (N : Nat) : mK 16 ⟨⟨[.pv (.sl .str), .pv (.sl .str)], []⟩, ⟨[pB], []⟩, c2A (j0 N)⟩ :=
 mO ja Tryz.func16 rfl N (.seq .no (.seq .no (.seq (.seq .no (.block (.loop jo5 .no))) .no))) _
def jyZ : Sh := ⟨[.agg [pI, pS, .pv (.sl .str), pI, pI, .pv (.sl .q)], .agg [pI, pS, .pv (.sl .str), pI, pI, .pv (.sl .q)]], []⟩
def jAc : Sh := ⟨[pB], []⟩
def jCx : Sh := ⟨[.pv (.sl .q), .pv (.sl .q)], []⟩
def jCz : Sh := ⟨[pB], []⟩
def jC3 : Sh := ⟨.pv (.sl .q) :: .pv (.sl .q) :: dz 3 (pI :: dz 21 []), []⟩
def jyS (N : Nat) (j : Z14 → Option Bool) (f : List DQ) (h : List DQ) : Z7 :=
 (bif !decide ((f.length : Int) = (h.length : Int)) then some false else iter (fun l (d, e, c) => bif decide (c < (d.length : Int)) then oB (idx d c) fun b => (oB (idx e c) fun a => oB (j (b.kind, b.field, b.words, b.lo, b.hi, b.kids, a.kind, a.field, a.words, a.lo, a.hi, a.kids)) fun k => bif !k then some false else if fits (c + 1) then l (d, e, (c + 1)) else none) else some true) N (f, h, (0 : Int)))
def jzD (N : Nat) (F : Z14 → Option Bool) : Model := ⟨jCx, jCz, fun a => jyS N F a.1 a.2⟩
theorem jCt (N : Nat) (F : Z14 → Option Bool) (hF : mK 55 ⟨jyZ, jAc, F⟩) : mK 135 (jzD N F) :=
 mO (fC hF ja) Tryz.func135 rfl N (.seq .no (.seq .no (.seq (.seq .no (.block (.loop jC3 .no))) .no))) (jzD N F)
def jxK (N : Nat) : (D : Nat) → Int → Z0 → (List Z0) → Int → Int → (List DQ) → Int → Z0 → (List Z0) → Int → Int → (List DQ) → Z7
 | 0, _, _, _, _, _, _, _, _, _, _, _, _ => none
 | D + 1, a, a2, a3, a4, a5, a6, b, b2, b3, b4, b5, b6 =>
 bif !decide (a = b) then
 some false
 else
 bif !decide (a2 = b2) then
 some false
 else
 oB (j0 N a3 b3) fun r =>
 bif !r then
 some false
 else
 bif !decide (a4 = b4) then
 some false
 else
 bif !decide (a5 = b5) then
 some false
 else
 oB (jyS N (fun a => jxK N D a.1 a.2.1 a.2.2.1 a.2.2.2.1 a.2.2.2.2.1 a.2.2.2.2.2.1 a.2.2.2.2.2.2.1 a.2.2.2.2.2.2.2.1 a.2.2.2.2.2.2.2.2.1 a.2.2.2.2.2.2.2.2.2.1 a.2.2.2.2.2.2.2.2.2.2.1 a.2.2.2.2.2.2.2.2.2.2.2) a6 b6) fun r2 =>
 bif !r2 then
 some false
 else
 some true
def jyy (N D : Nat) : Model := ⟨jyZ, jAc, c12A (jxK N D)⟩
theorem jDy (N D : Nat) (ih : mK 55 (jyy N D)) : mK 55 (jyy N (D + 1)) :=
 mO (fC ih (fC (jd6 N) (fC (jCt N _ ih) ja))) Tryz.func55 rfl N .no (jyy N (D + 1))
theorem jAA (N : Nat) : ∀ D, mK 55 (jyy N D)
 | 0 => modelOk_none ⟨_, Tryz.func55, by decide, by kernel_rfl⟩ _ (fun a => rfl)
 | D + 1 => jDy N D (jAA N D)
def l_eqAlert_m (N : Nat) (n : List UInt8) (k : Int) (j : List UInt8) (c : List Z0) (d : Int) (h : Int) (e : List DQ) (i : List UInt8) (a : Int) (f : List UInt8) (l : List Z0) (o : Int) (b : Int) (m : List DQ) : Z7 :=
 (bif !decide (n = i) then some false else oB (jxK N N k j c d h e a f l o b m) fun p => bif !p then some false else some true)
theorem jHf (N : Nat) : mK 76 ⟨⟨[.agg [pS, pI, pS, .pv (.sl .str), pI, pI, .pv (.sl .q)], .agg [pS, pI, pS, .pv (.sl .str), pI, pI, .pv (.sl .q)]], []⟩, ⟨[pB], []⟩, c14A (l_eqAlert_m N)⟩ :=
 mO (fC (jAA N N) ja) Tryz.func76 rfl N .no _
def jG6 : Sh := ⟨.pv (.sl (.pair .str .q)) :: .pv (.sl (.pair .str .q)) :: dz 3 (pI :: dz 21 []), []⟩
def l_eqAlertS_m (N : Nat) (f : List (Z0 × DQ)) (h : List (Z0 × DQ)) : Z7 :=
 (bif !decide ((f.length : Int) = (h.length : Int)) then some false else iter (fun k (d, e, c) => bif decide (c < (d.length : Int)) then oB (idx d c) fun b => (oB (idx e c) fun a => oB (l_eqAlert_m N b.1 b.2.kind b.2.field b.2.words b.2.lo b.2.hi b.2.kids a.1 a.2.kind a.2.field a.2.words a.2.lo a.2.hi a.2.kids) fun j => bif !j then some false else if fits (c + 1) then k (d, e, (c + 1)) else none) else some true) N (f, h, (0 : Int)))
theorem jHd (N : Nat) : mK 17 ⟨⟨[.pv (.sl (.pair .str .q)), .pv (.sl (.pair .str .q))], []⟩, ⟨[pB], []⟩, c2A (l_eqAlertS_m N)⟩ :=
 mO (fC (jHf N) ja) Tryz.func17 rfl N (.seq .no (.seq .no (.seq (.seq .no (.block (.loop jG6 .no))) .no))) _
def jaR (N : Nat) (b : List Z0) (c : List UInt8) (e : List Z0) (a : List UInt8) : Z7 :=
 (oB (j0 N b e) fun d => bif !d then some false else bif !decide (c = a) then some false else some true)
theorem jqb (N : Nat) : mK 161 ⟨⟨[.agg [.pv (.sl .str), pS], .agg [.pv (.sl .str), pS]], []⟩, ⟨[pB], []⟩, c4A (jaR N)⟩ :=
 mO (fC (jd6 N) ja) Tryz.func161 rfl N .no _
def jp9 : Sh := ⟨.pv Y14 :: .pv Y14 :: dz 3 (pI :: dz 21 []), []⟩
def jdJ (N : Nat) (e : List Z3) (f : List Z3) : Z7 :=
 (bif !decide ((e.length : Int) = (f.length : Int)) then some false else iter (fun k (b, c, a) => bif decide (a < (b.length : Int)) then oB (idx b a) fun h => (oB (idx c a) fun d => oB (jaR N h.1 h.2 d.1 d.2) fun j => bif !j then some false else if fits (a + 1) then k (b, c, (a + 1)) else none) else some true) N (e, f, (0 : Int)))
theorem jkU (N : Nat) : mK 77 ⟨⟨[.pv Y14, .pv Y14], []⟩, ⟨[pB], []⟩, c2A (jdJ N)⟩ :=
 mO (fC (jqb N) ja) Tryz.func77 rfl N (.seq .no (.seq .no (.seq (.seq .no (.block (.loop jp9 .no))) .no))) _
def jcO (N : Nat) (c : List Z0) (d : List Z3) (f : List Z0) (a : List Z3) : Z7 :=
 (oB (j0 N c f) fun e => bif !e then some false else oB (jdJ N d a) fun b => bif !b then some false else some true)
theorem jr8 (N : Nat) : mK 18 ⟨⟨[.agg [.pv (.sl .str), .pv Y14], .agg [.pv (.sl .str), .pv Y14]], []⟩, ⟨[pB], []⟩, c4A (jcO N)⟩ :=
 mO (fC (jd6 N) (fC (jkU N) ja)) Tryz.func18 rfl N .no _
def jbd (N : Nat) (b : List UInt8) (c : List UInt8) (d : List UInt8) (a : List UInt8) : Z7 :=
 (bif !decide (b = d) then some false else bif !decide (c = a) then some false else some true)
theorem jmy (N : Nat) : mK 162 ⟨⟨[.agg [pS, pS], .agg [pS, pS]], []⟩, ⟨[pB], []⟩, c4A (jbd N)⟩ :=
 mO ja Tryz.func162 rfl N .no _
def jqq : Sh := ⟨.pv Y17 :: .pv Y17 :: dz 3 (pI :: dz 21 []), []⟩
def jdj (N : Nat) (e : Z11) (f : Z11) : Z7 :=
 (bif !decide ((e.length : Int) = (f.length : Int)) then some false else iter (fun k (b, c, a) => bif decide (a < (b.length : Int)) then oB (idx b a) fun h => (oB (idx c a) fun d => oB (jbd N h.1 h.2 d.1 d.2) fun j => bif !j then some false else if fits (a + 1) then k (b, c, (a + 1)) else none) else some true) N (e, f, (0 : Int)))
theorem jmD (N : Nat) : mK 78 ⟨⟨[.pv Y17, .pv Y17], []⟩, ⟨[pB], []⟩, c2A (jdj N)⟩ :=
 mO (fC (jmy N) ja) Tryz.func78 rfl N (.seq .no (.seq .no (.seq (.seq .no (.block (.loop jqq .no))) .no))) _
def jbo (N : Nat) (b : List UInt8) (c : Int) (d : List UInt8) (a : Int) : Z7 :=
 (bif !decide (b = d) then some false else bif !decide (c = a) then some false else some true)
theorem jtn (N : Nat) : mK 163 ⟨⟨[.agg [pS, pI], .agg [pS, pI]], []⟩, ⟨[pB], []⟩, c4A (jbo N)⟩ :=
 mO ja Tryz.func163 rfl N .no _
def jtU : Sh := ⟨.pv Y13 :: .pv Y13 :: dz 3 (pI :: dz 21 []), []⟩
def jdN (N : Nat) (e : Z6) (f : Z6) : Z7 :=
 (bif !decide ((e.length : Int) = (f.length : Int)) then some false else iter (fun k (b, c, a) => bif decide (a < (b.length : Int)) then oB (idx b a) fun h => (oB (idx c a) fun d => oB (jbo N h.1 h.2 d.1 d.2) fun j => bif !j then some false else if fits (a + 1) then k (b, c, (a + 1)) else none) else some true) N (e, f, (0 : Int)))
theorem jkL (N : Nat) : mK 79 ⟨⟨[.pv Y13, .pv Y13], []⟩, ⟨[pB], []⟩, c2A (jdN N)⟩ :=
 mO (fC (jtn N) ja) Tryz.func79 rfl N (.seq .no (.seq .no (.seq (.seq .no (.block (.loop jtU .no))) .no))) _
def jbi (N : Nat) (b : Int) (h : Z11) (f : Z6) (d : Int) (a : Z11) (c : Z6) : Z7 :=
 (bif !decide (b = d) then some false else oB (jdj N h a) fun i => bif !i then some false else oB (jdN N f c) fun e => bif !e then some false else some true)
theorem jta (N : Nat) : mK 19 ⟨⟨[.agg [pI, .pv Y17, .pv Y13], .agg [pI, .pv Y17, .pv Y13]], []⟩, ⟨[pB], []⟩, c6A (jbi N)⟩ :=
 mO (fC (jmD N) (fC (jkL N) ja)) Tryz.func19 rfl N .no _
def jnU : Sh := ⟨pI :: .dead :: .dead :: pS :: dz 16 [], []⟩
def jr (N : Nat) (c : Int) : Option (Z0) :=
 (bif decide (c ≤ 0) then some ([109, 48] : List UInt8) else iter (fun e (a, b) => bif decide ((0 : Int) < a) then if 10 ≠ 0 then if fits (48 + (a.tmod 10)) then if (bytesOf ([(IntKind.u8.wrap (48 + (a.tmod 10)))] : List Int)).length + b.length ≤ 9223372036854775807 then if 10 ≠ 0 then if fits (a.tdiv 10) then e ((a.tdiv 10), ((bytesOf ([(IntKind.u8.wrap (48 + (a.tmod 10)))] : List Int)) ++ b)) else none else none else none else none else none else if ([109] : List UInt8).length + b.length ≤ 9223372036854775807 then some (([109] : List UInt8) ++ b) else none) N (c, ([] : List UInt8)))
theorem jaz (N : Nat) : mK 80 ⟨⟨[pI], []⟩, ⟨[pS], []⟩, c1A (jr N)⟩ :=
 mO ja Tryz.func80 rfl N (.seq .no (.seq .no (.seq .no (.seq (.block (.loop jnU .no)) .no)))) _
def jol : Sh := ⟨.mtk 800000 .str 9 true :: pI :: dz 3 (pI :: dz 14 []), []⟩
def jas (N : Nat) (f : List Z0) (e : Int) : Option (Int × (List Z0)) :=
 (iter (fun i (b, c, a) => bif decide (a < (b.length : Int)) then oB (jr N c) fun h => (if 0 ≤ a ∧ a < (b.length : Int) then oB (b[a.toNat]?) fun j => (if fits (c + 1) then if fits (a + 1) then i ((b.set a.toNat h), (c + 1), (a + 1)) else none else none) else none) else some (c, b)) N (f, e, (0 : Int)))
theorem jdf (N : Nat) : mK 23 ⟨⟨[.mtk 800000 .str 9 true, pI], []⟩, ⟨[pI, .mtk 800000 .str 9 true], []⟩, c2A (jas N)⟩ :=
 mO (fC (jaz N) ja) Tryz.func23 rfl N (.seq .no (.seq (.seq .no (.block (.loop jol .no))) .no)) _ (rs := [800000])
def jCg : Sh := ⟨.tre 800000 .q 70 :: pI :: dz 3 (pI :: dz 50 []), []⟩
def jxQ (N : Nat) : (D : Nat) → (List DQ) → Int → Option (Int × (List DQ))
 | 0, _, _ => none
 | D + 1, a, k =>
 iter (fun go (g : (List DQ) × Int × Int) =>
 match g with
 | (a2, k2, i) =>
 bif decide (i < (a2.length : Int)) then
 if 0 ≤ i ∧ i < (a2.length : Int) then
 oB (a2[i.toNat]?) fun e =>
 (if fits (k2 + 1) then oB (jr N (k2 + 1)) fun r =>
 (if 0 ≤ i ∧ i < ((a2.set i.toNat (DQ.mk k2 e.field e.words e.lo e.hi e.kids)).length : Int) then
 oB ((a2.set i.toNat (DQ.mk k2 e.field e.words e.lo e.hi e.kids))[i.toNat]?) fun e2 =>
 (if fits ((k2 + 1) + 1) then if 0 ≤ i ∧ i < (((a2.set i.toNat (DQ.mk k2 e.field e.words e.lo e.hi e.kids)).set i.toNat (DQ.mk e2.kind r e2.words e2.lo e2.hi e2.kids)).length : Int) then
 oB (((a2.set i.toNat (DQ.mk k2 e.field e.words e.lo e.hi e.kids)).set i.toNat (DQ.mk e2.kind r e2.words e2.lo e2.hi e2.kids))[i.toNat]?) fun e3 =>
 (oB (jas N e3.words ((k2 + 1) + 1)) fun r2 =>
 if 0 ≤ i ∧ i < (((a2.set i.toNat (DQ.mk k2 e.field e.words e.lo e.hi e.kids)).set i.toNat (DQ.mk e2.kind r e2.words e2.lo e2.hi e2.kids)).length : Int) then
 oB (((a2.set i.toNat (DQ.mk k2 e.field e.words e.lo e.hi e.kids)).set i.toNat (DQ.mk e2.kind r e2.words e2.lo e2.hi e2.kids))[i.toNat]?) fun e4 =>
 (if fits (r2.1 + 1) then if 0 ≤ i ∧ i < ((((a2.set i.toNat (DQ.mk k2 e.field e.words e.lo e.hi e.kids)).set i.toNat (DQ.mk e2.kind r e2.words e2.lo e2.hi e2.kids)).set i.toNat (DQ.mk e4.kind e4.field e4.words r2.1 e4.hi e4.kids)).length : Int) then
 oB ((((a2.set i.toNat (DQ.mk k2 e.field e.words e.lo e.hi e.kids)).set i.toNat (DQ.mk e2.kind r e2.words e2.lo e2.hi e2.kids)).set i.toNat (DQ.mk e4.kind e4.field e4.words r2.1 e4.hi e4.kids))[i.toNat]?) fun e5 =>
 (if fits ((r2.1 + 1) + 1) then if 0 ≤ i ∧ i < (((((a2.set i.toNat (DQ.mk k2 e.field e.words e.lo e.hi e.kids)).set i.toNat (DQ.mk e2.kind r e2.words e2.lo e2.hi e2.kids)).set i.toNat (DQ.mk e4.kind e4.field e4.words r2.1 e4.hi e4.kids)).set i.toNat (DQ.mk e5.kind e5.field e5.words e5.lo (r2.1 + 1) e5.kids)).length : Int) then
 oB (((((a2.set i.toNat (DQ.mk k2 e.field e.words e.lo e.hi e.kids)).set i.toNat (DQ.mk e2.kind r e2.words e2.lo e2.hi e2.kids)).set i.toNat (DQ.mk e4.kind e4.field e4.words r2.1 e4.hi e4.kids)).set i.toNat (DQ.mk e5.kind e5.field e5.words e5.lo (r2.1 + 1) e5.kids))[i.toNat]?) fun e6 =>
 (oB (jxQ N D e6.kids ((r2.1 + 1) + 1)) fun r3 =>
 if fits (i + 1) then go (((((((a2.set i.toNat (DQ.mk k2 e.field e.words e.lo e.hi e.kids)).set i.toNat (DQ.mk e2.kind r e2.words e2.lo e2.hi e2.kids)).set i.toNat (DQ.mk e4.kind e4.field e4.words r2.1 e4.hi e4.kids)).set i.toNat (DQ.mk e5.kind e5.field e5.words e5.lo (r2.1 + 1) e5.kids)).modify i.toNat fun y3 => DQ.mk y3.kind y3.field y3.words y3.lo y3.hi r3.2).modify i.toNat fun y4 => DQ.mk y4.kind y4.field r2.2 y4.lo y4.hi y4.kids), r3.1, (i + 1)) else none)
 else none else none)
 else none else none)
 else none)
 else none else none)
 else none) else none)
 else none
 else
 some (k2, a2)) N (a, k, 0)
def jyx (N D : Nat) : Model := ⟨⟨[.tre 800000 .q 70, pI], []⟩, ⟨[pI, .tre 800000 .q 70], []⟩, c2A (jxQ N D)⟩
theorem jDO (N D : Nat) (ih : mK 81 (jyx N D)) : mK 81 (jyx N (D + 1)) :=
 mO (fC ih (fC (jaz N) (fC (jdf N) ja))) Tryz.func81 rfl N (.seq .no (.seq (.seq .no (.block (.loop jCg .no))) .no)) (jyx N (D + 1)) (rs := [800000])
theorem jy0 (N : Nat) : ∀ D, mK 81 (jyx N D)
 | 0 => modelOk_none ⟨_, Tryz.func81, by decide, by kernel_rfl⟩ _ (fun a => rfl)
 | D + 1 => jDO N D (jy0 N D)
def jHh : Sh := ⟨.tre 800000 (.pair .str .q) 72 :: pI :: dz 3 (pI :: dz 64 []), []⟩
def l_markAlertS_m (N : Nat) (u : List (Z0 × DQ)) (t : Int) : Option (Int × Z16) :=
 (iter (fun q (i, h, b) => bif decide (b < (i.length : Int)) then oB (jr N h) fun j => (if 0 ≤ b ∧ b < (i.length : Int) then oB (i[b.toNat]?) fun a => (if fits (h + 1) then if 0 ≤ b ∧ b < ((i.set b.toNat (j, (DQ.mk a.2.kind a.2.field a.2.words a.2.lo a.2.hi a.2.kids))).length : Int) then oB ((i.set b.toNat (j, (DQ.mk a.2.kind a.2.field a.2.words a.2.lo a.2.hi a.2.kids)))[b.toNat]?) fun c => (if fits ((h + 1) + 1) then oB (jr N ((h + 1) + 1)) fun l => (if 0 ≤ b ∧ b < (((i.set b.toNat (j, (DQ.mk a.2.kind a.2.field a.2.words a.2.lo a.2.hi a.2.kids))).set b.toNat (c.1, (DQ.mk (h + 1) c.2.field c.2.words c.2.lo c.2.hi c.2.kids))).length : Int) then oB (((i.set b.toNat (j, (DQ.mk a.2.kind a.2.field a.2.words a.2.lo a.2.hi a.2.kids))).set b.toNat (c.1, (DQ.mk (h + 1) c.2.field c.2.words c.2.lo c.2.hi c.2.kids)))[b.toNat]?) fun d => (if fits (((h + 1) + 1) + 1) then if 0 ≤ b ∧ b < ((((i.set b.toNat (j, (DQ.mk a.2.kind a.2.field a.2.words a.2.lo a.2.hi a.2.kids))).set b.toNat (c.1, (DQ.mk (h + 1) c.2.field c.2.words c.2.lo c.2.hi c.2.kids))).set b.toNat (d.1, (DQ.mk d.2.kind l d.2.words d.2.lo d.2.hi d.2.kids))).length : Int) then oB ((((i.set b.toNat (j, (DQ.mk a.2.kind a.2.field a.2.words a.2.lo a.2.hi a.2.kids))).set b.toNat (c.1, (DQ.mk (h + 1) c.2.field c.2.words c.2.lo c.2.hi c.2.kids))).set b.toNat (d.1, (DQ.mk d.2.kind l d.2.words d.2.lo d.2.hi d.2.kids)))[b.toNat]?) fun v => (oB (jas N v.2.words (((h + 1) + 1) + 1)) fun k => if 0 ≤ b ∧ b < ((((i.set b.toNat (j, (DQ.mk a.2.kind a.2.field a.2.words a.2.lo a.2.hi a.2.kids))).set b.toNat (c.1, (DQ.mk (h + 1) c.2.field c.2.words c.2.lo c.2.hi c.2.kids))).set b.toNat (d.1, (DQ.mk d.2.kind l d.2.words d.2.lo d.2.hi d.2.kids))).length : Int) then oB ((((i.set b.toNat (j, (DQ.mk a.2.kind a.2.field a.2.words a.2.lo a.2.hi a.2.kids))).set b.toNat (c.1, (DQ.mk (h + 1) c.2.field c.2.words c.2.lo c.2.hi c.2.kids))).set b.toNat (d.1, (DQ.mk d.2.kind l d.2.words d.2.lo d.2.hi d.2.kids)))[b.toNat]?) fun e => (if fits (k.1 + 1) then if 0 ≤ b ∧ b < (((((i.set b.toNat (j, (DQ.mk a.2.kind a.2.field a.2.words a.2.lo a.2.hi a.2.kids))).set b.toNat (c.1, (DQ.mk (h + 1) c.2.field c.2.words c.2.lo c.2.hi c.2.kids))).set b.toNat (d.1, (DQ.mk d.2.kind l d.2.words d.2.lo d.2.hi d.2.kids))).set b.toNat (e.1, (DQ.mk e.2.kind e.2.field e.2.words k.1 e.2.hi e.2.kids))).length : Int) then oB (((((i.set b.toNat (j, (DQ.mk a.2.kind a.2.field a.2.words a.2.lo a.2.hi a.2.kids))).set b.toNat (c.1, (DQ.mk (h + 1) c.2.field c.2.words c.2.lo c.2.hi c.2.kids))).set b.toNat (d.1, (DQ.mk d.2.kind l d.2.words d.2.lo d.2.hi d.2.kids))).set b.toNat (e.1, (DQ.mk e.2.kind e.2.field e.2.words k.1 e.2.hi e.2.kids)))[b.toNat]?) fun f => (if fits ((k.1 + 1) + 1) then if 0 ≤ b ∧ b < ((((((i.set b.toNat (j, (DQ.mk a.2.kind a.2.field a.2.words a.2.lo a.2.hi a.2.kids))).set b.toNat (c.1, (DQ.mk (h + 1) c.2.field c.2.words c.2.lo c.2.hi c.2.kids))).set b.toNat (d.1, (DQ.mk d.2.kind l d.2.words d.2.lo d.2.hi d.2.kids))).set b.toNat (e.1, (DQ.mk e.2.kind e.2.field e.2.words k.1 e.2.hi e.2.kids))).set b.toNat (f.1, (DQ.mk f.2.kind f.2.field f.2.words f.2.lo (k.1 + 1) f.2.kids))).length : Int) then oB ((((((i.set b.toNat (j, (DQ.mk a.2.kind a.2.field a.2.words a.2.lo a.2.hi a.2.kids))).set b.toNat (c.1, (DQ.mk (h + 1) c.2.field c.2.words c.2.lo c.2.hi c.2.kids))).set b.toNat (d.1, (DQ.mk d.2.kind l d.2.words d.2.lo d.2.hi d.2.kids))).set b.toNat (e.1, (DQ.mk e.2.kind e.2.field e.2.words k.1 e.2.hi e.2.kids))).set b.toNat (f.1, (DQ.mk f.2.kind f.2.field f.2.words f.2.lo (k.1 + 1) f.2.kids)))[b.toNat]?) fun p => (oB (jxQ N N p.2.kids ((k.1 + 1) + 1)) fun o => if fits (b + 1) then q ((((((((i.set b.toNat (j, (DQ.mk a.2.kind a.2.field a.2.words a.2.lo a.2.hi a.2.kids))).set b.toNat (c.1, (DQ.mk (h + 1) c.2.field c.2.words c.2.lo c.2.hi c.2.kids))).set b.toNat (d.1, (DQ.mk d.2.kind l d.2.words d.2.lo d.2.hi d.2.kids))).set b.toNat (e.1, (DQ.mk e.2.kind e.2.field e.2.words k.1 e.2.hi e.2.kids))).set b.toNat (f.1, (DQ.mk f.2.kind f.2.field f.2.words f.2.lo (k.1 + 1) f.2.kids))).modify b.toNat fun n => (n.1, (DQ.mk n.2.kind n.2.field n.2.words n.2.lo n.2.hi o.2))).modify b.toNat fun m => (m.1, (DQ.mk m.2.kind m.2.field k.2 m.2.lo m.2.hi m.2.kids))), o.1, (b + 1)) else none) else none else none) else none else none) else none) else none else none) else none) else none) else none else none) else none) else some (h, i)) N (u, t, (0 : Int)))
theorem jHj (N : Nat) : mK 20 ⟨⟨[.tre 800000 (.pair .str .q) 72, pI], []⟩, ⟨[pI, .tre 800000 (.pair .str .q) 72], []⟩, c2A (l_markAlertS_m N)⟩ :=
 mO (fC (jaz N) (fC (jdf N) (fC (jy0 N N) ja))) Tryz.func20 rfl N (.seq .no (.seq (.seq .no (.block (.loop jHh .no))) .no)) _ (rs := [800000])
def jq1 : Sh := ⟨.tre 800000 Y16 138 :: pI :: dz 3 (pI :: dz 22 []), []⟩
def jbZ (N : Nat) (i : List Z3) (h : Int) : Option (Int × (List Z3)) :=
 (iter (fun m (b, d, a) => bif decide (a < (b.length : Int)) then if 0 ≤ a ∧ a < (b.length : Int) then oB (b[a.toNat]?) fun k => (oB (jas N k.1 d) fun c => oB (jr N c.1) fun l => if 0 ≤ a ∧ a < (b.length : Int) then oB (b[a.toNat]?) fun f => (if fits (c.1 + 1) then if fits (a + 1) then m (((b.set a.toNat (f.1, l)).modify a.toNat fun j => (c.2, j.2)), (c.1 + 1), (a + 1)) else none else none) else none) else none else some (d, b)) N (i, h, (0 : Int)))
theorem jqK (N : Nat) : mK 82 ⟨⟨[.tre 800000 Y16 138, pI], []⟩, ⟨[pI, .tre 800000 Y16 138], []⟩, c2A (jbZ N)⟩ :=
 mO (fC (jdf N) (fC (jaz N) ja)) Tryz.func82 rfl N (.seq .no (.seq (.seq .no (.block (.loop jq1 .no))) .no)) _ (rs := [800000])
def jb0 (N : Nat) (d : List Z0) (e : List Z3) (c : Int) : Option (Int × (List Z0) × (List Z3)) :=
 (oB (jas N d c) fun b => oB (jbZ N e b.1) fun a => some (a.1, b.2, a.2))
theorem jrd (N : Nat) : mK 21 ⟨⟨[.agg [.mtk 800000 .str 9 true, .tre 800001 Y16 138], pI], []⟩, ⟨[pI, .mtk 800000 .str 9 true, .tre 800001 Y16 138], []⟩, c3A (jb0 N)⟩ :=
 mO (fC (jdf N) (fC (jqK N) ja)) Tryz.func21 rfl N .no _ (rs := [800000, 800001])
def jrq : Sh := ⟨.mtk 800000 Y18 143 true :: pI :: dz 3 (pI :: dz 23 []), []⟩
def jbW (N : Nat) (j : Z11) (i : Int) : Option (Int × Z9) :=
 (iter (fun l (b, c, a) => bif decide (a < (b.length : Int)) then oB (jr N c) fun e => (if 0 ≤ a ∧ a < (b.length : Int) then oB (b[a.toNat]?) fun d => (if fits (c + 1) then oB (jr N (c + 1)) fun k => (if 0 ≤ a ∧ a < ((b.set a.toNat (e, d.2)).length : Int) then oB ((b.set a.toNat (e, d.2))[a.toNat]?) fun h => (if fits ((c + 1) + 1) then if fits (a + 1) then l (((b.set a.toNat (e, d.2)).set a.toNat (h.1, k)), ((c + 1) + 1), (a + 1)) else none else none) else none) else none) else none) else some (c, b)) N (j, i, (0 : Int)))
theorem jo0 (N : Nat) : mK 83 ⟨⟨[.mtk 800000 Y18 143 true, pI], []⟩, ⟨[pI, .mtk 800000 Y18 143 true], []⟩, c2A (jbW N)⟩ :=
 mO (fC (jaz N) ja) Tryz.func83 rfl N (.seq .no (.seq (.seq .no (.block (.loop jrq .no))) .no)) _ (rs := [800000])
def js9 : Sh := ⟨.mtk 800000 Y15 145 true :: pI :: dz 3 (pI :: dz 22 []), []⟩
def jbP (N : Nat) (j : Z6) (i : Int) : Option (Int × Z5) :=
 (iter (fun k (b, c, a) => bif decide (a < (b.length : Int)) then oB (jr N c) fun d => (if 0 ≤ a ∧ a < (b.length : Int) then oB (b[a.toNat]?) fun e => (if fits (c + 1) then if 0 ≤ a ∧ a < ((b.set a.toNat (d, e.2)).length : Int) then oB ((b.set a.toNat (d, e.2))[a.toNat]?) fun h => (if fits ((c + 1) + 1) then if fits (a + 1) then k (((b.set a.toNat (d, e.2)).set a.toNat (h.1, (c + 1))), ((c + 1) + 1), (a + 1)) else none else none) else none else none) else none) else some (c, b)) N (j, i, (0 : Int)))
theorem js2 (N : Nat) : mK 84 ⟨⟨[.mtk 800000 Y15 145 true, pI], []⟩, ⟨[pI, .mtk 800000 Y15 145 true], []⟩, c2A (jbP N)⟩ :=
 mO (fC (jaz N) ja) Tryz.func84 rfl N (.seq .no (.seq (.seq .no (.block (.loop js9 .no))) .no)) _ (rs := [800000])
def jGT (N : Nat) (f : Int) (e : Z11) (c : Z6) (d : Int) : Option Z2 :=
 (oB (jbW N e d) fun b => oB (jbP N c b.1) fun a => some (a.1, b.2, a.2))
theorem jHg (N : Nat) : mK 22 ⟨⟨[.agg [pI, .mtk 800001 Y18 143 true, .mtk 800002 Y15 145 true], pI], []⟩, ⟨[pI, .mtk 800001 Y18 143 true, .mtk 800002 Y15 145 true], []⟩, c4A (jGT N)⟩ :=
 mO (fC (jo0 N) (fC (js2 N) ja)) Tryz.func22 rfl N .no _ (rs := [800001, 800002])
def ja4 (N : Nat) (f : List Z0) (e : Int) : Z10 :=
 (iter (fun j (c, a, b) => bif decide (b < (c.length : Int)) then oB (idx c b) fun i => (oB (jr N a) fun h => bif !decide (i = h) then some (-1) else if fits (a + 1) then if fits (b + 1) then j (c, (a + 1), (b + 1)) else none else none) else some a) N (f, e, (0 : Int)))
theorem jrD (N : Nat) : mK 24 ⟨⟨[.pv (.sl .str), pI], []⟩, ⟨[pI], []⟩, c2A (ja4 N)⟩ :=
 mO (fC (jaz N) ja) Tryz.func24 rfl N (.seq .no (.seq (.seq .no (.block (.loop jDt .no))) .no)) _
def l_FnExactAlertOf_m (N : Nat) (d : List (Z0 × DQ)) (h : List Z0) (e : List Z3) (i : Int) (c : Z11) (f : Z6) : Z7 :=
 (oB (l_szAlertS_m N d 1048576) fun w => bif decide (w < 0) then some true else oB (jbD N h e w) fun u => bif decide (u < 0) then some true else oB (jbq N i c f u) fun y => bif decide (y < 0) then some true else oB (l_toAlertS_m N d) fun L => oB (jad N h e) fun q => oB (jbv N i c f) fun l => oB (s_AlertOf_m N L q.1 q.2 l.1 l.2.1 l.2.2) fun n => oB (l_toAlertS_m N d) fun k => oB (jad N h e) fun b => oB (jbv N i c f) fun a => oB (i_AlertOf_m N k b.1 b.2 a.1 a.2.1 a.2.2) fun o => oB (j0 N o n) fun O => bif !O then some false else oB (l_toAlertS_m N d) fun H => oB (l_eqAlertS_m N k H) fun A => bif !A then some false else oB (jad N h e) fun t => oB (jcO N b.1 b.2 t.1 t.2) fun z => bif !z then some false else oB (jbv N i c f) fun p => oB (jbi N a.1 a.2.1 a.2.2 p.1 p.2.1 p.2.2) fun K => bif !K then some false else oB (l_markAlertS_m N k 1) fun G => oB (jb0 N b.1 b.2 G.1) fun E => oB (jGT N a.1 a.2.1 a.2.2 E.1) fun B => bif decide (B.1 < 0) then some false else oB (j0 N o n) fun D => bif !D then some false else oB (jas N o 1) fun j => oB (ja4 N j.2 1) fun v => bif decide (v < 0) then some false else bif !decide (v = j.1) then some false else oB (l_toAlertS_m N d) fun P => oB (jad N h e) fun x => oB (jbv N i c f) fun m => oB (i_AlertOf_m N P x.1 x.2 m.1 m.2.1 m.2.2) fun C => oB (j0 N C n) fun I => bif !I then some false else oB (ja4 N j.2 1) fun r => bif decide (r < 0) then some false else bif !decide (r = j.1) then some false else some true)
def jGZ (N : Nat) : Model := ⟨⟨[.pv (.sl (.pair .str .q)), .agg [.pv (.sl .str), .pv Y14], .agg [pI, .pv Y17, .pv Y13]], []⟩, ⟨[pB], []⟩, c6A (l_FnExactAlertOf_m N)⟩
theorem jG2 (N : Nat) : mK 3 (jGZ N) :=
 mO (fC (jG3 N) (fC (jm8 N) (fC (jnC N) (fC (jHi N) (fC (jtJ N) (fC (jsM N) (fC (jFZ N) (fC (jGA N) (fC (jd6 N) (fC (jHd N) (fC (jr8 N) (fC (jta N) (fC (jHj N) (fC (jrd N) (fC (jHg N) (fC (jdf N) (fC (jrD N) ja))))))))))))))))) Tryz.func3 rfl N .no (jGZ N) (dw := [33, 35, 37, 40, 42, 44, 48, 51, 55, 56, 60, 61, 65, 66, 82, 90, 97, 99, 101, 102, 105, 109])
end Go.Proofs.YtfgcmhhacfkhcaaGreatDoor
