/- The engine: cells of trees that are written, slices that are made. -/
import Derived.Test.YtcjbjmbialienaaGreatDoorKC
import Derived.Laws.MakeOwn
set_option linter.unusedSimpArgs false
set_option linter.unusedVariables false
namespace Go.Proofs.YtcjbjmbialienaaGreatDoor
open Go.RowKit
section
variable {E : Env} {o : Oper} {s : LSt} {e : Eff} {fp : FP}
theorem jlV {t : Tp} {x : t.D} {c : AV} (h : AsAV (.pv t x) c) : c = .pv t x := by
 obtain ⟨t', x', h1, rfl⟩ := h
 simp only [AV.as] at h1
 split at h1
 ·rename_i e; subst e; cases h1; rfl
 ·cases h1
theorem jk0 {t : Tp} (x : t.D) {j : Nat} {c : AV} (h : (cellsOf t x)[j]? = some c) : ∃ t' x', c = .pv t' x' := by
 obtain ⟨p, _, t', x', h1, _⟩ := (cells_enc t x).get j c h
 exact ⟨t', x', h1⟩
theorem jqU (hE : EnvOk E) (T : TypeId) (x y : Operand) (ho : o.op = .store T x y) (ty : Ty) (n i q : Nat) (tk : Tok) (hs : List (Nat × Nat × Nat)) (ys : List AV) (hty : E.ty T = some ty) (hx : s.ev x = .mptr n i q) (htk : lookT s.T n = some (.live tk)) (htr : tk.tr = some hs) (hy : (s.ev y).cells? = some ys) (hn : ys.length = ty.size) (hdst : o.dst = none)
  (h : (storeTree n i q ty.size ys tk hs).R s [] [n] e fp) : Sim E o s e := by
 unfold storeTree at h
 split at h
 case isFalse => exact h.elim
 rename_i hqw
 obtain ⟨hqw, hhw⟩ := hqw
 obtain ⟨cs, ns, rt', hgl, h⟩ := jbB ys _ _ _ h
 split at h
 ·exact h.elim
 rename_i hany
 have hnns : n ∉ ns := jcg (Bool.eq_false_iff.2 hany)
 obtain ⟨hs', h, hh1, hh2⟩ := jd1 hs _ _ _ h
 obtain ⟨old, hold, h⟩ := h
 simp only at h
 split at h
 case h_2 => exact h.elim
 rename_i y' hrow
 obtain ⟨rfl, _⟩ := h
 rintro R a w hR0 ⟨β, τ, F, S, hM, hsz, hdf, hsl⟩ K Q hK
 have hev := V3_ev hsl
 have h := hev x
 rw [hx] at h
 obtain ⟨b0, l0, cap0, ev, hil, hp⟩ := (v3_mptr h).2.2 tk htk
 rw [show (s.ctx w S β τ).τ n = τ n from rfl] at ev
 have hc := cells_of hy (hev y)
 have hk := hM.toks n tk htk
 have hwrn := (hk.tree htr).1
 have hdpn := (hk.tree htr).2
 have hixs : i < tk.xs.length := (List.getElem?_eq_some_iff.1 hold).1
 obtain ⟨b, cap, vs, T', qf, ev', hFb, hg, hz, hnc, hm, hq, hdj, hcc⟩ := hk.openTree htr hixs
 have eb : b = b0 := by rw [ev'] at ev; cases ev; rfl
 subst eb
 obtain ⟨ti, z, hi, hisz, _⟩ := (hE.ty T ty hty).info
 have hl := hc.len
 have hcl : (a.eval y).cells.toList.length = ty.size := by rw [← hl, hn]
 have hbase : i * tk.t.w + tk.t.w ≤ tk.xs.length * tk.t.w := by
  have : (i + 1) * tk.t.w ≤ tk.xs.length * tk.t.w := Nat.mul_le_mul_right _ hixs
  rwa [Nat.add_mul, Nat.one_mul] at this
 have hxsz : tk.xs.length * tk.t.w ≤ vs.size := by rw [hz]; exact Nat.mul_le_mul_right _ hnc
 have hone : ∀ v ∈ (a.eval y).cells.toList, v.oneCell' = true := fun v hv => by
  obtain ⟨j, hj, rfl⟩ := List.mem_iff_getElem.1 hv
  exact (hc.get' j (ys[j]'(by omega)) _ (by simp) (by simp)).2
 have hst' := run_storeCells_at E.P b (i * tk.t.w + q) T' (a.eval y).cells.toList 0 vs w hg (by omega) hone
 obtain ⟨vs', hvs'⟩ : ∃ vs' : Array Value, vs' = (vs.toList.take (i * tk.t.w + q) ++ (a.eval y).cells.toList ++ vs.toList.drop (i * tk.t.w + q + (a.eval y).cells.toList.length)).toArray := ⟨_, rfl⟩
 have hr : (execOp a.eval o).run E.P w = .ok .skip (w.setRow b vs') := by
  have hz' : (a.eval y).cells.size = ti.size := by rw [hisz, ← hn, hl]; simp
  simp only [Nat.add_zero] at hst'
  simp only [execOp, ho, Instr.storeAt, hp, Instr.sureAddr, storeVar, sizeOf, typeInfo, hi, Sem.run_bind, Sem.run_pure, Result.andThen_ok, run_program]
  simp [hi, hz', hst', hvs']
 have hvsl : vs'.toList = vs.toList.take (i * tk.t.w + q) ++ (a.eval y).cells.toList ++ vs.toList.drop (i * tk.t.w + q + (a.eval y).cells.toList.length) := by rw [hvs']
 have hget : ∀ k, vs'[k]? = if i * tk.t.w + q ≤ k ∧ k < i * tk.t.w + q + ty.size then (a.eval y).cells.toList[k - (i * tk.t.w + q)]? else vs[k]? := fun k => by
  rw [← Array.getElem?_toList, hvsl, jaV _ _ _ (by rw [hcl, Array.length_toList]; omega), hcl]
  simp
 have hsize : vs'.size = vs.size := by
  rw [← Array.length_toList, hvsl]
  simp only [List.length_append, List.length_take, List.length_drop, hcl, Array.length_toList]
  omega
 have hother : ∀ k, k ≠ b → (w.setRow b vs').heap[k]? = w.heap[k]? := fun k hk => setRow_other w b k _ hk
 have hhs : (w.setRow b vs').heap.size = w.heap.size := by simp [World.setRow]
 have hcell : ∀ b2 o2, S b2 o2 → (w.setRow b vs').cell? ⟨b2, o2, none⟩ = w.cell? ⟨b2, o2, none⟩ := fun b2 o2 hb => World.cell?_of_block (w := w) (hother b2 (fun e => hk.noS htr b hFb o2 (e ▸ hb)))
 have hstep : Step (fun k => k = b) S S w (w.setRow b vs') := ⟨⟨rfl, rfl, rfl, by rw [hhs]; exact Nat.le_refl _, fun k _ hk => hother k hk⟩, hcell, fun _ _ h => h, fun _ _ h => .inl h, fun b2 o2 h => by rw [hhs]; exact hM.lt b2 o2 h⟩
 have hheap : (w.setRow b vs').heap[b]? = some (.cells vs' T' (0, 0)) := setRow_heap w b vs _ T' (0, 0) hg
 obtain ⟨g, hg1, hg2, hg3⟩ := hgl.mem hM _ hc
 have hgF : ∀ k b2, g k b2 → ¬ F n b2 := fun k b2 hb hF => by
  obtain ⟨⟨t, tk1, e1, e2, e3⟩, _⟩ := hg1 k b2 hb
  have := hM.tdis t n tk1 tk b2 e2 htk e3 hF
  exact hnns (this ▸ e1)
 have hgb : ∀ k b2, g k b2 → b2 ≠ b := fun k b2 hb e => hgF k b2 hb (e ▸ hFb)
 have hcslen : cs.length = ty.size := by rw [hgl.len, hn]
 have hrowc := jdM tk.t _ y' hrow
 have div : ∀ i2 j2, j2 < tk.t.w → ((i * tk.t.w + q ≤ i2 * tk.t.w + j2 ∧ i2 * tk.t.w + j2 < i * tk.t.w + q + ty.size) ↔ (i2 = i ∧ q ≤ j2 ∧ j2 < q + ty.size)) := fun i2 j2 hj => by
  constructor
  ·rintro ⟨h1, h2⟩
   rcases Nat.lt_trichotomy i2 i with hlt | he | hlt
   ·have : (i2 + 1) * tk.t.w ≤ i * tk.t.w := Nat.mul_le_mul_right _ hlt
    rw [Nat.add_mul] at this; omega
   ·subst he; omega
   ·have : (i + 1) * tk.t.w ≤ i2 * tk.t.w := Nat.mul_le_mul_right _ hlt
    rw [Nat.add_mul] at this; omega
  ·rintro ⟨rfl, h1, h2⟩; omega
 have hlen : (tk.xs.set i y').length = tk.xs.length := by simp
 obtain ⟨tk', htk'⟩ : ∃ tk' : Tok, tk' = { tk with xs := tk.xs.set i y', tr := some hs' } := ⟨_, rfl⟩
 have cellsEq : ∀ (i2 j2 : Nat) (x2 : tk.t.D) (c : AV), (tk.xs.set i y')[i2]? = some x2 → (cellsOf tk.t x2)[j2]? = some c → (i2 = i ∧ q ≤ j2 ∧ j2 < q + ty.size ∧ ∃ c0, cs[j2 - q]? = some c0 ∧ AsAV c0 c) ∨ (¬ (i2 = i ∧ q ≤ j2 ∧ j2 < q + ty.size) ∧ ∃ x0, tk.xs[i2]? = some x0 ∧ (cellsOf tk.t x0)[j2]? = some c) := fun i2 j2 x2 c hx2 hc2 => by
  have hj : j2 < tk.t.w := cells_lt hc2
  by_cases he : i2 = i
  ·subst he
   rw [List.getElem?_set_self hixs] at hx2
   cases hx2
   have hll : ((cellsOf tk.t old).take q ++ cs ++ (cellsOf tk.t old).drop (q + ty.size)).length = (cellsOf tk.t y').length := hrowc.len
   have hjl : j2 < ((cellsOf tk.t old).take q ++ cs ++ (cellsOf tk.t old).drop (q + ty.size)).length := by rw [hll, cells_len]; exact hj
   obtain ⟨zz, hzz⟩ : ∃ zz, ((cellsOf tk.t old).take q ++ cs ++ (cellsOf tk.t old).drop (q + ty.size))[j2]? = some zz := ⟨_, List.getElem?_eq_getElem hjl⟩
   have has := hrowc.get' j2 _ c hzz hc2
   have hsp := jaV (cellsOf tk.t old) cs q (by rw [cells_len, hcslen]; exact hqw) j2
   rw [hcslen, hzz] at hsp
   by_cases hjq : q ≤ j2 ∧ j2 < q + ty.size
   ·rw [if_pos hjq] at hsp
    exact .inl ⟨rfl, hjq.1, hjq.2, zz, hsp.symm, has⟩
   ·rw [if_neg hjq] at hsp
    obtain ⟨t0, x0, e0⟩ := jk0 old hsp.symm
    subst e0
    rw [jlV has]
    exact .inr ⟨fun h => hjq ⟨h.2.1, h.2.2⟩, old, hold, hsp.symm⟩
  ·rw [List.getElem?_set_ne (Ne.symm he)] at hx2
   exact .inr ⟨fun h => he h.1, x2, hx2, hc2⟩
 have hGb : ∀ b2, (F n b2 ∨ ∃ k, g k b2) → R.fr b2 ∧ b2 < w.heap.size := fun b2 hb => by
  rcases hb with hb | ⟨k, hb⟩
  ·exact hk.1 b2 hb
  ·obtain ⟨⟨t, tk1, e1, e2, e3⟩, _⟩ := hg1 k b2 hb
   exact (hM.toks t tk1 e2).1 b2 e3
 have hTk : TokOk R.fr (w.setRow b vs') S tk' (τ n) (fun b2 => F n b2 ∨ ∃ k, g k b2) := by
  rw [htk']
  refine ⟨fun b2 hb => by rw [hhs]; exact hGb b2 hb, .inr ⟨b, cap, vs', T', by rw [hlen]; exact ev', .inl hFb, hheap, by rw [hsize]; exact hz, by rw [hlen]; exact hnc, hm, (fun h => by rw [show tk.wr = true from hwrn] at h; cases h), fun _ => hk.noS htr b hFb, fun i2 j x2 p hx2 hp => ?_⟩, ?_⟩
  ·have hi2 : i2 < tk.xs.length := by have := (List.getElem?_eq_some_iff.1 hx2).1; simpa using this
   have hj : j < tk.t.w := by have := (List.getElem?_eq_some_iff.1 hp).1; rwa [enc_len] at this
   have hlt : i2 * tk.t.w + j < vs'.size := by
    rw [hsize]
    have : (i2 + 1) * tk.t.w ≤ tk.xs.length * tk.t.w := Nat.mul_le_mul_right _ hi2
    rw [Nat.add_mul] at this; omega
   exact ⟨_, Array.getElem?_eq_getElem hlt, (fun h => by cases h), fun h => by rw [show tk.wr = true from hwrn] at h; cases h⟩
  ·unfold Once
   simp only
   refine ⟨hwrn, hdpn, fun b2 hb => ?_, ?_⟩
   ·rcases hb with hb | ⟨k, hb⟩
    ·exact hk.noS htr b2 hb
    ·exact (hg1 k b2 hb).2
   ·refine .inr ⟨b, cap, fun i2 j2 b2 => if i2 = i ∧ q ≤ j2 ∧ j2 < q + ty.size then g (j2 - q) b2 else qf i2 j2 b2, by rw [hlen]; exact ev', fun i2 j2 b2 hk' => ?_, fun i2 j2 i3 j3 b2 h1 h2 => ?_, fun i2 j2 x2 c hx2 hc2 => ?_⟩
    ·simp only at hk'
     split at hk'
     ·exact ⟨.inr ⟨_, hk'⟩, hgb _ _ hk'⟩
     ·exact ⟨.inl (hq i2 j2 b2 hk').1, (hq i2 j2 b2 hk').2⟩
    ·simp only at h1 h2
     split at h1 <;> split at h2
     ·rename_i h3 h4
      have := hg2 _ _ _ h1 h2
      exact ⟨h3.1.trans h4.1.symm, by omega⟩
     ·exact absurd (hq i3 j3 b2 h2).1 (hgF _ _ h1)
     ·exact absurd (hq i2 j2 b2 h1).1 (hgF _ _ h2)
     ·exact hdj i2 j2 i3 j3 b2 h1 h2
    ·have hj : j2 < tk.t.w := cells_lt hc2
     have hdv := div i2 j2 hj
     rcases cellsEq i2 j2 x2 c hx2 hc2 with ⟨e1, e2, e3, c0, e4, e5⟩ | ⟨hno, x0, e1, e2⟩
     ·have hjs : j2 - q < (a.eval y).cells.toList.length := by rw [hcl]; omega
      have hv := List.getElem?_eq_getElem hjs
      have hD := hg3 (j2 - q) c0 c _ e4 e5 hv
      have hvk : vs'[i2 * tk.t.w + j2]? = some (a.eval y).cells.toList[j2 - q] := by
       rw [hget, if_pos (hdv.2 ⟨e1, e2, e3⟩), ← hv]
       subst e1
       congr 1; omega
      refine ⟨_, by rw [cell_of_row _ b _ vs' T' (0, 0) hheap]; exact hvk, hD.one, fun _ => ?_⟩
      have eF : (fun b2 => if i2 = i ∧ q ≤ j2 ∧ j2 < q + ty.size then g (j2 - q) b2 else qf i2 j2 b2) = g (j2 - q) := by funext k; rw [if_pos ⟨e1, e2, e3⟩]
      show Deep _ (fun b2 => if i2 = i ∧ q ≤ j2 ∧ j2 < q + ty.size then g (j2 - q) b2 else qf i2 j2 b2) _ c
      rw [eF]
      exact hD.same fun k hk => hother k (hgb _ _ hk)
     ·obtain ⟨u, k1, k2, k3⟩ := hcc i2 j2 x0 c e1 e2
      have hvk : vs'[i2 * tk.t.w + j2]? = some u := by
       rw [hget, if_neg (fun h => hno (hdv.1 h))]; exact k1
      refine ⟨u, by rw [cell_of_row _ b _ vs' T' (0, 0) hheap]; exact hvk, k2, fun hnot => ?_⟩
      have eF : (fun b2 => if i2 = i ∧ q ≤ j2 ∧ j2 < q + ty.size then g (j2 - q) b2 else qf i2 j2 b2) = qf i2 j2 := by funext k; rw [if_neg hno]
      show Deep _ (fun b2 => if i2 = i ∧ q ≤ j2 ∧ j2 < q + ty.size then g (j2 - q) b2 else qf i2 j2 b2) _ c
      rw [eF]
      refine (k3 fun d hin => ?_).same fun k hk => hother k (hq i2 j2 k hk).2
      rcases hh2 (i2, j2, d) hin with h1 | h1
      ·exact hnot d h1
      ·exact hno h1
 obtain ⟨h1, h2⟩ := hM.turn n tk tk' htk ns hnns (fun k => k = b) hstep (fun k hk => hk ▸ hFb) (fun b2 => F n b2 ∨ ∃ k, g k b2) (fun b2 hb => hb.imp id fun ⟨k, hb⟩ => by
   obtain ⟨⟨t, tk1, e1, e2, e3⟩, _⟩ := hg1 k b2 hb
   exact ⟨t, tk1, e1, e2, e3⟩) hTk (by rw [htk']) (fun h => by rw [hwrn] at h; cases h)
  (fun hs1 i' o' d' he hin => by
   rw [htk'] at he
   simp only [Option.some.injEq] at he
   subst he
   obtain ⟨k1, k2⟩ := hh1 _ hin
   refine ⟨hs, htr, k1, fun b2 l2 cap2 e2 => ?_⟩
   rw [ev'] at e2; cases e2
   rw [cell_of_row _ b _ vs' T' (0, 0) hheap, cell_of_row w b _ vs T' (0, 0) hg, hget, if_neg ?_]
   rintro ⟨g1, g2⟩
   have hj : o' < tk.t.w := jcW (List.all_eq_true.1 hhw _ k1)
   exact k2 ((div i' o' hj).1 ⟨g1, g2⟩).2)
 have hu : (⟨.tup [], [], (ns.map fun t => (t, some TS.spent)) ++ [(n, some (.live { tk with xs := tk.xs.set i y', tr := some hs' }))]⟩ : Eff).updT (lookT s.T) = updT (jd (lookT s.T) ns) n (some (.live tk')) := by
  rw [htk']
  simp only [Eff.updT, List.foldl_append, jcB, List.foldl_cons, List.foldl_nil]
 refine wp_skip' hr (hK _ _ (rel_put (s := s) (e := ⟨.tup [], [], (ns.map fun t => (t, some TS.spent)) ++ [(n, some (.live { tk with xs := tk.xs.set i y', tr := some hs' }))]⟩) (by rw [hu]; exact h1) hsz hdf ?_ o.dst (.inl hdst)))
 rw [hu]
 exact jy (c := s.ctx w S β τ) (c' := ⟨w.setRow b vs', S, fun k => lookB s.B k ≠ none, β, updT (jd (lookT s.T) ns) n (some (.live tk')), τ⟩) ⟨fun _ _ h => h, hcell⟩ (BoxLe.refl rfl rfl) h2 hsl
theorem jee {c : Ctx} {w : World} {F : Nat → Prop} : ∀ (l l' : List AV) (vs : List Value), zeroDeep l = true → All2 AsAV l l' → All2 (V1c c) l vs → All2 (fun x v => Deep w F v x) l' vs
 | [], [], [], _, _, _ => True.intro
 | x :: l, x' :: l', v :: vs, h, ha, hv => by
  have key : zeroDeep l = true ∧ Deep w F v x' := by
   obtain ⟨t0, y0, e1, e2⟩ := ha.1
   subst e2
   cases x with
   | pv t y =>
    simp only [zeroDeep, Bool.and_eq_true] at h
    refine ⟨h.2, ?_⟩
    simp only [AV.as] at e1
    split at e1
    ·rename_i et
     subst et
     cases e1
     obtain ⟨p, he, hr⟩ := v3_pv (V3_of_V1 hv.1.1)
     have hl := flat_isLit _ _ h.1 p (by rw [he]; simp)
     exact .lit _ _ _ _ p he hl (rep_litV hr hl)
    ·cases e1
   | nils =>
    refine ⟨h, ?_⟩
    cases t0 with
    | sl r0 =>
     cases e1
     have e : v = .slice none 0 0 := hv.1.1
     rw [e]
     exact .nil _ _
    | _ => cases e1
   | _ => cases h
  exact ⟨key.2, jee l l' vs key.1 ha.2 hv.2⟩
 | [], _ :: _, _, _, h, _ => h.elim
 | _ :: _, [], _, _, h, _ => h.elim
 | [], [], _ :: _, _, _, h => h.elim
 | _ :: _, _ :: _, [], _, _, h => h.elim
theorem jph (hE : EnvOk E) (T : TypeId) (l c : Operand) (ho : o.op = .makeSlice T l c) (h : (opRD E o.op o.dst s.ev).R s [] [] e fp) : Sim E o s e := by
 rw [ho] at h
 simp only [opRD] at h
 split at h
 case h_2 => exact h.elim
 rename_i d ty hdst hty
 have hT := hE.ty T ty hty
 split at h
 case h_2 => exact h.elim
 rename_i e' r by' he
 split at h
 case h_2 => exact h.elim
 rename_i te hte
 have hTe := hE.ty e' te hte
 split at h
 case h_2 => exact h.elim
 rename_i z hz
 split at h
 case isFalse => exact h.elim
 rename_i hcond
 obtain ⟨hzl, hzd⟩ := hcond
 obtain ⟨kl, n, hln, h⟩ := jaP h
 obtain ⟨kc, m, hcm, h⟩ := jaP h
 obtain ⟨⟨hnm, hn0, hnb, hnx⟩, h⟩ := h
 subst hnm
 simp only [RD.R] at h
 split at h
 ·exact h.elim
 rename_i hd
 split at h
 ·exact h.elim
 rename_i hres
 obtain ⟨hu, hpos, ie, z1, hie, hsz, hby, hz1, hzs⟩ := hT.elem _ _ _ he
 obtain ⟨ie2, z2, hie2, hsz2, hz2, hzs2, hV⟩ := hTe.info
 rw [hie] at hie2; cases hie2
 rw [hz1] at hz2; cases hz2
 obtain ⟨N, hN⟩ : ∃ N : Nat, n = (N : Int) := ⟨n.toNat, (Int.toNat_of_nonneg hn0).symm⟩
 subst hN
 simp only [Int.toNat_natCast] at h
 have fin : ∀ (wr : Bool) (tk : Tok), tk.t = r → (hxs : HEq tk.xs (List.replicate N z)) → tk.wr = wr → tk.whole = true →
   (∀ (R : Root) (w w' : World) (S S' : Stab), S' = stabApp wr S w.heap.size (N * r.w) → (∀ b o, S b o → b < w.heap.size) → R.fr w.heap.size → w'.heap.size = w.heap.size + 1 → (∃ vs T', w'.heap[w.heap.size]? = some (.cells vs T' (0, 0)) ∧ vs.size = N * r.w ∧ ∀ i j, i < N → j < r.w → ∀ c', (cellsOf r z)[j]? = some c' → ∃ u, vs[i * r.w + j]? = some u ∧ Deep w' (fun _ => False) u c') → TokOk R.fr w' S' tk (.slice (some ⟨w.heap.size, 0, none⟩) N N) (fun b => b = w.heap.size)) →
   e = ⟨jD d tk, [], [(d, some (.live tk))]⟩ → Sim E o s e := fun wr tk ht hxs hw hwh hk he => by
  subst he
  rintro R a w hR0 ⟨β, τ, F, S, hM, hn, hdf, hsl⟩ K Q hK
  have hev := V3_ev hsl
  have hl : a.eval l = .int kl (N : Int) := v3_int (hln ▸ hev l)
  have hc : a.eval c = .int kc (N : Int) := v3_int (hcm ▸ hev c)
  have hrun0 := run_make (P := E.P) w T e' ie z1 hu hie hz1 kl kc (N : Int) (N : Int) (by omega) (Int.le_refl _) (by rw [hby, Int.mul_comm]; omega) (by omega)
  simp only [Int.toNat_natCast, hsz] at hrun0
  obtain ⟨w', hw'⟩ : ∃ w', w' = w.alloc (.cells (madeCells z1.cells (N * r.w)) e') := ⟨_, rfl⟩
  rw [← hw'] at hrun0
  have hrun : (execOp a.eval o).run E.P w = .ok (.value (.slice (some ⟨w.heap.size, 0, none⟩) N N)) w' := by
   simp only [execOp, ho, hl, hc, Sem.run_bind, hrun0, Result.andThen_ok, Sem.run_pure]
  have hb : Below w.heap.size w w' := by rw [hw']; exact (Below.refl _ _).alloc (Nat.le_refl _) _
  have hnew : w'.heap[w.heap.size]? = some (.cells (madeCells z1.cells (N * r.w)) e' (0, 0)) := by rw [hw']; exact heap_alloc_new w _
  have hsz' : w'.heap.size = w.heap.size + 1 := by rw [hw']; simp
  obtain ⟨S', hS'⟩ : ∃ S' : Stab, S' = stabApp wr S w.heap.size (N * r.w) := ⟨_, rfl⟩
  have hSo : ∀ b q, S b q → S' b q := fun b q h => by rw [hS']; exact .inl h
  have hSn : ∀ b q, S' b q → S b q ∨ w.heap.size ≤ b := fun b q h => by
   rw [hS'] at h
   rcases h with h | ⟨_, rfl, _⟩
   ·exact .inl h
   ·exact .inr (Nat.le_refl _)
  have hSl : ∀ b q, S' b q → b < w'.heap.size := fun b q h => by
   rw [hS'] at h
   rcases h with h | ⟨_, rfl, _⟩
   ·have := hM.lt b q h; omega
   ·omega
  have hM1 := (hM.drop (tok' := jd (lookT s.T) []) (fun t ht => jQ ht) (fun t tk h => (jo h).2)).grow hb hSo hSn hSl
  have hzz := jee (w := w') (F := fun _ => False) te.zero (cellsOf r z) z1.cells.toList hzd (jdM r _ z hz) (hV (s.ctx w S β τ))
  have hTk := hk R w w' S S' hS' hM.lt (.inl hM.size) hsz' ⟨_, e', hnew, size_madeCells _ _, fun i j hi hj c' hc' => by
   obtain ⟨u, hu1, hu2⟩ := hzz.get j c' hc'
   refine ⟨u, ?_, hu2⟩
   have hlt : i * r.w + j < N * r.w := by
    have : (i + 1) * r.w ≤ N * r.w := Nat.mul_le_mul_right _ hi
    rw [Nat.add_mul] at this; omega
   have hmod : (i * r.w + j) % z1.cells.size = j := by
    rw [hzs, Nat.mul_comm, Nat.mul_add_mod]
    exact Nat.mod_eq_of_lt hj
   have hjz : j < z1.cells.size := by rw [hzs]; exact hj
   have hu3 : z1.cells[j] = u := by
    rw [Array.getElem?_toList, Array.getElem?_eq_getElem hjz] at hu1
    exact Option.some.inj hu1
   simp only [madeCells, Array.getElem?_map, Array.getElem?_range, hlt, if_true, Option.map_some, hmod, getElem!_pos z1.cells j hjz, hu3]⟩
  exact wp_value hrun (hK _ _ (jak (s := s) [] hM1 hn hdf hsl (fun _ _ _ _ _ => ⟨hSo, fun b q hq => (bcell hb).1 b q (hM.lt b q hq)⟩) d hd (hR0.tn (by simpa using hres)) tk _ _ hTk hwh
   (fun t tk' b htl ht hb' hF => by have := ((hM.toks t tk' ht).1 _ hF).2; omega) (fun k b hk hb' => by have := hM.blt hk; omega) o.dst (by simp) _ rfl))
 have hmx : N ≤ maxLen := by simp only [maxLen]; omega
 split at h
 ·
  rename_i hwr
  obtain ⟨rfl, _⟩ := h
  refine fin true ⟨r, List.replicate N z, e', true, true, bif r.flatB then none else some []⟩ rfl HEq.rfl rfl (by unfold Tok.whole; cases r.flatB <;> rfl) (fun R w w' S S' hS' hlt hfr hsz' hv => ?_) (by simp [jD])
  obtain ⟨vs, T', h1, h2, h3⟩ := hv
  have hS : ∀ q, ¬ S' w.heap.size q := fun q hq => by
   rw [hS'] at hq
   rcases hq with hq | ⟨hq, _⟩
   ·have := hlt _ _ hq; omega
   ·cases hq
  refine .ofDeep ?_ (fun b hb => by subst hb; exact ⟨hfr, by omega⟩) (fun b hb => by subst hb; exact hS) e'
  have := Deep.sl (w := w') (fun b => b = w.heap.size) N r (List.replicate N z) (fun i j => (vs[i * r.w + j]?).getD undef) w.heap.size (fun _ _ _ => False) vs T' rfl h1 h2 (by simp) hmx (fun i j x c hx hc => ?_) (fun _ _ _ h => h.elim) (fun _ _ _ _ _ h => h.elim) (fun i j x c hx hc => ?_)
  ·rwa [List.length_replicate] at this
  all_goals
   obtain ⟨hi, hxz⟩ : i < N ∧ x = z := by
    rw [List.getElem?_replicate] at hx
    split at hx
    ·exact ⟨‹_›, (Option.some.inj hx).symm⟩
    ·cases hx
   rw [hxz] at hc
   obtain ⟨u, k1, k2⟩ := h3 i j hi (cells_lt hc) c hc
   simp only [k1, Option.getD_some]
  exact k2
 ·rename_i hwr
  obtain ⟨rfl, _⟩ := h
  refine fin false ⟨r, List.replicate N z, e', false, true, none⟩ rfl HEq.rfl rfl rfl (fun R w w' S S' hS' hlt hfr hsz' hv => ?_) (by simp [jD])
  obtain ⟨vs, T', h1, h2, h3⟩ := hv
  have get : ∀ {i : Nat} {x : r.D}, (List.replicate N z)[i]? = some x → i < N ∧ x = z := fun {i x} hx => by
   rw [List.getElem?_replicate] at hx
   split at hx
   ·exact ⟨‹_›, (Option.some.inj hx).symm⟩
   ·cases hx
  refine ⟨fun b hb => by subst hb; exact ⟨hfr, by omega⟩, .inr ⟨w.heap.size, N, vs, T', by simp, rfl, h1, h2, by simp, hmx, fun _ q hq => ?_, (fun h => by cases h), fun i j x p hx hp => ?_⟩, ?_⟩
  ·rw [hS'] at hq
   simp only [List.length_replicate]
   rcases hq with hq | ⟨_, _, hq⟩
   ·have := hlt _ _ hq; omega
   ·exact hq
  ·obtain ⟨hi, hxz⟩ := get hx
   rw [hxz] at hp
   have hj : j < r.w := by have := (List.getElem?_eq_some_iff.1 hp).1; rwa [enc_len] at this
   obtain ⟨c, hc⟩ := cells_at z hj
   obtain ⟨u, k1, k2⟩ := h3 i j hi hj c hc
   obtain ⟨t0, x0, p0, e1, e2, e3⟩ := k2.rep (S := S') (fun _ _ h => h.elim)
   obtain ⟨t1, x1, e4, e5⟩ := (cells_enc r z).get' j c p hc hp
   rw [e1] at e4; cases e4
   rw [e2] at e5; cases e5
   refine ⟨u, k1, fun _ => e3, fun _ => ?_⟩
   rw [hS']
   refine .inr ⟨rfl, rfl, ?_⟩
   have : (i + 1) * r.w ≤ N * r.w := Nat.mul_le_mul_right _ hi
   rw [Nat.add_mul] at this
   show i * r.w + j < N * r.w
   omega
  ·show (true = true → Deep w' _ _ (.pv (.sl r) (List.replicate N z)))
   intro _
   have := Deep.sl (w := w') (fun b => b = w.heap.size) N r (List.replicate N z) (fun i j => (vs[i * r.w + j]?).getD undef) w.heap.size (fun _ _ _ => False) vs T' rfl h1 h2 (by simp) hmx (fun i j x c hx hc => ?_) (fun _ _ _ h => h.elim) (fun _ _ _ _ _ h => h.elim) (fun i j x c hx hc => ?_)
   ·rwa [List.length_replicate] at this
   all_goals
    obtain ⟨hi, hxz⟩ := get hx
    rw [hxz] at hc
    obtain ⟨u, k1, k2⟩ := h3 i j hi (cells_lt hc) c hc
    simp only [k1, Option.getD_some]
   exact k2
end
end Go.Proofs.YtcjbjmbialienaaGreatDoor
