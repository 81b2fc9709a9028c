/- The engine, fifteenth part: memory told by a shape. -/
import Derived.Test.YtcjbjmbialienaaGreatDoorK14
set_option linter.unusedSimpArgs false
set_option linter.unusedVariables false
namespace Go.Proofs.YtcjbjmbialienaaGreatDoor
open Go.RowKit
theorem pack_unpack : ∀ (l : List Tp) (ps : List Pay) (y : HD l), pack l ps = some y → unpack l y = ps
 | [], ps, y, h => by
  simp only [pack] at h
  split at h
  ·rfl
  ·cases h
 | [t], ps, y, h => by
  simp only [pack] at h
  split at h
  ·rename_i p
   split at h
   ·rename_i e; subst e; cases h; rfl
   ·cases h
  ·cases h
 | t :: u :: l, ps, y, h => by
  simp only [pack] at h
  split at h
  ·rename_i p qs
   split at h
   ·rename_i e
    subst e
    split at h
    ·rename_i z hz
     cases h
     simp only [unpack, pack_unpack (u :: l) qs z hz]
    ·cases h
   ·cases h
  ·cases h
structure MemB (Fr : Nat → Prop) (box : Nat → Option BS) (tok : Nat → Option TS) (β : Nat → Nat) (τ : Nat → Value) (F : Nat → Nat → Prop) (S : Stab) (w : World) : Prop where
 boxes : ∀ k b, box k = some b → Fr (β k) ∧ (b.fz = false → ∀ o, ¬ S (β k) o) ∧ (b.fz = true → ∀ o, o < b.cs.length → S (β k) o) ∧ BoxAt ⟨w, S, fun k => box k ≠ none, β, tok, τ⟩ k (β k) b.cs
 binj : ∀ k k' b b', box k = some b → box k' = some b' → β k = β k' → k = k'
 toks : ∀ t tk, tok t = some (.live tk) → TokOk Fr w S tk (τ t) (F t)
 tdis : ∀ t t' tk tk' b, tok t = some (.live tk) → tok t' = some (.live tk') → F t b → F t' b → t = t'
 tbox : ∀ t tk k b, tok t = some (.live tk) → box k = some b → ¬ F t (β k)
theorem TokOk.fr {Fr Fr' : Nat → Prop} {w : World} {S : Stab} {tk : Tok} {v : Value} {F : Nat → Prop} (h : TokOk Fr w S tk v F) (hF : ∀ b, F b → Fr' b) : TokOk Fr' w S tk v F := ⟨fun b hb => ⟨hF b hb, (h.1 b hb).2⟩, h.2⟩
def fzT (tok : Nat → Option TS) (ns : List Nat) : Nat → Option TS := fun n => match tok n with
 | some (.live tk) => some (.live (if n ∈ ns then tk.fz else tk))
 | z => z
def fzB (box : Nat → Option BS) (ks : List Nat) : Nat → Option BS := fun k => match box k with
 | some b => some { b with fz := b.fz || decide (k ∈ ks) }
 | none => none
section
variable {R : Root} {w : World} {S : Stab} {box : Nat → Option BS} {tok : Nat → Option TS} {β : Nat → Nat} {τ : Nat → Value} {F : Nat → Nat → Prop}
theorem fzT_live {tok : Nat → Option TS} {ns : List Nat} {t : Nat} {tk : Tok} (h : fzT tok ns t = some (.live tk)) : ∃ tk0, tok t = some (.live tk0) ∧ tk = if t ∈ ns then tk0.fz else tk0 := by
 unfold fzT at h
 split at h
 ·rename_i tk0 h0; cases h; exact ⟨tk0, h0, rfl⟩
 ·rename_i hne; exact absurd h (hne tk)
theorem Mem.freezeToks (hM : Mem R box tok β τ F S w) : ∀ ns : List Nat, ∃ S', Mem R box (fzT tok ns) β τ F S' w ∧ ∀ b o, S b o → S' b o
 | [] => ⟨S, by
  have : fzT tok [] = tok := by
   funext n; unfold fzT
   split
   ·rename_i tk h; rw [h]; simp
   ·rfl
  rw [this]; exact hM, fun _ _ h => h⟩
 | n :: ns => by
  obtain ⟨S1, hM1, h1⟩ := hM.freezeToks ns
  cases hn : fzT tok ns n with
  | none =>
   refine ⟨S1, ?_, h1⟩
   have : fzT tok (n :: ns) = fzT tok ns := by
    funext m; unfold fzT
    by_cases e : m = n
    ·subst e
     unfold fzT at hn
     split at hn
     ·cases hn
     ·rfl
    ·split <;> simp [e]
   rw [this]; exact hM1
  | some z => cases z with
   | spent =>
    refine ⟨S1, ?_, h1⟩
    have : fzT tok (n :: ns) = fzT tok ns := by
     funext m; unfold fzT
     by_cases e : m = n
     ·subst e
      unfold fzT at hn
      split at hn
      ·cases hn
      ·rfl
     ·split <;> simp [e]
    rw [this]; exact hM1
   | live tk =>
    obtain ⟨tk0, g1, g2⟩ := fzT_live hn
    cases hwh : tk.whole with
    | false =>
     refine ⟨S1, ?_, h1⟩
     have : fzT tok (n :: ns) = fzT tok ns := by
      funext m
      by_cases e : m = n
      ·subst e
       rw [hn]
       unfold fzT
       rw [g1]
       simp only [List.mem_cons, true_or, if_true]
       congr 2
       by_cases hin : m ∈ ns
       ·rw [if_pos hin] at g2; exact g2.symm
       ·rw [if_neg hin] at g2
        rw [← g2]
        unfold Tok.fz
        rw [hwh]; rfl
      ·unfold fzT
       split <;> simp [e]
     rw [this]; exact hM1
    | true =>
     obtain ⟨S2, hM2, h2, _⟩ := hM1.freezeTok n tk hn hwh
     refine ⟨S2, ?_, fun b o h => h2 b o (h1 b o h)⟩
     have : fzT tok (n :: ns) = updT (fzT tok ns) n (some (.live tk.fz0)) := by
      funext m
      by_cases e : m = n
      ·subst e
       simp only [updT, if_true]
       unfold fzT
       rw [g1]
       simp only [List.mem_cons, true_or, if_true]
       congr 2
       by_cases hin : m ∈ ns
       ·rw [if_pos hin] at g2
        rw [g2]
        cases hw0 : tk0.whole with
        | true => rw [Tok.fz_eq hw0]; rfl
        | false =>
         have e1 : tk0.fz = tk0 := by unfold Tok.fz; rw [hw0]; rfl
         rw [g2, e1, hw0] at hwh; cases hwh
       ·rw [if_neg hin] at g2
        rw [g2, Tok.fz_eq (by rw [← g2]; exact hwh)]
      ·simp only [updT, e, if_false]
       unfold fzT
       split <;> simp [e]
     rw [this]; exact hM2
theorem Mem.freezeBox (hM : Mem R box tok β τ F S w) (k : Nat) (b : BS) (hk : box k = some b) : ∃ S', Mem R (updB box k { b with fz := true }) tok β τ F S' w ∧ ∀ b o, S b o → S' b o := by
 obtain ⟨k1, k2, k3, kB⟩ := hM.boxes k b hk
 have hlive : (fun j => updB box k { b with fz := true } j ≠ none) = fun j => box j ≠ none := by
  funext j
  simp only [updB]
  split
  ·rename_i e; subst e; rw [hk]; simp
  ·rfl
 have hstep : Step (fun j => j = β k) S (fun c o => S c o ∨ (c = β k ∧ o < b.cs.length)) w w := ⟨Upd.refl _ _, fun _ _ _ => rfl, fun _ _ h => .inl h, fun c o h => h.imp id (fun h => .inr h.1), fun c o h => by
  rcases h with h | ⟨rfl, _⟩
  ·exact hM.lt c o h
  ·exact hM.blt hk⟩
 refine ⟨fun c o => S c o ∨ (c = β k ∧ o < b.cs.length), ⟨hM.upd, fun c o h => .inl (hM.old c o h), fun c o h => ?_, hM.keep, hstep.lt, fun j b' hj => ?_, fun j j' b1 b2 hj hj' e => ?_, fun t tk ht => (hM.toks t tk ht).step hstep (fun c hc e => hM.tbox t tk k b ht hk (e ▸ hc)), hM.tdis, fun t tk j b' ht hj => ?_, fun j c hc hj => ?_, hM.tfix, hM.hol⟩, fun _ _ h => .inl h⟩
 ·rcases h with h | ⟨rfl, _⟩
  ·exact hM.new c o h
  ·exact .inr k1
 ·rw [hlive]
  by_cases e : j = k
  ·subst e
   simp only [updB, if_true, Option.some.injEq] at hj
   subst hj
   exact ⟨k1, (fun h => by cases h), fun _ o ho => .inr ⟨rfl, ho⟩, kB.imp rfl fun x v hx => ⟨V1.mono (c := ⟨w, S, fun k => box k ≠ none, β, tok, τ⟩) (c' := ⟨w, fun c o => S c o ∨ (c = β j ∧ o < b.cs.length), fun j => box j ≠ none, β, tok, τ⟩) ⟨fun _ _ h => .inl h, fun _ _ _ => rfl⟩ (BoxLe.refl rfl rfl) (TokLe.refl rfl rfl) hx.1, hx.2⟩⟩
  ·simp only [updB, e, if_false] at hj
   obtain ⟨j1, j2, j3, jB⟩ := hM.boxes j b' hj
   refine ⟨j1, fun hz o ho => ?_, fun hz o ho => .inl (j3 hz o ho), jB.imp rfl fun x v hx => ⟨V1.mono (c := ⟨w, S, fun k => box k ≠ none, β, tok, τ⟩) (c' := ⟨w, fun c o => S c o ∨ (c = β k ∧ o < b.cs.length), fun j => box j ≠ none, β, tok, τ⟩) ⟨fun _ _ h => .inl h, fun _ _ _ => rfl⟩ (BoxLe.refl rfl rfl) (TokLe.refl rfl rfl) hx.1, hx.2⟩⟩
   rcases ho with ho | ⟨ho, _⟩
   ·exact j2 hz o ho
   ·exact e (hM.binj j k b' b hj hk ho)
 ·have conv : ∀ {j b1}, updB box k { b with fz := true } j = some b1 → ∃ b2, box j = some b2 := fun {j b1} h => by
   by_cases e : j = k
   ·exact ⟨b, e ▸ hk⟩
   ·simp only [updB, e, if_false] at h; exact ⟨b1, h⟩
  obtain ⟨c1, h1⟩ := conv hj
  obtain ⟨c2, h2⟩ := conv hj'
  exact hM.binj j j' c1 c2 h1 h2 e
 ·by_cases e : j = k
  ·subst e; exact hM.tbox t tk j b ht hk
  ·simp only [updB, e, if_false] at hj; exact hM.tbox t tk j b' ht hj
 ·refine hM.bfix j c hc (fun h => hj ?_)
  by_cases e : j = k
  ·subst e; rw [hk] at h; cases h
  ·simp only [updB, e, if_false]; exact h
theorem Mem.freezeBoxes (hM : Mem R box tok β τ F S w) : ∀ ks : List Nat, ∃ S', Mem R (fzB box ks) tok β τ F S' w ∧ ∀ b o, S b o → S' b o
 | [] => ⟨S, by
  have : fzB box [] = box := by
   funext n; unfold fzB
   split
   ·rename_i b h; rw [h]; simp
   ·rename_i h; rw [h]
  rw [this]; exact hM, fun _ _ h => h⟩
 | k :: ks => by
  obtain ⟨S1, hM1, h1⟩ := hM.freezeBoxes ks
  cases hk : fzB box ks k with
  | none =>
   refine ⟨S1, ?_, h1⟩
   have : fzB box (k :: ks) = fzB box ks := by
    funext m; unfold fzB
    by_cases e : m = k
    ·subst e
     unfold fzB at hk
     split at hk
     ·cases hk
     ·rfl
    ·split <;> simp [e]
   rw [this]; exact hM1
  | some b =>
   obtain ⟨S2, hM2, h2⟩ := hM1.freezeBox k b hk
   refine ⟨S2, ?_, fun b o h => h2 b o (h1 b o h)⟩
   have : fzB box (k :: ks) = updB (fzB box ks) k { b with fz := true } := by
    funext m
    by_cases e : m = k
    ·subst e
     simp only [updB, if_true]
     unfold fzB at hk ⊢
     split at hk
     ·cases hk
      simp
     ·cases hk
    ·simp only [updB, e, if_false]
     unfold fzB
     split <;> simp [e]
   rw [this]; exact hM2
end
section
variable (B : List (Nat × BS)) (T : List (Nat × Option TS))
theorem convB_ext : ∀ (l : List (Nat × Bool × List VS)) (a a' : Acc), convB B T l a = some a' → Ext a a' ∧ (AccInv a → AccInv a')
 | [], a, a', h => by simp only [convB] at h; cases h; exact ⟨Ext.refl _, id⟩
 | (k, fz, vs) :: l, a, a', h => by
  simp only [convB] at h
  split at h
  ·split at h
   ·obtain ⟨a1, h1, h2⟩ := Option.bind_eq_some_iff.1 h
    obtain ⟨a2, h3, h4⟩ := Option.bind_eq_some_iff.1 h2
    obtain ⟨e1, g2, g3, g4, g5, g6, g7, g8, g9, _⟩ := bindBox_spec h1
    obtain ⟨e2, i2⟩ := convL_ext B T vs _ _ _ h3
    obtain ⟨e3, i3⟩ := convB_ext l a2 a' h4
    refine ⟨e1.trans (Ext.trans (b := { a1 with fb := if fz then a1.fb ++ [(lookR a.rb k).getD k] else a1.fb, ub := if fz then a1.ub else a1.ub ++ [(lookR a.rb k).getD k] }) ⟨True.intro, ⟨[], by simp⟩, fun _ _ h => h, fun k hk => ?_, fun _ h => h, fun _ h => h, fun k hk => ?_⟩ (e2.trans e3)), fun hi => i3 (i2 ⟨by rw [g4]; exact hi.rt, g9 hi.rb⟩)⟩
    ·simp only; split
     ·exact List.mem_append_left _ hk
     ·exact hk
    ·simp only; split
     ·exact hk
     ·exact List.mem_append_left _ hk
   ·cases h
  ·cases h
variable {B T} {fin : Acc} {Fr : Nat → Prop} {c c' : Ctx} {F : Nat → Nat → Prop}
theorem conv_map {r : Tp} {xs : List r.D} {vs : List VS} {a a' : Acc} (h : convL B T vs [.pv (.sl r) xs] a = some a') : ∃ seg y1, a'.ps = a.ps ++ seg ∧ a'.rt = a.rt ∧ (∀ rest, instL vs (seg ++ rest) = (y1, rest, [])) ∧ (y1 = [.pv (.sl r) xs] ∨ y1 = [.dead]) := by
 match vs, h with
 | [], h => simp [convL] at h
 | v :: v' :: l, h => 
  simp only [convL] at h
  obtain ⟨_, _, h⟩ := Option.bind_eq_some_iff.1 h
  cases h
 | [v], h =>
  simp only [convL] at h
  obtain ⟨a1, h1, h2⟩ := Option.bind_eq_some_iff.1 h
  cases h2
  cases v with
  | dead =>
   simp only [conv] at h1
   cases h1
   exact ⟨[], [.dead], by simp, rfl, fun rest => rfl, .inr rfl⟩
  | pv t =>
   simp only [conv, AV.as] at h1
   by_cases e : Tp.sl r = t
   ·subst e
    simp only [dif_pos] at h1
    cases h1
    exact ⟨[⟨.sl r, xs⟩], [.pv (.sl r) xs], rfl, rfl, fun rest => rfl, .inl rfl⟩
   ·simp only [dif_neg e] at h1
    cases h1
  | _ => simp [conv] at h1
theorem conv_dead {vs : List VS} {a a' : Acc} (h : convL B T vs [.dead] a = some a') : a'.ps = a.ps ∧ a'.rt = a.rt ∧ (∀ rest, instL vs rest = ([.dead], rest, [])) := by
 match vs, h with
 | [], h => simp [convL] at h
 | v :: v' :: l, h => 
  simp only [convL] at h
  obtain ⟨_, _, h⟩ := Option.bind_eq_some_iff.1 h
  cases h
 | [v], h =>
  simp only [convL] at h
  obtain ⟨a1, h1, h2⟩ := Option.bind_eq_some_iff.1 h
  cases h2
  cases v with
  | dead =>
   simp only [conv] at h1
   cases h1
   exact ⟨rfl, rfl, fun rest => rfl⟩
  | _ => simp [conv, AV.as] at h1
theorem map_conv {vs : List VS} {cs : List AV} {a a' : Acc} {w : World} {b : Nat} (hm : MapAt w b cs) (h : convL B T vs cs a = some a') : ∃ seg y1, a'.ps = a.ps ++ seg ∧ a'.rt = a.rt ∧ (∀ rest, instL vs (seg ++ rest) = (y1, rest, [])) ∧ MapAt w b y1 ∧ y1.length = cs.length := by
 obtain ⟨kt, vt, es, ents, clk, h1, h2, h3⟩ := hm
 rcases h1 with rfl | rfl
 ·obtain ⟨seg, y1, g1, g2, g3, g4⟩ := conv_map h
  refine ⟨seg, y1, g1, g2, g3, ⟨kt, vt, es, ents, clk, g4, h2, h3⟩, ?_⟩
  rcases g4 with rfl | rfl <;> rfl
 ·obtain ⟨g1, g2, g3⟩ := conv_dead h
  exact ⟨[], [.dead], by simp [g1], g2, fun rest => g3 rest, ⟨kt, vt, es, ents, clk, .inr rfl, h2, h3⟩, rfl⟩
theorem convB_ok (hK : Known B T fin Fr c c' F) (hcw : c'.w = c.w) (hbv : ∀ k b, lookB B k = some b → BoxAt c k (c.β k) b.cs) : ∀ (l : List (Nat × Bool × List VS)) (a a' : Acc), convB B T l a = some a' → Ext a' fin →
  ∃ seg rseg bs us, a'.ps = a.ps ++ seg ∧ a'.rt = a.rt ++ rseg ∧ (∀ rest, instB l (seg ++ rest) = (bs, us)) ∧ All2 (TR c) rseg us ∧ bs.map (·.1) = l.map (·.1) ∧ ((∀ n z, (n, z) ∈ us → c'.tok n = z) → ∀ k b', (k, b') ∈ bs → ∃ k' b, lookR fin.rb k = some k' ∧ lookB B k' = some b ∧ BoxAt c' k (c.β k') b'.cs ∧ (b'.fz = true → k' ∈ fin.fb) ∧ (b'.fz = false → b.fz = false ∧ k' ∈ fin.ub) ∧ b'.cs.length = b.cs.length)
 | [], a, a', h, hf => by
  simp only [convB] at h; cases h
  exact ⟨[], [], [], [], by simp, by simp, fun rest => rfl, True.intro, rfl, fun _ k b' h => by cases h⟩
 | (k, fz, vs) :: l, a, a', h, hf => by
  simp only [convB] at h
  split at h
  case h_2 => cases h
  rename_i b hb
  split at h
  case isFalse => cases h
  rename_i hfz
  obtain ⟨a1, h1, h2⟩ := Option.bind_eq_some_iff.1 h
  obtain ⟨a2, h3, h4⟩ := Option.bind_eq_some_iff.1 h2
  obtain ⟨e1, g2, g3, g4, g5, g6, g7, g8, g9, _⟩ := bindBox_spec h1
  obtain ⟨e2, _⟩ := convL_ext B T vs _ _ _ h3
  obtain ⟨e3, _⟩ := convB_ext B T l a2 a' h4
  have hcore : ∃ s1 r1 y1 t1, a2.ps = a1.ps ++ s1 ∧ a2.rt = a1.rt ++ r1 ∧ (∀ rest, instL vs (s1 ++ rest) = (y1, rest, t1)) ∧ All2 (TR c) r1 t1 ∧ ((∀ n z, (n, z) ∈ t1 → c'.tok n = z) → BoxAt c' k (c.β ((lookR a.rb k).getD k)) y1 ∧ y1.length = b.cs.length) := by
   have hmm := hK.nm _ _ (hf.rb _ _ (e3.rb _ _ (e2.rb _ _ g2)))
   rcases hbv _ b hb with ⟨hn, us, Ty, hheap, hus⟩ | ⟨hn, hmap⟩
   ·obtain ⟨s1, r1, y1, t1, p1, p2, p3, p4, p5⟩ := convL_ok hK (fun c => V1c c) (fun x x' v h => V3_of_V1 h.1) (fun x x' v hi h => ⟨hi.2.1 h.1, h.2⟩) vs b.cs _ a2 us h3 (e3.trans hf) hus
    refine ⟨s1, r1, y1, t1, p1, p2, p3, p4, fun ht => ?_⟩
    have ht := p5 ht
    exact ⟨.inl ⟨hmm.trans hn, us, Ty, by rw [hcw]; exact hheap, ht⟩, by rw [ht.len, hus.len]⟩
   ·obtain ⟨seg, y1, p1, p2, p3, p4, p5⟩ := map_conv hmap h3
    exact ⟨seg, [], y1, [], p1, by simp [p2], p3, True.intro, fun _ => ⟨.inr ⟨hmm.trans hn, by rw [hcw]; exact p4⟩, p5⟩⟩
  obtain ⟨s1, r1, y1, t1, p1, p2, p3, p4, p5⟩ := hcore
  obtain ⟨s2, r2, bs, t2, q1, q2, q3, q4, q6, q5⟩ := convB_ok hK hcw hbv l a2 a' h4 hf
  refine ⟨s1 ++ s2, r1 ++ r2, (k, ⟨fz, y1⟩) :: bs, t1 ++ t2, by rw [q1, p1, List.append_assoc, ← g3], by rw [q2, p2, List.append_assoc, ← g4], fun rest => ?_, p4.append q4, by simp [q6], fun hts j b' hj => ?_⟩
  ·simp only [instB, List.append_assoc, p3, q3]
  ·rcases List.mem_cons.1 hj with hj | hj
   ·cases hj
    have ht := p5 fun n z hz => hts n z (List.mem_append_left _ hz)
    refine ⟨_, b, hf.rb _ _ (e3.rb _ _ (e2.rb _ _ g2)), hb, ht.1, fun hz => hf.fb _ (e3.fb _ (e2.fb _ ?_)), fun hz => ⟨?_, hf.ub _ (e3.ub _ (e2.ub _ ?_))⟩, ht.2⟩
    ·simp only at hz; simp [hz]
    ·simp only at hz
     cases hbf : b.fz with
     | false => rfl
     | true => have := hfz hbf; rw [hz] at this; cases this
    ·simp only at hz; simp [hz]
   ·exact q5 (fun n z hz => hts n z (List.mem_append_right _ hz)) j b' hj
end
theorem tr_names {c : Ctx} : ∀ {l : List (Nat × Option Nat)} {ts : List (Nat × Option TS)}, All2 (TR c) l ts → ts.map (·.1) = l.map (·.1)
 | [], [], _ => rfl
 | x :: l, y :: ts, h => by simp [h.1.1, tr_names h.2]
 | [], _ :: _, h => h.elim
 | _ :: _, [], h => h.elim
theorem lookT_nodup : ∀ {ts : List (Nat × Option TS)}, (ts.map (·.1)).Nodup → ∀ n z, (n, z) ∈ ts → lookT ts n = z
 | [], _, n, z, h => by cases h
 | (m, y) :: ts, hn, n, z, h => by
  simp only [List.map_cons, List.nodup_cons] at hn
  simp only [lookT]
  rcases List.mem_cons.1 h with h | h
  ·cases h; simp
  ·have : n ≠ m := fun e => hn.1 (by rw [← e]; exact List.mem_map.2 ⟨(n, z), h, rfl⟩)
   rw [if_neg this]
   exact lookT_nodup hn.2 n z h
theorem lookT_mem : ∀ {ts : List (Nat × Option TS)} {n : Nat} {z : TS}, lookT ts n = some z → (n, some z) ∈ ts
 | [], n, z, h => by cases h
 | (m, y) :: ts, n, z, h => by
  simp only [lookT] at h
  split at h
  ·rename_i e; subst e; subst h; exact List.mem_cons_self
  ·exact List.mem_cons_of_mem _ (lookT_mem h)
theorem lookB_mem : ∀ {bs : List (Nat × BS)} {k : Nat} {b : BS}, lookB bs k = some b → (k, b) ∈ bs
 | [], k, b, h => by cases h
 | (m, y) :: bs, k, b, h => by
  simp only [lookB] at h
  split at h
  ·rename_i e; subst e; cases h; exact List.mem_cons_self
  ·exact List.mem_cons_of_mem _ (lookB_mem h)
theorem lookB_isSome : ∀ {bs : List (Nat × BS)} {k : Nat}, k ∈ bs.map (·.1) → lookB bs k ≠ none
 | (m, y) :: bs, k, h => by
  simp only [lookB]
  split
  ·simp
  ·rename_i e
   simp only [List.map_cons, List.mem_cons] at h
   exact lookB_isSome (h.resolve_left e)
def shβ (a : Acc) (β : Nat → Nat) (k : Nat) : Nat := β ((lookR a.rb k).getD k)
def shτ (a : Acc) (τ : Nat → Value) (n : Nat) : Value := match lookR a.rt n with
 | some (some m) => τ m
 | _ => .slice none 0 0
def shF (a : Acc) (F : Nat → Nat → Prop) (n : Nat) : Nat → Prop := match lookR a.rt n with
 | some (some m) => F m
 | _ => fun _ => False
theorem lookR_nodup {α : Type} : ∀ {l : List (Nat × α)}, (l.map (·.1)).Nodup → ∀ n z, (n, z) ∈ l → lookR l n = some z
 | [], _, n, z, h => by cases h
 | (m, y) :: l, hn, n, z, h => by
  simp only [List.map_cons, List.nodup_cons] at hn
  simp only [lookR]
  rcases List.mem_cons.1 h with h | h
  ·cases h; simp
  ·have : n ≠ m := fun e => hn.1 (by rw [← e]; exact List.mem_map.2 ⟨(n, z), h, rfl⟩)
   rw [if_neg this]
   exact lookR_nodup hn.2 n z h
theorem fz_wr {tk : Tok} (h : tk.wr = false) : tk.fz.wr = false := by unfold Tok.fz; cases tk.whole <;> first | exact h | rfl
theorem fzT_le {w : World} {S S' : Stab} {live : Nat → Prop} {β : Nat → Nat} {τ : Nat → Value} (tok : Nat → Option TS) (ns : List Nat) : TokLe ⟨w, S, live, β, tok, τ⟩ ⟨w, S', live, β, fzT tok ns, τ⟩ := fun t ht => by
 have ht : tok t ≠ none := ht
 refine ⟨?_, fun tk' h => ?_⟩
 ·show fzT tok ns t ≠ none
  unfold fzT; split
  ·simp
  ·exact ht
 ·obtain ⟨tk0, h1, rfl⟩ := fzT_live (show fzT tok ns t = some (.live tk') from h)
  exact ⟨tk0, h1, rfl, by split <;> simp [Tok.fz_t], fun hw => by
   by_cases hin : t ∈ ns
   ·rw [if_pos hin]; exact ⟨fz_wr hw, Tok.fz_row tk0⟩
   ·rw [if_neg hin]; exact ⟨hw, rfl⟩⟩
theorem conv_mem {R : Root} {w : World} {S : Stab} {box : Nat → Option BS} {tok : Nat → Option TS} {β : Nat → Nat} {τ : Nat → Value} {F : Nat → Nat → Prop} (hM : Mem R box tok β τ F S w) {B : List (Nat × BS)} {T : List (Nat × Option TS)} (hB : ∀ k b, lookB B k = some b → box k = some b) (hT : ∀ n z, lookT T n = some z → tok n = some z)
  {sh : Sh} {xs : List AV} {y : HD sh.codes} {acc : Acc} (hc : sh.conv B T xs = some (y, acc)) {vals : List Value} (hv : All2 (V3 ⟨w, S, fun k => box k ≠ none, β, tok, τ⟩) xs vals) :
  AccInv acc ∧ ∃ S', (∀ b o, S b o → S' b o) ∧ Mem R (fzB box acc.fb) (fzT tok acc.ft) β τ F S' w ∧ (∀ k b, lookB (sh.mk' y).B k = some b → ∃ k' b', lookR acc.rb k = some k' ∧ fzB box acc.fb k' = some b' ∧ b'.fz = b.fz) ∧
   (∀ n tk, lookT (sh.mk' y).T n = some (.live tk) → ∃ n', (n, n') ∈ acc.rt ∧ match n' with | some m => ∃ tk0, fzT tok acc.ft m = some (.live tk0) ∧ tk0.wr = tk.wr | none => True) ∧
   (∀ n x, (n, x) ∈ acc.rt → ∃ tk, lookT (sh.mk' y).T n = some (.live tk)) ∧ (∀ k k', lookR acc.rb k = some k' → lookB (sh.mk' y).B k ≠ none) ∧
   (∀ Fr', (∀ k b, lookB (sh.mk' y).B k = some b → Fr' (shβ acc β k)) → (∀ t tk b, lookT (sh.mk' y).T t = some (.live tk) → shF acc F t b → Fr' b) → MemB Fr' (lookB (sh.mk' y).B) (lookT (sh.mk' y).T) (shβ acc β) (shτ acc τ) (shF acc F) S' w) ∧
   All2 (V3 ((sh.mk' y).ctx w S' (shβ acc β) (shτ acc τ))) (sh.mk' y).L vals := by
 unfold Sh.conv at hc
 obtain ⟨a1, h1, hc⟩ := Option.bind_eq_some_iff.1 hc
 obtain ⟨a2, h2, hc⟩ := Option.bind_eq_some_iff.1 hc
 split at hc
 case isFalse => cases hc
 rename_i hok
 obtain ⟨y', hy, he⟩ := Option.map_eq_some_iff.1 hc
 cases he
 simp only [accOk, Bool.and_eq_true, List.all_eq_true] at hok
 obtain ⟨⟨⟨⟨hmt, hub⟩, hrbl⟩, hrbm⟩, hfbm⟩ := hok
 obtain ⟨x1, i1⟩ := convL_ext B T sh.vals xs _ a1 h1
 obtain ⟨x2, i2⟩ := convB_ext B T sh.boxes a1 acc h2
 have hinv : AccInv acc := i2 (i1 ⟨⟨by simp, fun i j x y m hi => by simp at hi⟩, fun j j' i h => by cases h⟩)
 obtain ⟨S1, hM1, hS1⟩ := hM.freezeToks acc.ft
 obtain ⟨S', hM', hS2⟩ := hM1.freezeBoxes acc.fb
 have hSS : ∀ b o, S b o → S' b o := fun b o h => hS2 b o (hS1 b o h)
 have hlive : (fun k => fzB box acc.fb k ≠ none) = fun k => box k ≠ none := by
  funext k; unfold fzB
  split
  ·rename_i b h; simp [h]
  ·rename_i h; simp [h]
 refine ⟨hinv, S', hSS, hM', ?_⟩
 obtain ⟨c, hcdef⟩ : ∃ c : Ctx, c = ⟨w, S', fun k => box k ≠ none, β, fzT tok acc.ft, τ⟩ := ⟨_, rfl⟩
 obtain ⟨s', hs'⟩ : ∃ s', s' = sh.mk' y := ⟨_, rfl⟩
 rw [← hs']
 obtain ⟨c', hc'def⟩ : ∃ c' : Ctx, c' = s'.ctx w S' (shβ acc β) (shτ acc τ) := ⟨_, rfl⟩
 have hv' : All2 (V3 c) xs vals := hv.imp fun x v hx => by
  rw [hcdef]
  exact V3.mono (c := ⟨w, S, fun k => box k ≠ none, β, tok, τ⟩) (c' := ⟨w, S', fun k => box k ≠ none, β, fzT tok acc.ft, τ⟩) ⟨hSS, fun _ _ _ => rfl⟩ (BoxLe.refl rfl rfl) (fzT_le tok acc.ft) hx
 have hmk : ∀ k k', lookR acc.rb k = some k' → mapName k = mapName k' := fun k k' h => by simpa using hrbm (k, k') (lookR_mem h)
 have hbv : ∀ k b, lookB B k = some b → BoxAt c k (c.β k) b.cs := fun k b hk => by
  have hb : fzB box acc.fb k = some { b with fz := b.fz || decide (k ∈ acc.fb) } := by unfold fzB; rw [hB k b hk]
  have g5 := (hM'.boxes k _ hb).2.2.2
  rw [hlive] at g5
  rw [hcdef]; exact g5
 have hnames : ∀ ps, (instB sh.boxes ps).1.map (·.1) = sh.boxes.map (·.1) := by
  intro ps
  generalize sh.boxes = l
  induction l generalizing ps with
  | nil => rfl
  | cons x l ih =>
   obtain ⟨k, fz, vs⟩ := x
   simp only [instB, List.map_cons, ih]
 have hsB : s'.B.map (·.1) = sh.boxes.map (·.1) := by
  rw [hs']; unfold Sh.mk'; exact hnames _
 have hK : Known B T acc R.fr c c' F := by
  refine ⟨by rw [hc'def, hcdef]; rfl, by rw [hc'def, hcdef]; rfl, fun n tk hn => ?_, fun n tk hn => ?_, fun k b o t z hb hk hz _ => ?_, fun n hn hf => ?_, fun k k' hk => ?_, fun n n' hn => ?_, hmk, fun k hk => by simpa using hfbm k hk⟩
  ·rw [hcdef]; show fzT tok acc.ft n = _; unfold fzT; rw [hT n _ hn]
  ·rw [hcdef] at hn ⊢; exact hM'.toks n tk hn
  ·have hbb : fzB box acc.fb k = some { b with fz := b.fz || decide (k ∈ acc.fb) } := by unfold fzB; rw [hB k b hb]
   obtain ⟨_, _, g3, gB⟩ := hM'.boxes k _ hbb
   obtain ⟨vs, Ty, g4, g5⟩ := gB.cells (by have := hfbm k hk; simpa using this)
   have g3 := g3 (by simp [hk])
   rw [hlive] at g5
   have h3 := mkRow_rep (c := c) t _ z _ hz (by rw [hcdef]; exact (g5.drop o).take t.w)
   intro j p hp
   have hj : j < t.w := by have := (List.getElem?_eq_some_iff.1 hp).1; rwa [enc_len] at this
   have hl := h3.len
   rw [enc_len] at hl
   obtain ⟨u, hu⟩ : ∃ u, ((vs.drop o).take t.w)[j]? = some u := ⟨_, List.getElem?_eq_getElem (by rw [hl]; exact hj)⟩
   have hr := h3.get' j u p hu hp
   rw [List.getElem?_take, if_pos hj, List.getElem?_drop] at hu
   have hlt : o + j < b.cs.length := by rw [g5.len]; exact (List.getElem?_eq_some_iff.1 hu).1
   rw [hcdef] at hr ⊢
   exact ⟨g3 _ hlt, u, by show w.cell? _ = _; rw [cell_box g4]; exact hu, hr⟩
  ·have := hmt n hn
   simp at this; exact this hf
  ·rw [hc'def, hcdef]
   refine ⟨?_, by show shβ acc β k = _; unfold shβ; rw [hk]; rfl⟩
   refine lookB_isSome ?_
   rw [hsB]
   have := hrbl (k, k') (lookR_mem hk)
   obtain ⟨b, hb1, hb2⟩ := List.any_eq_true.1 this
   exact List.mem_map.2 ⟨b, hb1, by simpa using hb2⟩
  ·rw [hc'def, hcdef]
   show shτ acc τ n = _
   unfold shτ
   rw [lookR_nodup hinv.rt.1 n n' hn]
   cases n' <;> rfl
 obtain ⟨s1, r1, ys, t1, p1, p2, p3, p4, p5⟩ := convL_ok hK V3 (fun x x' v h => h) (fun x x' v hi h => hi.2.2.2 h) sh.vals xs _ a1 vals h1 x2 hv'
 obtain ⟨s2, r2, bs, t2, q1, q2, q3, q4, q6, q5⟩ := convB_ok hK (by rw [hc'def, hcdef]; rfl) hbv sh.boxes a1 acc h2 (Ext.refl _)
 simp only [List.nil_append] at p1 p2
 have hps : unpack sh.codes y = s1 ++ s2 := by rw [pack_unpack _ _ _ hy, q1, p1]
 have hmk : s' = ⟨ys, bs, t1 ++ t2⟩ := by
  rw [hs']
  unfold Sh.mk'
  rw [hps, p3]
  have := q3 []
  rw [List.append_nil] at this
  simp only [this]
 have hrt : acc.rt = r1 ++ r2 := by rw [q2, p2]
 have hTR : All2 (TR c) acc.rt s'.T := by rw [hrt, hmk]; exact p4.append q4
 have hnd : (s'.T.map (·.1)).Nodup := by rw [tr_names hTR]; exact hinv.rt.1
 have htk : ∀ n z, (n, z) ∈ s'.T → c'.tok n = z := fun n z hz => by rw [hc'def]; exact lookT_nodup hnd n z hz
 have hQ5 := q5 fun n z hz => htk n z (by rw [hmk]; exact List.mem_append_right _ hz)
 have hbx : ∀ k b', lookB s'.B k = some b' → ∃ k' b, lookR acc.rb k = some k' ∧ lookB B k' = some b ∧ BoxAt c' k (c.β k') b'.cs ∧ (b'.fz = true → k' ∈ acc.fb) ∧ (b'.fz = false → b.fz = false ∧ k' ∈ acc.ub) ∧ b'.cs.length = b.cs.length := fun k b' hk => by
  rw [hmk] at hk; exact hQ5 k b' (lookB_mem hk)
 have hfzk : ∀ (k : Nat) (b' : BS) (k' : Nat) (b : BS), (b'.fz = true → k' ∈ acc.fb) → (b'.fz = false → b.fz = false ∧ k' ∈ acc.ub) → lookB B k' = some b → fzB box acc.fb k' = some { b with fz := b'.fz } := fun k b' k' b e1 e2 hb => by
  unfold fzB; rw [hB k' b hb]
  cases hz : b'.fz with
  | true => simp [e1 hz]
  | false =>
   obtain ⟨g1, g2⟩ := e2 hz
   have := hub k' g2
   simp at this
   simp [g1, this]
 have htr : ∀ (n : Nat) (tk : Tok), lookT s'.T n = some (.live tk) → ∃ (i : Nat) (x : Nat × Option Nat), acc.rt[i]? = some x ∧ x.1 = n ∧ match x.2 with
   | some m => ∃ tk0 : Tok, fzT tok acc.ft m = some (.live tk0) ∧ (⟨tk.t, tk.xs⟩ : (t : Tp) × List t.D) = ⟨tk0.t, tk0.xs⟩ ∧ tk.e = tk0.e ∧ tk.wr = tk0.wr ∧ (tk.deep = true → tk0.deep = true) ∧ tk.tr = tk0.tr ∧ (tk.tr ≠ none → tk.deep = true)
   | none => tk.xs = [] ∧ (tk.tr = none ∨ (tk.tr = some [] ∧ tk.wr = true ∧ tk.deep = true)) := fun n tk hn => by
  obtain ⟨i, hi, hi2⟩ := List.mem_iff_getElem.1 (lookT_mem hn)
  have hi' : i < acc.rt.length := by rw [hTR.len]; exact hi
  obtain ⟨e1, tk', e2, e3⟩ := hTR.get' i acc.rt[i] s'.T[i] (List.getElem?_eq_getElem hi') (List.getElem?_eq_getElem hi)
  rw [hi2] at e1 e2
  cases e2
  refine ⟨i, acc.rt[i], List.getElem?_eq_getElem hi', e1.symm, ?_⟩
  rw [hcdef] at e3
  cases hx2 : acc.rt[i].2 with
  | none => rw [hx2] at e3; exact e3
  | some m => rw [hx2] at e3; exact e3
 refine ⟨fun k b hk => ?_, fun n tk hn => ?_, fun n x hx => ?_, fun k k' hk => by have := (hK.live k k' hk).1; rw [hc'def] at this; exact this, fun Fr' hF1 hF2 => ?_, by rw [← hc'def]; rw [hmk]; exact p5 fun n z hz => htk n z (by rw [hmk]; exact List.mem_append_left _ hz)⟩
 ·obtain ⟨k', b0, e1, e2, e3, e5, e6, e7⟩ := hbx k b hk
  exact ⟨k', _, e1, hfzk k b k' b0 e5 e6 e2, rfl⟩
 ·obtain ⟨i, x, hx, rfl, hm⟩ := htr n tk hn
  refine ⟨x.2, List.mem_of_getElem? hx, ?_⟩
  revert hm
  cases x.2 with
  | none => exact fun _ => True.intro
  | some m => exact fun ⟨tk0, g1, _, _, g2, _⟩ => ⟨tk0, g1, g2.symm⟩
 ·obtain ⟨i, hi⟩ := List.mem_iff_getElem?.1 hx
  obtain ⟨⟨n2, z⟩, hz, e1, tk, e2, _⟩ := hTR.get i (n, x) hi
  simp only at e1 e2
  subst e1; subst e2
  exact ⟨tk, lookT_nodup hnd _ _ (List.mem_of_getElem? hz)⟩
 have hFn : ∀ (n : Nat) (tk : Tok), lookT s'.T n = some (.live tk) → (∃ (m : Nat) (tk0 : Tok), lookR acc.rt n = some (some m) ∧ shτ acc τ n = τ m ∧ shF acc F n = F m ∧ fzT tok acc.ft m = some (.live tk0) ∧ (⟨tk.t, tk.xs⟩ : (t : Tp) × List t.D) = ⟨tk0.t, tk0.xs⟩ ∧ tk.e = tk0.e ∧ tk.wr = tk0.wr ∧ (tk.deep = true → tk0.deep = true) ∧ tk.tr = tk0.tr ∧ (tk.tr ≠ none → tk.deep = true)) ∨ (shτ acc τ n = .slice none 0 0 ∧ (shF acc F n = fun _ => False) ∧ tk.xs = [] ∧ (tk.tr = none ∨ (tk.tr = some [] ∧ tk.wr = true ∧ tk.deep = true))) := fun n tk hn => by
  obtain ⟨i, x, hx, rfl, hm⟩ := htr n tk hn
  have hl := lookR_nodup hinv.rt.1 x.1 x.2 (List.mem_of_getElem? hx)
  cases hx2 : x.2 with
  | none =>
   rw [hx2] at hm hl
   exact .inr ⟨by unfold shτ; rw [hl], by unfold shF; rw [hl], hm⟩
  | some m =>
   rw [hx2] at hm hl
   obtain ⟨tk0, g⟩ := hm
   exact .inl ⟨m, tk0, hl, by unfold shτ; rw [hl], by unfold shF; rw [hl], g⟩
 refine ⟨fun k b hk => ?_, fun k k' b b' hk hk' e => ?_, fun n tk hn => ?_, fun t t' tk tk' b ht ht' hb hb' => ?_, fun t tk k b ht hk hF => ?_⟩
 ·obtain ⟨k', b0, e1, e2, e3, e5, e6, e7⟩ := hbx k b hk
  obtain ⟨g1, g2, g3, _⟩ := hM'.boxes k' _ (hfzk k b k' b0 e5 e6 e2)
  have hβ : shβ acc β k = β k' := by unfold shβ; rw [e1]; rfl
  refine ⟨hF1 k b hk, fun hz => by rw [hβ]; exact g2 hz, fun hz o ho => by rw [hβ]; exact g3 hz o (by rw [e7] at ho; exact ho), ?_⟩
  rw [hβ]
  rw [hc'def, hcdef] at e3
  exact e3
 ·obtain ⟨k1, b1, e1, e2, _, e5, e6, _⟩ := hbx k b hk
  obtain ⟨k2, b2, f1, f2, _, f5, f6, _⟩ := hbx k' b' hk'
  have h3 : shβ acc β k = β k1 := by unfold shβ; rw [e1]; rfl
  have h4 : shβ acc β k' = β k2 := by unfold shβ; rw [f1]; rfl
  rw [h3, h4] at e
  have := hM'.binj k1 k2 _ _ (hfzk k b k1 b1 e5 e6 e2) (hfzk k' b' k2 b2 f5 f6 f2) e
  subst this
  exact hinv.rb k k' k1 e1 f1
 ·rcases hFn n tk hn with ⟨m, tk0, hl, g1, g2, g3, g4, g5, g6, g7, g8, g9⟩ | ⟨g1, g2, g3, g4⟩
  ·have hk0 := hM'.toks m tk0 g3
   have hk1 := tokOk_cast hk0 g4.symm
   rw [← g5, ← g6, ← g8] at hk1
   rw [g1]
   refine ⟨fun b hb => ⟨hF2 n tk b hn hb, ?_⟩, ?_, ?_⟩
   ·rw [g2] at hb; exact (hk0.1 b hb).2
   ·rw [g2]; exact hk1.2.1
   ·rw [g2]
    have h3 := hk1.2.2
    unfold Once at h3 ⊢
    cases htr : tk.tr with
    | none => rw [htr] at h3; exact fun hd => h3 (g7 hd)
    | some hs =>
     rw [htr] at h3
     obtain ⟨k1, k2, k3, k4⟩ := h3
     exact ⟨k1, g9 (by rw [htr]; simp), k3, k4⟩
  ·refine ⟨fun b hb => by rw [g2] at hb; exact hb.elim, .inl ⟨g1, g3⟩, ?_⟩
   unfold Once
   rcases g4 with g4 | ⟨g4, g5, g6⟩
   ·rw [g4]; exact fun _ => by rw [g1, g3]; exact .nil _ _
   ·rw [g4]; exact ⟨g5, g6, fun b hb => by rw [g2] at hb; exact hb.elim, .inl g1⟩
 ·rcases hFn t tk ht with ⟨m, tk0, hl, g1, g2, g3, _⟩ | ⟨g1, g2, g3⟩
  ·rcases hFn t' tk' ht' with ⟨m', tk0', hl', g1', g2', g3', _⟩ | ⟨g1', g2', g3'⟩
   ·rw [g2] at hb; rw [g2'] at hb'
    have := hM'.tdis m m' tk0 tk0' b g3 g3' hb hb'
    subst this
    obtain ⟨i, hi⟩ := List.mem_iff_getElem?.1 (lookR_mem hl)
    obtain ⟨i', hi'⟩ := List.mem_iff_getElem?.1 (lookR_mem hl')
    have := hinv.rt.2 i i' _ _ m hi hi' rfl rfl
    subst this
    rw [hi] at hi'
    cases hi'; rfl
   ·rw [g2'] at hb'; exact hb'.elim
  ·rw [g2] at hb; exact hb.elim
 ·obtain ⟨k', b0, e1, e2, e3, e5, e6, e7⟩ := hbx k b hk
  have hβ : shβ acc β k = β k' := by unfold shβ; rw [e1]; rfl
  rw [hβ] at hF
  rcases hFn t tk ht with ⟨m, tk0, hl, g1, g2, g3, _⟩ | ⟨g1, g2, g3⟩
  ·rw [g2] at hF; exact hM'.tbox m tk0 k' _ g3 (hfzk k b k' b0 e5 e6 e2) hF
  ·rw [g2] at hF; exact hF
end Go.Proofs.YtcjbjmbialienaaGreatDoor
