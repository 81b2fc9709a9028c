/- The engine, twenty-sixth part: a law of bytes, out of its model. -/
import Derived.Test.YtlhkdngkjodgiaaK25
import Derived.Test.YtlhkdngkjodgiaaFamBase
set_option linter.unusedSimpArgs false
set_option linter.unusedVariables false
namespace Go.Proofs.Ytlhkdngkjodgiaa
open Go.RowKit
theorem srep_rep {α : Type} {m : Nat} {C : CRep α} {enc : α → List PV} {w : World} {S : Stab} {v : Value} {xs : List α} {p : Blk} (hp : ∀ b o, p b → b < w.heap.size → S b o)
    (hC : ∀ (cs : List Value) (x : α), C w cs x p → (enc x).length = cs.length ∧ ∀ (j : Nat) (c : PV), (enc x)[j]? = some c → ∃ u : Value, cs[j]? = some u ∧ Rep w S u c) (h : SRep m C w v xs p) : Rep w S v (.sl (xs.map enc)) := by
  obtain ⟨a, cap, rfl, hl, hat⟩ := h
  have key : ∃ b o, (xs.map enc ≠ [] → a = some ⟨b, o, none⟩) ∧ (∀ (i : Nat) (row : List PV), (xs.map enc)[i]? = some row → row.length = m) ∧ ∀ (i : Nat) (row : List PV), (xs.map enc)[i]? = some row → CellsAt w S b (o + i * m) row := by
    cases xs with
    | nil => exact ⟨0, 0, fun h => absurd rfl h, fun i row h => by simp at h, fun i row h => by simp at h⟩
    | cons x0 xs0 =>
      obtain ⟨b, o, cs, ha, _⟩ := hat 0 x0 rfl
      refine ⟨b, o, fun _ => ha, fun i row hi => ?_, fun i row hi j c hj => ?_⟩
      · rw [List.getElem?_map] at hi
        cases hx : (x0 :: xs0)[i]? with
        | none => rw [hx] at hi; cases hi
        | some x =>
          rw [hx] at hi; cases hi
          obtain ⟨b', o', cs', ha', h1, h2, h3, h4, h5⟩ := hat i x hx
          rw [(hC cs' x h5).1, h3]
      · rw [List.getElem?_map] at hi
        cases hx : (x0 :: xs0)[i]? with
        | none => rw [hx] at hi; cases hi
        | some x =>
          rw [hx] at hi; cases hi
          obtain ⟨b', o', cs', ha', h1, h2, h3, h4, h5⟩ := hat i x hx
          rw [ha] at ha'; cases ha'
          obtain ⟨u, hu, hr⟩ := (hC cs' x h5).2 j c hj
          exact ⟨hp _ _ h1 h2, u, h4 j u hu, hr⟩
  obtain ⟨b, o, h1, h2, h3⟩ := key
  have := Rep.mk (w := w) (S := S) (a := a) (cap := cap) (rows := xs.map enc) (by rw [List.length_map]; exact hl.2) h1 h2 h3
  rwa [List.length_map] at this
def ByteC : CRep Int := fun _ cs x _ => cs = [.int .u8 x] ∧ 0 ≤ x ∧ x ≤ 255
theorem read_byte {H : Type} {ec : TypeId × Value → H} {P : Program} {w : World} {spare : Nat → Bool} {held : Bool} {fuel : Nat} {t : TypeId} {cs : List Value} {x : DataW H × List MemPlace} (ht : P.underlying t = some (.int .u8)) (h : DataW.trod ec P w 0 spare held fuel t cs = some x) : ∃ d : Int, ByteC w cs d (fun _ => True) := by
  obtain ⟨n, rfl, _, hw⟩ := DataW.trod_int ht h
  refine ⟨n, rfl, ?_⟩
  simp [Lit.wf, IntKind.min, IntKind.max, IntKind.signed, IntKind.bits] at hw
  omega
theorem srep_bytes {w : World} {S : Stab} {v : Value} {xs : List Int} {p : Blk} (hp : ∀ b o, p b → b < w.heap.size → S b o) (h : SRep 1 ByteC w v xs p) : Rep w S v (.sl (xs.map (enc (.int .u8)))) :=
  srep_rep hp (fun cs x hc => by
    obtain ⟨rfl, _⟩ := hc
    refine ⟨rfl, fun j c hj => ?_⟩
    match j, hj with
    | 0, hj => cases hj; exact ⟨_, rfl, .int _ _⟩) h
theorem srep_range {w : World} {v : Value} {xs : List Int} {p : Blk} (h : SRep 1 ByteC w v xs p) : ∀ x, x ∈ xs → 0 ≤ x ∧ x ≤ 255 := by
  obtain ⟨a, cap, _, _, hat⟩ := h
  intro x hx
  obtain ⟨i, hi, rfl⟩ := List.mem_iff_getElem.1 hx
  obtain ⟨_, _, _, _, _, _, _, _, hc⟩ := hat i xs[i] (List.getElem?_eq_getElem hi)
  exact hc.2
/-- A law of bytes. -/
theorem law_bytes {P : Program} {f : FuncId} {run : List Int → Option Bool} (hm : ModelOk P f ⟨⟨[.pv (.sl (.int .u8))], []⟩, ⟨[.pv .bool], []⟩, run⟩) (xs : List Int) (hrun : run xs = some true) (W : World) (v : Value) (h : SRep 1 ByteC W v xs (fun _ => True)) :
    Calls P f #[v] W fun e W' => e = .returned (.bool true) ∧ Below W.heap.size W W' := by
  have hr : Rep W (fun b _ => b < W.heap.size) v (.sl (xs.map (enc (.int .u8)))) := srep_bytes (fun b o _ hb => hb) h
  have hf := hm.run xs true hrun
  have hno : ∀ b, ¬ lent (⟨[.pv (.sl (.int .u8)) xs], [], []⟩ : LSt) (fun _ => 0) (fun _ _ => False) b := by
    rintro b (⟨k, x, hk, _⟩ | ⟨t, tk, ht, _⟩)
    · cases hk
    · cases ht
  refine Calls.mono (hf W (fun b _ => b < W.heap.size) (fun _ => 0) (fun _ => undef) (fun _ _ => False) [v] ⟨Upd.refl _ _, fun _ _ h => h, fun _ _ h => .inl h, fun _ _ _ => rfl, fun _ _ h => h, (fun _ _ h => by cases h), (fun _ _ _ _ h => by cases h), (fun _ _ h => by cases h), (fun _ _ _ _ _ h => by cases h), (fun _ _ _ _ h => by cases h), (fun _ _ h => by cases h), (fun _ _ _ h => by cases h), (fun _ _ _ _ _ _ h => by cases h)⟩ ⟨⟨_, rfl, hr⟩, True.intro⟩) ?_
  rintro e W' ⟨u, β', τ', F', S', rfl, hM, x, hx, hv⟩
  cases hx
  refine ⟨by rw [v3_bool hv], hM.upd.os, hM.upd.tape, hM.upd.output, hM.upd.size, fun k hk => hM.upd.block k hk (hno k)⟩
end Go.Proofs.Ytlhkdngkjodgiaa
