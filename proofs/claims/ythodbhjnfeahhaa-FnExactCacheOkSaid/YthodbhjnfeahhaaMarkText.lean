/- The text that marks a place. -/
import Derived.Test.YthodbhjnfeahhaaBase
import Derived.Test.YthodbhjnfeahhaaRows
set_option linter.unusedSimpArgs false
set_option linter.unusedVariables false
namespace Go.Proofs.Ythodbhjnfeahhaa
open Go.RowKit
set_option maxHeartbeats 400000 in
theorem markText_any (k : Nat) (ki : Int) (hki : ki = (k : Int)) (hk : k ≤ 100000000) (w : World) :
    Calls Try.prog 59 #[.int .i64 ki] w fun e w' => e = .returned (.string (mText k)) ∧ Below w.heap.size w w' := by
  subst hki
  by_cases h0 : k = 0
  · subst h0
    go_enter Try.func59, Try.ntmps59
    go_wp2
    go_ret
    exact ⟨rfl, Below.refl _ _⟩
  · have h1 : 0 < k := by omega
    have hcv := fun (W : World) (n : Int) => run_convert_byte1 (P := Try.prog) W 29 9 5 5 n Try.underlying29 Try.underlying5 Try.underlying9
    have HM := Lib.hid (show mText k = ⟨#[109]⟩ ++ digs 20 k ⟨#[]⟩ from by rw [mText, if_neg h0])
    have H10 := Lib.hid (show k < 10 ^ 20 from by omega)
    go_enter Try.func59, Try.ntmps59
    go_wp2
    go_loopw [0, 3] (fun i s wr => ∃ (f k' : Nat) (t : ByteArray), k' ≤ 100000000 ∧ t.size + f ≤ 20 ∧ i = .int .i64 k' ∧ s = .string t ∧ Below w.heap.size w wr ∧ Hid (k' < 10 ^ f ∧ digs f k' t = digs 20 k ⟨#[]⟩)) (fun i _ _ => (intOf i).toNat)
    case atStart => exact ⟨20, k, _, hk, Nat.le_refl _, rfl, rfl, Below.refl _ _, H10.out, rfl⟩
    case round =>
      obtain ⟨f, k', t, hk', hts, rfl, rfl, hb, HD⟩ := hrel
      by_cases hp : 0 < k'
      · go_wp2
        go_roundw
        case rel =>
          obtain ⟨hf, hd⟩ := HD.out
          obtain ⟨g, rfl⟩ : ∃ g, f = g + 1 := by
            cases f with
            | zero => simp at hf; omega
            | succ g => exact ⟨g, rfl⟩
          refine ⟨g, k' / 10, _, by omega, by rw [ByteArray.size_append]; show 1 + t.size + g ≤ 20; omega, by go_num, rfl, hb.alloc hb.size _, ?_, ?_⟩
          · rw [Nat.pow_succ] at hf; omega
          · rw [← hd]; conv => rhs; unfold digs
            rw [if_neg (by omega)]
        case measure => simp [intOf]; omega
      · go_wp2
        go_ret
        obtain ⟨hf, hd⟩ := HD.out
        refine ⟨?_, hb⟩
        rw [HM.out, ← hd]
        have : k' = 0 := by omega
        subst this
        cases f with
        | zero => rfl
        | succ g => unfold digs; rw [if_pos rfl]; rfl
end Go.Proofs.Ythodbhjnfeahhaa
