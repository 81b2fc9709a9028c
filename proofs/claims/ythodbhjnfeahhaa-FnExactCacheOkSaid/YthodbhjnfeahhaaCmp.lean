/- Numbers compared as the library does. -/
import Derived.Test.YthodbhjnfeahhaaFamBase
set_option linter.unusedSimpArgs false
set_option linter.unusedVariables false
namespace Go.Proofs.Ythodbhjnfeahhaa
open Go.RowKit
/-- -1, 0 or 1. -/
def cmpI (a b : Int) : Int := if a < b then -1 else if b < a then 1 else 0
/-- The first that is not 0. -/
def orI (a b : Int) : Int := if a = 0 then b else a
set_option maxHeartbeats 400000 in
theorem isNaN_any (a : Int) (w : World) :
    Calls Try.prog 74 #[.int .i64 a] w fun e w' => e = .returned (.bool false) ∧ w = w' := by
  go_enter Try.func74, Try.ntmps74
  go_wp2
  go_ret
  exact ⟨rfl, rfl⟩
set_option maxHeartbeats 400000 in
theorem compare_any (a b : Int) (r : Int) (hr : r = cmpI a b) (w : World) :
    Calls Try.prog 71 #[.int .i64 a, .int .i64 b] w fun e w' => e = .returned (.int .i64 r) ∧ w = w' := by
  have HR := Lib.hid hr
  clear hr
  by_cases h1 : a < b
  · go_enter Try.func71, Try.ntmps71
    go_wp2_with (go_at_call 74; refine (isNaN_any _ _).mono ?_; rintro e w' ⟨rfl, rfl⟩)
    go_ret
    exact ⟨ret_int (by rw [HR.out, cmpI, if_pos h1]), rfl⟩
  · by_cases h2 : b < a
    · go_enter Try.func71, Try.ntmps71
      go_wp2_with (go_at_call 74; refine (isNaN_any _ _).mono ?_; rintro e w' ⟨rfl, rfl⟩)
      go_ret
      exact ⟨ret_int (by rw [HR.out, cmpI, if_neg (by omega), if_pos (by omega)]), rfl⟩
    · go_enter Try.func71, Try.ntmps71
      go_wp2_with (go_at_call 74; refine (isNaN_any _ _).mono ?_; rintro e w' ⟨rfl, rfl⟩)
      go_ret
      exact ⟨ret_int (by rw [HR.out, cmpI, if_neg (by omega), if_neg (by omega)]), rfl⟩
set_option maxHeartbeats 400000 in
theorem or2_any (a b : Int) (k c : Nat) (r : Int) (hr : r = orI a b) (w : World) (h0 : w.cell? ⟨k, 0, none⟩ = some (.int .i64 a)) (h1 : w.cell? ⟨k, 1, none⟩ = some (.int .i64 b)) :
    Calls Try.prog 70 #[.slice (some ⟨k, 0, none⟩) 2 c] w fun e w' => e = .returned (.int .i64 r) ∧ w = w' := by
  have HR := Lib.hid hr
  clear hr
  by_cases ha : a = 0
  · by_cases hb : b = 0
    · have da : (a != 0) = false := by simp [ha]
      have db : (b != 0) = false := by simp [hb]
      have H : Hid (r = 0) := by show r = 0; rw [HR.out, orI, if_pos ha, hb]
      clear ha hb
      go_enter Try.func70, Try.ntmps70
      go_wp2
      go_rounds 3
      all_goals (go_ret; exact ⟨ret_int H.out.symm, rfl⟩)
    · have da : (a != 0) = false := by simp [ha]
      have db : (b != 0) = true := by simp [hb]
      have H : Hid (r = b) := by show r = b; rw [HR.out, orI, if_pos ha]
      clear ha hb
      go_enter Try.func70, Try.ntmps70
      go_wp2
      go_rounds 3
      all_goals (go_ret; exact ⟨ret_int H.out.symm, rfl⟩)
  · have da : (a != 0) = true := by simp [ha]
    have H : Hid (r = a) := by show r = a; rw [HR.out, orI, if_neg ha]
    clear ha
    go_enter Try.func70, Try.ntmps70
    go_wp2
    go_rounds 3
    all_goals (go_ret; exact ⟨ret_int H.out.symm, rfl⟩)
end Go.Proofs.Ythodbhjnfeahhaa
