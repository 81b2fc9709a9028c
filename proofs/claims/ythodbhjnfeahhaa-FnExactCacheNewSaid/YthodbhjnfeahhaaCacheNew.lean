/- A new cache. -/
import Derived.Test.YthodbhjnfeahhaaWithin
import Derived.Test.YthodbhjnfeahhaaFamCache
set_option linter.unusedSimpArgs false
set_option linter.unusedVariables false
namespace Go.Proofs.Ythodbhjnfeahhaa
open Go.RowKit
def cacheNew (most : Int) : DCache := if 1 ≤ most ∧ most ≤ 5 then (most, 0, []) else (0, 0, [])
theorem cacheNew_cnt (most : Int) : cntL cntDItem (cacheNew most).2.2 ≤ 50000000 := by unfold cacheNew; split <;> simp [cntL]
set_option maxHeartbeats 400000 in
theorem implCacheNew_any (most : Int) (w : World) (r : DCache) (hr : r = cacheNew most) :
    Calls Try.prog 11 #[.int .i64 most] w (RetO CacheO r w) := by
  subst hr
  by_cases h : 1 ≤ most ∧ most ≤ 5
  · have HM := Lib.hid (show cacheNew most = (most, 0, []) from if_pos h)
    go_enter Try.func11, Try.ntmps11
    go_wp2_with (go_at_call 36; refine (within_any _ _ _ true (by simp; omega) _).mono ?_; rintro e w' ⟨rfl, rfl⟩)
    go_returns
    exact ⟨_, rfl, by rw [HM.out]; exact ⟨_, rfl, SOwn.nil _ _ _ _⟩, by go_grown⟩
  · have HM := Lib.hid (show cacheNew most = (0, 0, []) from if_neg h)
    go_enter Try.func11, Try.ntmps11
    go_wp2_with (go_at_call 36; refine (within_any _ _ _ false (by simp; omega) _).mono ?_; rintro e w' ⟨rfl, rfl⟩)
    go_returns
    exact ⟨_, rfl, by rw [HM.out]; exact ⟨_, rfl, SOwn.nil _ _ _ _⟩, by go_grown⟩
set_option maxHeartbeats 400000 in
theorem specCacheNew_any (most : Int) (w : World) (r : DCache) (hr : r = cacheNew most) :
    Calls Try.prog 10 #[.int .i64 most] w (RetO CacheO r w) := by
  subst hr
  by_cases h : 1 ≤ most ∧ most ≤ 5
  · have HM := Lib.hid (show cacheNew most = (most, 0, []) from if_pos h)
    go_enter Try.func10, Try.ntmps10
    go_wp2_with (go_at_call 35; refine (l1In_any _ _ _ true (by simp; omega) _).mono ?_; rintro e w' ⟨rfl, rfl⟩)
    go_returns
    exact ⟨_, rfl, by rw [HM.out]; exact ⟨_, rfl, SOwn.nil _ _ _ _⟩, by go_grown⟩
  · have HM := Lib.hid (show cacheNew most = (0, 0, []) from if_neg h)
    go_enter Try.func10, Try.ntmps10
    go_wp2_with (go_at_call 35; refine (l1In_any _ _ _ false (by simp; omega) _).mono ?_; rintro e w' ⟨rfl, rfl⟩)
    go_returns
    exact ⟨_, rfl, by rw [HM.out]; exact ⟨_, rfl, SOwn.nil _ _ _ _⟩, by go_grown⟩
end Go.Proofs.Ythodbhjnfeahhaa
