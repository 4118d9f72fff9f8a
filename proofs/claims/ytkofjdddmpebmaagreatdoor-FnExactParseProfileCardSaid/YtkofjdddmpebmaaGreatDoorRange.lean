/- Whether a number lies in a range: the program's and the reference's word for it. -/
import Derived.Test.YtkofjdddmpebmaaGreatDoorInts
namespace Go.Proofs.YtkofjdddmpebmaaGreatDoor
open Go.RowKit

/-! ### In a range -/
def inB (n lo hi : Int) : Bool := decide (lo ≤ n ∧ n ≤ hi)
theorem inB_true {n lo hi : Int} (h : lo ≤ n ∧ n ≤ hi) : inB n lo hi = true := by unfold inB; simpa using h
theorem inB_false {n lo hi : Int} (h : ¬ (lo ≤ n ∧ n ≤ hi)) : inB n lo hi = false := by unfold inB; exact decide_eq_false h
theorem of_inB {n lo hi : Int} (h : inB n lo hi = true) : lo ≤ n ∧ n ≤ hi := by unfold inB at h; simpa using h
theorem of_not_inB {n lo hi : Int} (h : inB n lo hi = false) : ¬ (lo ≤ n ∧ n ≤ hi) := by unfold inB at h; exact of_decide_eq_false h

set_option maxHeartbeats 400000 in
theorem specIn (n lo hi : Int) (w : World) :
    Calls Tryz.prog 26 #[.int .i64 n, .int .i64 lo, .int .i64 hi] w fun e w' => e = .returned (.bool (inB n lo hi)) ∧ w = w' := by
  by_cases h1 : lo ≤ n
  · by_cases h2 : n ≤ hi
    · go_enter Tryz.func26, Tryz.ntmps26
      go_wp2
      go_ret
      exact ⟨ret_bool (inB_true ⟨h1, h2⟩).symm, rfl⟩
    · go_enter Tryz.func26, Tryz.ntmps26
      go_wp2
      go_ret
      exact ⟨ret_bool (inB_false (by omega)).symm, rfl⟩
  · go_enter Tryz.func26, Tryz.ntmps26
    go_wp2
    go_ret
    exact ⟨ret_bool (inB_false (by omega)).symm, rfl⟩

set_option maxHeartbeats 400000 in
theorem implWithin (n lo hi : Int) (w : World) :
    Calls Tryz.prog 46 #[.int .i64 n, .int .i64 lo, .int .i64 hi] w fun e w' => e = .returned (.bool (inB n lo hi)) ∧ w = w' := by
  by_cases h1 : lo ≤ n
  · by_cases h2 : n ≤ hi
    · go_enter Tryz.func46, Tryz.ntmps46
      go_wp2
      go_ret
      exact ⟨ret_bool (inB_true ⟨h1, h2⟩).symm, rfl⟩
    · go_enter Tryz.func46, Tryz.ntmps46
      go_wp2
      go_ret
      exact ⟨ret_bool (inB_false (by omega)).symm, rfl⟩
  · go_enter Tryz.func46, Tryz.ntmps46
    go_wp2
    go_ret
    exact ⟨ret_bool (inB_false (by omega)).symm, rfl⟩

end Go.Proofs.YtkofjdddmpebmaaGreatDoor
