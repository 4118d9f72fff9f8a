/- Whether a list is a ranking of its own length: what the program computes. -/
import Derived.Test.YtkofjdddmpebmaaGreatDoorRank2
import Derived.Test.YtkofjdddmpebmaaGreatDoorPlainPerm
namespace Go.Proofs.YtkofjdddmpebmaaGreatDoor
open Go.RowKit

set_option maxHeartbeats 400000 in
theorem implIsRanking (A : Option Addr) (n c : Nat) (xs : List Int) (w : World) (h : Ints w A n xs) (hn : (n : Int) ≤ 1048576) (hcap : (n : Int) ≤ c) :
    Calls Tryz.prog 37 #[.slice A n c] w fun e w' => e = .returned (.bool (rankOkP n xs)) ∧ w = w' := by
  go_enter Tryz.func37, Tryz.ntmps37
  go_wp2_with fail
  refine (implRankingOk _ _ _ _ xs _ h hn hcap).mono ?_; rintro e w1 ⟨rfl, rfl⟩
  go_wp2_with fail
  go_ret
  exact ⟨rfl, rfl⟩
end Go.Proofs.YtkofjdddmpebmaaGreatDoor
