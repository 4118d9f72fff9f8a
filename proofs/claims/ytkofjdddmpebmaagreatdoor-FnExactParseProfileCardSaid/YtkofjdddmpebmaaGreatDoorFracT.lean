/- The text of a fraction: plainly, and what the reference's function computes. -/
import Derived.Test.YtkofjdddmpebmaaGreatDoorFmtS
import Derived.Test.YtkofjdddmpebmaaGreatDoorFrac1
import Derived.Deep.RegionHeld3
import Derived.Deep.RegionHeldLaw
namespace Go.Proofs.YtkofjdddmpebmaaGreatDoor
open Go.RowKit
set_option maxRecDepth 100000

def fracT (t y : Int) : ByteArray := if fracOkP t y then (if y = 1 then strOfNums (fmtI t) else strOfNums (fmtI t) ++ (⟨#[47]⟩ : ByteArray) ++ strOfNums (fmtI y)) else ByteArray.empty
theorem fracT_no {t y : Int} (h : fracOkP t y = false) : fracT t y = ByteArray.empty := by simp [fracT, h]
theorem fracT_one {t y : Int} (h : fracOkP t y = true) (h1 : y = 1) : fracT t y = strOfNums (fmtI t) := by rw [fracT, if_pos h, if_pos h1]
theorem fracT_two {t y : Int} (h : fracOkP t y = true) (h1 : y ≠ 1) : fracT t y = strOfNums (fmtI t) ++ (⟨#[47]⟩ : ByteArray) ++ strOfNums (fmtI y) := by rw [fracT, if_pos h, if_neg h1]

end Go.Proofs.YtkofjdddmpebmaaGreatDoor
