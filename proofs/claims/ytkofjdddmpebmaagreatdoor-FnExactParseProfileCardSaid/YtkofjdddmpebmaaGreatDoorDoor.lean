/- What the listed variables of the library's give: the table of powers of ten; the two sentinels. -/
import Derived.Test.YtkofjdddmpebmaaGreatDoorItoa
import Derived.Test.YtkofjdddmpebmaaGreatDoorRows
import Derived.Stop.LaidErr
import Derived.Lib.LaidTab
namespace Go.Proofs.YtkofjdddmpebmaaGreatDoor
open Go.RowKit
set_option maxRecDepth 100000

theorem gPow : Tryz.prog.globalNamed "internal/strconv.uint64pow10" = some 5 := by kernel_rfl
theorem gPowType : (Tryz.prog.globals[5]?).map (·.type) = some 117 := by kernel_rfl
theorem pow_of {W : World} {r : List (String × DataW Unit)} (h : laidMet Tryz.prog (("internal/strconv.uint64pow10", Lib.tabData .u64 Lib.pow10Tab) :: r) W) : Pow W :=
  Lib.tabIs_of_head gPow gPowType Tryz.underlying117 Tryz.underlying86 (by kernel_rfl) (by kernel_rfl) h
theorem tabData_pow : (Rows.laid_internal_strconv_uint64pow10 : DataW Unit) = Lib.tabData .u64 Lib.pow10Tab := by kernel_rfl
end Go.Proofs.YtkofjdddmpebmaaGreatDoor
