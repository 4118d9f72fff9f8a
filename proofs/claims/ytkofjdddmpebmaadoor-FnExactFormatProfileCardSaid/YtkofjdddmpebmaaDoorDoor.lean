/- What the listed variables of the library's give: the table of powers of ten; the two sentinels. -/
import Derived.Test.YtkofjdddmpebmaaDoorItoa
import Derived.Test.YtkofjdddmpebmaaDoorRows
import Derived.Stop.LaidErr
import Derived.Lib.LaidTab
namespace Go.Proofs.YtkofjdddmpebmaaDoor
open Go.RowKit
set_option maxRecDepth 100000

theorem gPow : Tryd.prog.globalNamed "internal/strconv.uint64pow10" = some 0 := by kernel_rfl
theorem gPowType : (Tryd.prog.globals[0]?).map (·.type) = some 82 := by kernel_rfl
theorem pow_of {W : World} {r : List (String × DataW Unit)} (h : laidMet Tryd.prog (("internal/strconv.uint64pow10", Lib.tabData .u64 Lib.pow10Tab) :: r) W) : Pow W :=
  Lib.tabIs_of_head gPow gPowType Tryd.underlying82 Tryd.underlying72 (by kernel_rfl) (by kernel_rfl) h
theorem tabData_pow : (Rows.laid_internal_strconv_uint64pow10 : DataW Unit) = Lib.tabData .u64 Lib.pow10Tab := by kernel_rfl
end Go.Proofs.YtkofjdddmpebmaaDoor
