/- What the listed errors of the library's give. -/
import Derived.Test.YtkofjdddmpebmaaGreatDoorDoor
import Derived.Test.YtkofjdddmpebmaaGreatDoorPIntI
import Derived.Stop.LaidErr
namespace Go.Proofs.YtkofjdddmpebmaaGreatDoor
open Go.RowKit
set_option maxRecDepth 100000

theorem gES : Tryz.prog.globalNamed "strconv.ErrSyntax" = some 1 := by kernel_rfl
theorem gESType : (Tryz.prog.globals[1]?).map (·.type) = some 58 := by kernel_rfl
theorem gER : Tryz.prog.globalNamed "strconv.ErrRange" = some 2 := by kernel_rfl
theorem gERType : (Tryz.prog.globals[2]?).map (·.type) = some 58 := by kernel_rfl
theorem cellsEst : Tryz.prog.cellsOf 110 = 1 := by kernel_rfl
theorem cellsStr : Tryz.prog.cellsOf 9 = 1 := by kernel_rfl
theorem starE : "*" ++ "errors.errorString" = "*errors.errorString" := by decide
theorem rowErr (u : TypeId) (h : Tryz.prog.typeName? 3 u = some "*errors.errorString") : u = 108 :=
  typeName_ptr_named (nm := "errors.errorString") (by rw [starE]; kernel_rfl) (by kernel_rfl) (by decide) u (by rw [starE]; exact h)
theorem errs_of {W : World} {r : List (String × DataW Unit)} (h : laidMet Tryz.prog (("strconv.ErrRange", Rows.laid_strconv_ErrRange) :: ("strconv.ErrSyntax", Rows.laid_strconv_ErrSyntax) :: r) W) : Errs W := by
  obtain ⟨a0, s0, hv0, -, -, -⟩ := laid_sentinel (text := [118, 97, 108, 117, 101, 32, 111, 117, 116, 32, 111, 102, 32, 114, 97, 110, 103, 101]) h gER gERType Tryz.underlying58 rowErr Tryz.underlying108 Tryz.underlying110 rfl rfl Tryz.underlying9 cellsEst cellsStr
  obtain ⟨a1, s1, hv1, -, -, -⟩ := laid_sentinel (text := [105, 110, 118, 97, 108, 105, 100, 32, 115, 121, 110, 116, 97, 120]) h.tail gES gESType Tryz.underlying58 rowErr Tryz.underlying108 Tryz.underlying110 rfl rfl Tryz.underlying9 cellsEst cellsStr
  exact ⟨⟨_, _, hv1⟩, ⟨_, _, hv0⟩⟩
end Go.Proofs.YtkofjdddmpebmaaGreatDoor
