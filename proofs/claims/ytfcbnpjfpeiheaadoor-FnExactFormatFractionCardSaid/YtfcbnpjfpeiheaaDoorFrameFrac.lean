/- How an argument that is a fraction by value is opened. -/
import Derived.Test.YtfcbnpjfpeiheaaDoorFrame
namespace Go.Proofs.YtfcbnpjfpeiheaaDoor
set_option maxRecDepth 100000
open Go.ChangeShapes Go.WideShapes Go.ChangeAt Go.RowKit Go.Joins

theorem cellsFrac : Tryd.prog.cellsOf 40 = 2 := by kernel_rfl
theorem open_frac_arg {H : Type} {enc : TypeId × Value → H} {W : World} {r : Reach} {base0 base : Nat} {spare : Nat → Bool} {held : Bool} {v : Value} {d : DataW H} {p : List MemPlace}
    (hv : Value.okWide Tryd.prog W r base0 40 v) (h : DataW.Trod enc Tryd.prog W base spare held 40 v d p) :
    ∃ x y : Int, v = .agg #[.int .i64 x, .int .i64 y] ∧ (-9223372036854775808 ≤ x ∧ x ≤ 9223372036854775807) ∧ (-9223372036854775808 ≤ y ∧ y ≤ 9223372036854775807) := by
  obtain ⟨c0, c1, y0, y1, m, rfl, _, _, hy0, hy1⟩ := open_agg2 Tryd.underlying40 (by kernel_rfl) cellsFrac hv h
  obtain ⟨a, e0, _, wa⟩ := DataW.trod_int Tryd.underlying3 hy0
  obtain ⟨b, e1, _, wb⟩ := DataW.trod_int Tryd.underlying3 hy1
  simp at e0 e1
  subst e0 e1
  exact ⟨a, b, rfl, bd_i64 wa, bd_i64 wb⟩
end Go.Proofs.YtfcbnpjfpeiheaaDoor
