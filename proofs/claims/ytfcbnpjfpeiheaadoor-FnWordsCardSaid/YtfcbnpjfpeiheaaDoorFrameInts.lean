/- How an argument that is a slice of integers is opened. -/
import Derived.Test.YtfcbnpjfpeiheaaDoorFrame
import Derived.Test.YtfcbnpjfpeiheaaDoorWords
import Derived.ChangeSlices
namespace Go.Proofs.YtfcbnpjfpeiheaaDoor
open Go.ChangeShapes Go.WideShapes Go.ChangeAt Go.RowKit Go.Joins

set_option maxRecDepth 100000
theorem cellsInt : Tryd.prog.cellsOf 3 = 1 := by kernel_rfl
theorem size_of_cell {w : World} {p : Addr} {v : Value} (h : w.cell? p = some v) : p.block < w.heap.size := by
  rcases Nat.lt_or_ge p.block w.heap.size with hlt | hge
  · exact hlt
  · simp [World.cell?, Array.getElem?_eq_none hge] at h
theorem ints_open {W : World} {a : Addr} {len : Nat} {zs : List Int} (hl : len ≤ zs.length) (hcell : ∀ i, i < zs.length → W.cell? (a.add i) = some (.int .i64 (zs.getD i 0))) : Ints W (some a) len (zs.take len) := by
  refine ⟨by rw [List.length_take]; omega, fun hn => ?_⟩
  obtain ⟨b, o, rfl, hc⟩ := ints_at hcell (by omega)
  refine ⟨b, o, rfl, size_of_cell (hc 0 (by omega)), fun j hj => ?_⟩
  rw [hc j (by omega)]
  simp [nth, List.getD, hj]
end Go.Proofs.YtfcbnpjfpeiheaaDoor
