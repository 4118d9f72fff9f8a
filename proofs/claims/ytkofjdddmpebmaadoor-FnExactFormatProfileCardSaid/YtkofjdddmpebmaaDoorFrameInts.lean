/- How an argument that is a slice of integers is opened. -/
import Derived.Test.YtkofjdddmpebmaaDoorFrame
import Derived.Test.YtkofjdddmpebmaaDoorWords
import Derived.ChangeSlices
namespace Go.Proofs.YtkofjdddmpebmaaDoor
open Go.ChangeShapes Go.WideShapes Go.ChangeAt Go.RowKit Go.Joins

set_option maxRecDepth 100000
theorem cellsInt : Tryd.prog.cellsOf 3 = 1 := by kernel_rfl
theorem size_of_cell {w : World} {p : Addr} {v : Value} (h : w.cell? p = some v) : p.block < w.heap.size := by
  rcases Nat.lt_or_ge p.block w.heap.size with hlt | hge
  · exact hlt
  · simp [World.cell?, Array.getElem?_eq_none hge] at h
theorem ints_open {W : World} {a : Addr} {len : Nat} {zs : List Int} (hl : len ≤ zs.length) (hcell : ∀ i, i < zs.length → W.cell? (a.add i) = some (.int .i64 (zs.getD i 0))) : Ints W (some a) len (zs.take len) := by
  refine ⟨by rw [List.length_take]; omega, fun hn => ?_⟩
  obtain ⟨b, o, rfl, hc⟩ := ints_at hcell (by omega)
  refine ⟨b, o, rfl, size_of_cell (hc 0 (by omega)), fun j hj => ?_⟩
  rw [hc j (by omega)]
  simp [nth, List.getD, hj]
theorem open_ints_arg {H : Type} {enc : TypeId × Value → H} {W : World} {r : Reach} {base0 base : Nat} {spare : Nat → Bool} {held : Bool} {v : Value} {d : DataW H} {p : List MemPlace}
    (hv : Value.okWide Tryd.prog W r base0 36 v) (h : DataW.Trod enc Tryd.prog W base spare held 36 v d p) :
    ∃ (A : Option Addr) (n c : Nat) (xs : List Int), v = .slice A n c ∧ (Ints W A n xs ∧ n ≤ c ∧ c ≤ maxLen ∧ I64 xs) := by
  obtain ⟨a0, len, cap, rfl⟩ := okWide_slice Tryd.underlying36 hv
  obtain ⟨m, hm⟩ := h
  rcases open_ints Tryd.underlying36 Tryd.underlying3 cellsInt hm with ⟨hcs, hx⟩ | ⟨a, len', cap', zs, hcs, _, hl, hmm, hz, hx, hcell, hwz⟩
  · simp [Value.cells] at hcs
    obtain ⟨rfl, rfl, rfl⟩ := hcs
    exact ⟨none, 0, 0, [], rfl, Ints.nil_, Nat.le_refl _, Nat.zero_le _, I64.nil_⟩
  · simp [Value.cells] at hcs
    obtain ⟨rfl, rfl, rfl⟩ := hcs
    have hle : len ≤ zs.length := by rw [hz]; split <;> omega
    exact ⟨some a, len, cap, zs.take len, rfl, ints_open hle hcell, hl, hmm, I64.of_mem fun x hx => bd_i64 (hwz x (List.mem_of_mem_take hx))⟩
end Go.Proofs.YtkofjdddmpebmaaDoor
