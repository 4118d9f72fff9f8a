/- Slices of integers: what the laws' own helpers compute: a copy, equality, marks laid and marks found. -/
import Derived.Test.YtfcbnpjfpeiheaaDoorFrame
import Derived.Test.YtfcbnpjfpeiheaaDoorWords
import Derived.Deep.QuietTactic
import Derived.BigQuiet
namespace Go.Proofs.YtfcbnpjfpeiheaaDoor
open Go.RowKit

theorem ret_bool {a b : Bool} (h : a = b) : Ending.returned (.bool a) = .returned (.bool b) := by rw [h]
theorem ret_int {a b : Int} (h : a = b) : Ending.returned (.int .i64 a) = .returned (.int .i64 b) := by rw [h]
theorem infoInt : (Tryd.prog.info? 3).map (fun i => (i.zero, i.size, i.bytes)) = some (some (.int .i64 0), 1, 8) := by kernel_rfl
/-- A new slice of numbers. -/
def Own (w : World) (base : Nat) (A : Option Addr) (n c : Nat) (xs : List Int) : Prop := w.ownsRow base 3 1 (.slice A n c) n (iv xs)
/-- From a call's world on: what lies below stays below. -/
theorem Below.on {a w w' : World} (h : Below a.heap.size a w) (hb : Below w.heap.size w w') : Below a.heap.size a w' := h.trans (hb.mono h.size)

/-- The cells of a copy that is made up to k. -/
def copyF (xs : List Int) (k : Nat) (j : Nat) : Value := if j < k then .int .i64 (nth xs j) else .int .i64 0
theorem copyF_set (xs : List Int) (k j : Nat) : (if j = k then Value.int .i64 (nth xs k) else copyF xs k j) = copyF xs (k + 1) j := by
  unfold copyF
  by_cases h : j = k
  · subst h; simp
  · rw [if_neg h]
    by_cases h2 : j < k
    · rw [if_pos h2, if_pos (by omega)]
    · rw [if_neg h2, if_neg (by omega)]

end Go.Proofs.YtfcbnpjfpeiheaaDoor
