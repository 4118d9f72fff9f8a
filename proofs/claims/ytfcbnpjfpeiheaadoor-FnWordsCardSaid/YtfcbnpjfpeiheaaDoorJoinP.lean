/- Texts joined: the plain function, and what the reference's function computes. -/
import Derived.Test.YtfcbnpjfpeiheaaDoorStrs
namespace Go.Proofs.YtfcbnpjfpeiheaaDoor
open Go.RowKit
set_option maxRecDepth 100000

theorem ret_stringJ {a b : ByteArray} (h : a = b) : Ending.returned (.string a) = .returned (.string b) := by rw [h]
/-- How many bytes the first k hold. -/
def sumSz (ss : List ByteArray) (k : Nat) : Nat := ((List.range k).map fun j => (snth ss j).size).sum
theorem sumSz_succ (ss : List ByteArray) (k : Nat) : sumSz ss (k + 1) = sumSz ss k + (snth ss k).size := by simp [sumSz, List.range_succ]
theorem sumSz_mono (ss : List ByteArray) {k n : Nat} (h : k ≤ n) : sumSz ss k ≤ sumSz ss n := by
  induction n with
  | zero =>
    obtain rfl : k = 0 := by omega
    exact Nat.le_refl _
  | succ n ih =>
    by_cases e : k = n + 1
    · subst e; exact Nat.le_refl _
    · rw [sumSz_succ]; have := ih (by omega); omega
/-- The first k, joined. -/
def jK (ss : List ByteArray) (sep : ByteArray) : Nat → ByteArray
  | 0 => ByteArray.empty
  | k + 1 => (if k = 0 then jK ss sep k else jK ss sep k ++ sep) ++ snth ss k
theorem jK_size (ss : List ByteArray) (sep : ByteArray) (k : Nat) : (jK ss sep k).size ≤ sumSz ss k + k * sep.size := by
  induction k with
  | zero => simp [jK, sumSz]
  | succ k ih =>
    rw [jK, ByteArray.size_append, sumSz_succ, Nat.add_mul, Nat.one_mul]
    split
    · omega
    · rw [ByteArray.size_append]; omega
theorem jK_bd {ss : List ByteArray} {sep : ByteArray} {k n : Nat} (hk : k ≤ n) (hn : n ≤ 1048576) (hs : sumSz ss n ≤ 1048576) (hp : sep.size ≤ 1048576) : (jK ss sep k).size ≤ 1099512676352 := by
  have h1 := jK_size ss sep k
  have h2 := sumSz_mono ss hk
  have h3 : k * sep.size ≤ 1048576 * 1048576 := Nat.mul_le_mul (by omega) hp
  omega
theorem jK_first {ss : List ByteArray} {sep : ByteArray} : jK ss sep 1 = snth ss 0 := by simp [jK]
theorem jK_next {ss : List ByteArray} {sep : ByteArray} {k : Nat} (h : k ≠ 0) : jK ss sep (k + 1) = (jK ss sep k ++ sep) ++ snth ss k := by rw [jK, if_neg h]

end Go.Proofs.YtfcbnpjfpeiheaaDoor
