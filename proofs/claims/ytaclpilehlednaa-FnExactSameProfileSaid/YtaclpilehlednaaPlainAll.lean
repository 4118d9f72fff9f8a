/- All orders of a few candidates, listed in two ways. No program in sight. -/
import Derived.Test.YtaclpilehlednaaPlainPerm
namespace Go.Proofs.Ytaclpilehlednaa

/-- All orders of a list of k. -/
def ordP : Nat → List Int → List (List Int)
  | 0, _ => [[]]
  | k + 1, xs => (List.range xs.length).flatMap fun i => (ordP k (xs.take i ++ xs.drop (i + 1))).map fun r => nth xs i :: r
/-- All ways to go on with k more of 0 .. m-1. -/
def allP (m : Nat) : Nat → List Int → List (List Int)
  | 0, l => [l]
  | k + 1, l => (List.range m).flatMap fun (x : Nat) => if (x : Int) ∈ l then [] else allP m k (l ++ [(x : Int)])
def upTo (m : Nat) : List Int := (List.range m).map fun (x : Nat) => (x : Int)
theorem all_same : ∀ m, m < 6 → ordP m (upTo m) = allP m m [] := by decide +kernel
/-- All rankings of m candidates, in order. -/
def ranksP (m : Int) : List (List Int) := if 1 ≤ m ∧ m ≤ 5 then ordP m.toNat (upTo m.toNat) else []
theorem ranks_yes {n : Nat} (h : 1 ≤ (n : Int) ∧ (n : Int) ≤ 5) : ranksP n = ordP n (upTo n) := by rw [ranksP, if_pos h, Int.toNat_natCast]
theorem ranks_no {m : Int} (h : ¬ (1 ≤ m ∧ m ≤ 5)) : ranksP m = [] := if_neg h
theorem ranks_small : ∀ m, m < 6 → (ordP m (upTo m)).length ≤ 120 := by decide +kernel
theorem ranks_len (m : Int) : (ranksP m).length ≤ 120 := by
  unfold ranksP
  split
  · exact ranks_small _ (by omega)
  · simp
theorem ranks_each0 : ∀ m, m < 6 → (ordP m (upTo m)).all (fun r => r.length == m) = true := by decide +kernel
theorem ranks_rank0 : ∀ m, m < 6 → 0 < m → (ordP m (upTo m)).all (fun r => rankOkP m r) = true := by decide +kernel
end Go.Proofs.Ytaclpilehlednaa
