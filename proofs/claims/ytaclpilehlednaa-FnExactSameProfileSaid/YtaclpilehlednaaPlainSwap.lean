/- How many swaps part two rankings: plain facts. -/
import Derived.Test.YtaclpilehlednaaPlainPerm
namespace Go.Proofs.Ytaclpilehlednaa
open Go.RowKit

/-- The number of swaps, or -1. -/
def swapP (xs ys : List Int) : Int := if rankOkP xs.length xs && rankOkP xs.length ys then swI (places ys xs) else -1
theorem less_nil (p : Int) : less p [] = 0 := rfl
theorem less_snoc (p q : Int) (r : List Int) : less p (r ++ [q]) = less p r + if q < p then 1 else 0 := by
  unfold less
  by_cases h : q < p <;> simp [h]
theorem more_snoc (p q : Int) (r : List Int) : more p (r ++ [q]) = more p r + if p < q then 1 else 0 := by
  unfold more
  by_cases h : p < q <;> simp [h]
theorem filter_le (r : List Int) (f : Int → Bool) : (r.filter f).length ≤ r.length := List.length_filter_le _ _
theorem take_snoc {xs : List Int} {k : Nat} (h : k < xs.length) : xs.take (k + 1) = xs.take k ++ [nth xs k] := by
  rw [List.take_succ_eq_append_getElem h, nth_get h]
/-- The sum over the first k, from the front. -/
def swF (ps : List Int) (k : Nat) : Int := ((List.range k).map fun i => less (nth ps i) (ps.drop (i + 1))).sum
theorem swF_succ (ps : List Int) (k : Nat) : swF ps (k + 1) = swF ps k + less (nth ps k) (ps.drop (k + 1)) := by
  simp [swF, List.range_succ]
theorem swS_succ (ps : List Int) (k : Nat) : swS ps (k + 1) = swS ps k + more (nth ps k) (ps.take k) := by
  simp [swS, List.range_succ]
theorem swI_drop : ∀ (ps : List Int) (k : Nat), k ≤ ps.length → swF ps k + swI (ps.drop k) = swI ps
  | ps, 0, _ => by simp [swF]
  | ps, k + 1, h => by
    rw [swF_succ, ← swI_drop ps k (by omega), drop_cons (by omega : k < ps.length)]
    simp only [swI]
    omega
theorem swF_all {ps : List Int} {n : Nat} (h : ps.length = n) : swF ps n = swI ps := by
  have := swI_drop ps n (by omega)
  rw [List.drop_eq_nil_of_le (by omega)] at this
  simpa [swI] using this
theorem less_bd (p : Int) (r : List Int) : 0 ≤ less p r ∧ less p r ≤ r.length := by
  have := filter_le r fun q => decide (q < p)
  unfold less; omega
theorem more_bd (p : Int) (r : List Int) : 0 ≤ more p r ∧ more p r ≤ r.length := by
  have := filter_le r fun q => decide (p < q)
  unfold more; omega
theorem swF_bd (ps : List Int) (k : Nat) (h : ps.length ≤ 5) : 0 ≤ swF ps k ∧ swF ps k ≤ 5 * k := by
  induction k with
  | zero => simp [swF]
  | succ k ih =>
    rw [swF_succ]
    have := less_bd (nth ps k) (ps.drop (k + 1))
    rw [List.length_drop] at this
    omega
theorem swS_bd (ps : List Int) (k : Nat) (h : ps.length ≤ 5) : 0 ≤ swS ps k ∧ swS ps k ≤ 5 * k := by
  induction k with
  | zero => simp [swS]
  | succ k ih =>
    rw [swS_succ]
    have := more_bd (nth ps k) (ps.take k)
    rw [List.length_take] at this
    omega
theorem swap_no1 {n : Nat} {xs ys : List Int} (h : xs.length = n) (h1 : rankOkP n xs = false) : swapP xs ys = -1 := by simp [swapP, h, h1]
theorem swap_no2 {n m : Nat} {xs ys : List Int} (h : xs.length = n) (h' : ys.length = m) (h1 : rankOkP m ys = false) : swapP xs ys = -1 := by
  have : rankOkP n ys = false := by
    cases h2 : rankOkP n ys with
    | false => rfl
    | true =>
      have h3 := (of_rank h2).2.1
      have e : n = m := by omega
      rw [e, h1] at h2
      cases h2
  simp [swapP, h, this]
theorem swap_no3 {n m : Nat} {xs ys : List Int} (h : xs.length = n) (h' : ys.length = m) (h1 : ((n : Int) != (m : Int)) = true) : swapP xs ys = -1 := by
  have : rankOkP n ys = false := by
    cases h2 : rankOkP n ys with
    | false => rfl
    | true =>
      have h3 := (of_rank h2).2.1
      simp at h1
      omega
  simp [swapP, h, this]
theorem swap_no4 {n : Nat} {xs ys : List Int} (h : xs.length = n) (h1 : rankOkP n ys = false) : swapP xs ys = -1 := by simp [swapP, h, h1]
theorem swap_yes {n : Nat} {xs ys : List Int} (h : xs.length = n) (h1 : rankOkP n xs = true) (h2 : rankOkP n ys = true) : swapP xs ys = swI (places ys xs) := by simp [swapP, h, h1, h2]
theorem swap_yes2 {n : Nat} {xs ys : List Int} (h : xs.length = n) (h1 : rankOkP n xs = true) (h2 : rankOkP n ys = true) : swapP xs ys = swS (places ys xs) n := by
  rw [swap_yes h h1 h2, swap_same (places_rank h2 h1), places_len, h]
/-- Whether y comes before x, where both have a place. -/
theorem pref_places {m : Nat} {xs ys : List Int} (h1 : rankOkP m xs = true) (h2 : rankOkP m ys = true) {i k : Nat} (hi : i < xs.length) (hk : k < xs.length) :
    prefP ys (nth xs i) (nth xs k) = decide (nth (places ys xs) i < nth (places ys xs) k) := by
  obtain ⟨a1, a2, a3, a4⟩ := of_rank h1
  have e : ∀ j, j < xs.length → 0 ≤ idxP ys (nth xs j) := fun j hj => (idx_bd ys (nth xs j)).2.2.2 (rank_full h2 (by have := a3 j hj; omega))
  simp [prefP, nth_places _ hi, nth_places _ hk, e i hi, e k hk]
theorem drop_take (ps : List Int) (a j : Nat) : (ps.drop a).take (j + 1) = if a + j < ps.length then (ps.drop a).take j ++ [nth ps (a + j)] else (ps.drop a).take j := by
  by_cases h : a + j < ps.length
  · rw [if_pos h, take_snoc (by rw [List.length_drop]; omega), nth_drop]
  · rw [if_neg h, List.take_of_length_le (by rw [List.length_drop]; omega), List.take_of_length_le (by rw [List.length_drop]; omega)]
end Go.Proofs.Ytaclpilehlednaa
