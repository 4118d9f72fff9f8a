/- The indices of the greatest numbers: what the program's, the reference's and the library's functions compute. -/
import Derived.Test.YtaclpilehlednaaScores
namespace Go.Proofs.Ytaclpilehlednaa
open Go.RowKit
set_option maxRecDepth 100000

/-- The greatest of the first k + 1 numbers. -/
def mxP (xs : List Int) : Nat → Int
  | 0 => nth xs 0
  | k + 1 => max (mxP xs k) (nth xs (k + 1))
/-- Which of the first k numbers are M. -/
def atP (xs : List Int) (M : Int) (k : Nat) : List Int := ((List.range k).filter fun i => decide (nth xs i = M)).map fun (i : Nat) => (i : Int)
theorem atP_zero (xs : List Int) (M : Int) : atP xs M 0 = [] := rfl
theorem atP_yes {xs : List Int} {M : Int} {k : Nat} (h : nth xs k = M) : atP xs M (k + 1) = atP xs M k ++ [(k : Int)] := by
  simp [atP, List.range_succ, List.filter_append, h]
theorem atP_no {xs : List Int} {M : Int} {k : Nat} (h : nth xs k ≠ M) : atP xs M (k + 1) = atP xs M k := by
  simp [atP, List.range_succ, List.filter_append, h]
theorem atP_len (xs : List Int) (M : Int) (k : Nat) : (atP xs M k).length ≤ k := by
  unfold atP
  rw [List.length_map]
  exact Nat.le_trans (List.length_filter_le _ _) (by rw [List.length_range]; exact Nat.le_refl _)
theorem mxP_ge (xs : List Int) : ∀ k i, i ≤ k → nth xs i ≤ mxP xs k
  | 0, i, h => by obtain rfl : i = 0 := by omega
                  exact Int.le_refl _
  | k + 1, i, h => by
    rw [mxP]
    by_cases e : i = k + 1
    · subst e; omega
    · have := mxP_ge xs k i (by omega); omega
/-- None above: none of the first k is M where all are below M. -/
theorem atP_none {xs : List Int} {M : Int} {k : Nat} (h : ∀ i, i < k → nth xs i < M) : atP xs M k = [] := by
  unfold atP
  rw [List.map_eq_nil_iff, List.filter_eq_nil_iff]
  intro i hi
  have := h i (List.mem_range.1 hi)
  simp; omega
theorem atP_mem {xs : List Int} {M : Int} {k : Nat} {a : Int} (h : a ∈ atP xs M k) : ∃ i : Nat, a = (i : Int) ∧ i < k ∧ nth xs i = M := by
  unfold atP at h
  obtain ⟨i, hi, rfl⟩ := List.mem_map.1 h
  obtain ⟨h1, h2⟩ := List.mem_filter.1 hi
  exact ⟨i, rfl, List.mem_range.1 h1, by simpa using h2⟩
theorem mxP_at (xs : List Int) : ∀ k, atP xs (mxP xs k) (k + 1) ≠ []
  | 0 => by rw [atP_yes (by rfl)]; simp
  | k + 1 => by
    by_cases h : mxP xs k < nth xs (k + 1)
    · have e : mxP xs (k + 1) = nth xs (k + 1) := by rw [mxP]; omega
      rw [e, atP_yes rfl]; simp
    · have e : mxP xs (k + 1) = mxP xs k := by rw [mxP]; omega
      rw [e]
      intro h0
      have h1 := mxP_at xs k
      by_cases h2 : nth xs (k + 1) = mxP xs k
      · rw [atP_yes h2] at h0; simp at h0
      · rw [atP_no h2] at h0; exact h1 h0
/-- The first of them. -/
theorem best_head (xs : List Int) (k : Nat) : ∃ j : Nat, nth (atP xs (mxP xs k) (k + 1)) 0 = (j : Int) ∧ j < k + 1 ∧ nth xs j = mxP xs k ∧ 0 < (atP xs (mxP xs k) (k + 1)).length := by
  have h := mxP_at xs k
  have hl : 0 < (atP xs (mxP xs k) (k + 1)).length := List.length_pos_iff.2 h
  obtain ⟨j, h1, h2, h3⟩ := atP_mem (getD_mem hl)
  exact ⟨j, h1, h2, h3, hl⟩
/-- The greatest numbers' indices. -/
def bestL (xs : List Int) : List Int := atP xs (mxP xs (xs.length - 1)) xs.length
theorem best_gt {xs : List Int} {k : Nat} (h : mxP xs k < nth xs (k + 1)) : atP xs (mxP xs (k + 1)) (k + 1 + 1) = [((k + 1 : Nat) : Int)] := by
  have e : mxP xs (k + 1) = nth xs (k + 1) := by rw [mxP]; omega
  rw [e, atP_yes rfl, atP_none (fun i hi => by have := mxP_ge xs k i (by omega); omega)]
  rfl
theorem best_eq {xs : List Int} {k : Nat} (h : nth xs (k + 1) = mxP xs k) : atP xs (mxP xs (k + 1)) (k + 1 + 1) = atP xs (mxP xs k) (k + 1) ++ [((k + 1 : Nat) : Int)] := by
  have e : mxP xs (k + 1) = mxP xs k := by rw [mxP]; omega
  rw [e, atP_yes h]
theorem best_lt {xs : List Int} {k : Nat} (h : nth xs (k + 1) < mxP xs k) : atP xs (mxP xs (k + 1)) (k + 1 + 1) = atP xs (mxP xs k) (k + 1) := by
  have e : mxP xs (k + 1) = mxP xs k := by rw [mxP]; omega
  rw [e, atP_no (by omega)]

set_option maxHeartbeats 1000000 in
theorem libMax (A : Option Addr) (n c : Nat) (xs : List Int) (w : World) (h : Ints w A n xs) (hn : (n : Int) ≤ 1048576) (h0 : 0 < n) :
    Calls Try.prog 75 #[.slice A n c] w fun e w' => e = .returned (.int .i64 (mxP xs (n - 1))) ∧ w = w' := by
  obtain ⟨b, o, rfl, hbs, hx⟩ := h.at_ (k := 0) h0
  rw [Nat.add_zero] at hx
  have h1 : ¬ (n : Int) < 1 := by omega
  have h2 : (0 : Int) < n := by omega
  go_enter Try.func75, Try.ntmps75
  go_wp2
  go_loopw [3, 4] (fun u v wr => ∃ k : Nat, (k : Int) < n ∧ u = .int .i64 (mxP xs k) ∧ v = .int .i64 ((k : Int) + 1) ∧ w = wr) (fun _ v _ => n - (intOf v).toNat)
  case atStart => exact ⟨0, by omega, rfl, rfl, rfl⟩
  case round =>
    obtain ⟨k, hk, rfl, rfl, rfl⟩ := hrel
    by_cases hlt : (k : Int) + 1 < n
    · obtain ⟨b2, o2, e2, hbs2, hx2⟩ := h.at_ (k := k + 1) (by omega)
      injection e2 with e2
      injection e2 with e2 e3 _
      subst e2; subst e3
      have hx2 : w.cell? ⟨b, o + (k + 1), none⟩ = some (.int .i64 (nth xs (k + 1))) := hx2
      go_wp2
      go_roundw
      case rel => exact ⟨k + 1, by omega, by rw [mxP]; congr 1; rw [Int.max_def]; split <;> split <;> omega, by simp⟩
      case measure => simp [intOf]; omega
    · have e : n - 1 = k := by omega
      go_wp2
      go_ret
      exact ⟨rfl, rfl⟩

end Go.Proofs.Ytaclpilehlednaa
