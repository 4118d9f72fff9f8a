/- Weights by place, as lists. No program in sight. -/
import Derived.Test.YtblofiimfhbkdabPlainRank
namespace Go.Proofs.Ytblofiimfhbkdab

/-! ### Weights -/
/-- How many weights there are. -/
def wn (m : Int) : Nat := if 1 ≤ m ∧ m ≤ 5 then m.toNat else 0
def plurP (_m : Int) (k : Nat) : List Int := (List.range k).map fun (p : Nat) => max 0 (1 - (p : Int))
def bordaP (m : Int) (k : Nat) : List Int := (List.range k).map fun (p : Nat) => m - 1 - (p : Int)
def vetoP (m : Int) (k : Nat) : List Int := (List.range k).map fun (p : Nat) => min 1 (m - 1 - (p : Int))
theorem plur_snoc (m : Int) (k : Nat) : plurP m (k + 1) = plurP m k ++ [max 0 (1 - (k : Int))] := by simp [plurP, List.range_succ]
theorem borda_snoc (m : Int) (k : Nat) : bordaP m (k + 1) = bordaP m k ++ [m - 1 - (k : Int)] := by simp [bordaP, List.range_succ]
theorem veto_snoc (m : Int) (k : Nat) : vetoP m (k + 1) = vetoP m k ++ [min 1 (m - 1 - (k : Int))] := by simp [vetoP, List.range_succ]
theorem plur_zero (m : Int) : plurP m 0 = [] := rfl
theorem borda_zero (m : Int) : bordaP m 0 = [] := rfl
theorem veto_zero (m : Int) : vetoP m 0 = [] := rfl
theorem wn_yes {m : Int} (h : 1 ≤ m ∧ m ≤ 5) : (wn m : Int) = m := by rw [wn, if_pos h]; omega
theorem wn_no {m : Int} (h : ¬ (1 ≤ m ∧ m ≤ 5)) : wn m = 0 := by rw [wn, if_neg h]
theorem wn_le (m : Int) : (wn m : Int) ≤ 5 := by unfold wn; split <;> omega
theorem plur_len (m : Int) (k : Nat) : (plurP m k).length = k := by simp [plurP]
theorem plur_at (m : Int) {k j : Nat} (h : j < k) : (iv (plurP m k))[j]? = some (.int .i64 (max 0 (1 - (j : Int)))) := by simp [iv, plurP, h]
theorem borda_len (m : Int) (k : Nat) : (bordaP m k).length = k := by simp [bordaP]
theorem borda_at (m : Int) {k j : Nat} (h : j < k) : (iv (bordaP m k))[j]? = some (.int .i64 (m - 1 - (j : Int))) := by simp [iv, bordaP, h]
theorem veto_len (m : Int) (k : Nat) : (vetoP m k).length = k := by simp [vetoP]
theorem veto_at (m : Int) {k j : Nat} (h : j < k) : (iv (vetoP m k))[j]? = some (.int .i64 (min 1 (m - 1 - (j : Int)))) := by simp [iv, vetoP, h]
end Go.Proofs.Ytblofiimfhbkdab
