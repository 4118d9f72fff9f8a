/- Fractions: the greatest common divisor, validity, reduction and the four operations: what the program's and the reference's functions compute. -/
import Derived.Test.YtkofjdddmpebmaaGreatDoorText1
import Derived.Below
import Derived.Deep.QuietTactic
import Derived.BigQuiet
namespace Go.Proofs.YtkofjdddmpebmaaGreatDoor
open Go.RowKit

/-- Behind a call that leaves all that was there: old cells and marks read as before. -/
theorem bcell {W w1 : World} (hb : Below W.heap.size W w1) : (∀ b o, b < W.heap.size → w1.cell? ⟨b, o, none⟩ = W.cell? ⟨b, o, none⟩) ∧ (∀ b o, b < W.heap.size → w1.frozen? ⟨b, o, none⟩ = W.frozen? ⟨b, o, none⟩) :=
  ⟨fun b o h => hb.cell (p := ⟨b, o, none⟩) h, fun b o h => hb.frozen (p := ⟨b, o, none⟩) h⟩

/-! ### The greatest common divisor -/
theorem gcd_step (a b : Int) : Int.gcd b (a.tmod b) = Int.gcd a b := by
  unfold Int.gcd
  rw [Int.natAbs_tmod, Nat.gcd_comm b.natAbs, ← Nat.gcd_rec, Nat.gcd_comm]
theorem gcd_step_pos (a b : Int) (h : 0 ≤ a) : Int.gcd b (a % b) = Int.gcd a b := by
  rw [← Int.tmod_eq_emod_of_nonneg h]; exact gcd_step a b
theorem tmod_bd (x y : Int) (hy : y ≠ 0) : (x.tmod y).natAbs < y.natAbs := by
  rw [Int.natAbs_tmod]; exact Nat.mod_lt _ (by omega)
theorem gcd_zero (x : Int) : (Int.gcd x 0 : Int) = max x (-x) := by
  rw [Int.gcd_zero_right]; omega

/-! ### Validity -/
def fracOkP (x y : Int) : Bool := inB x (-1000000000) 1000000000 && inB y 1 1000000000 && decide (Int.gcd x y = 1)
theorem fracOk_no1 {x y : Int} (h : inB x (-1000000000) 1000000000 = false) : fracOkP x y = false := by simp [fracOkP, h]
theorem fracOk_no2 {x y : Int} (h : inB y 1 1000000000 = false) : fracOkP x y = false := by simp [fracOkP, h]
theorem fracOk_yes {x y : Int} (h : inB x (-1000000000) 1000000000 = true) (h' : inB y 1 1000000000 = true) : fracOkP x y = ((Int.gcd x y : Int) == 1) := by
  simp only [fracOkP, h, h', Bool.true_and]
  by_cases hg : Int.gcd x y = 1
  · simp [hg]
  · have h1 : ¬ (Int.gcd x y : Int) = 1 := by omega
    simp [hg, h1]
theorem of_fracOk {x y : Int} (h : fracOkP x y = true) : (-1000000000 ≤ x ∧ x ≤ 1000000000) ∧ (1 ≤ y ∧ y ≤ 1000000000) ∧ Int.gcd x y = 1 := by
  simp only [fracOkP, Bool.and_eq_true, decide_eq_true_eq] at h
  exact ⟨of_inB h.1.1, of_inB h.1.2, h.2⟩

/-! ### Fractions between the law's type and the program's; equality -/
/-! ### FloorOf -/
def floorP (x y : Int) : Int := if fracOkP x y then x / y else 0
theorem floor_no {x y : Int} (h : fracOkP x y = false) : floorP x y = 0 := by simp [floorP, h]
theorem floor_pos {x y : Int} (h : fracOkP x y = true) (_hx : 0 ≤ x) : floorP x y = x / y ∧ ¬ x % y < 0 := by
  have hy := (of_fracOk h).2.1.1
  have hm := Int.emod_nonneg x (show y ≠ 0 by omega)
  exact ⟨by simp [floorP, h], by omega⟩
theorem tq_eq (x y : Int) : x.tdiv y * y + x.tmod y = x := by
  have := Int.tdiv_mul_add_tmod x y
  exact this
theorem floor_neg {x y : Int} (h : fracOkP x y = true) (_hx : x < 0) : (x.tmod y = 0 ∧ floorP x y = x.tdiv y) ∨ (x.tmod y < 0 ∧ floorP x y = x.tdiv y - 1) := by
  have hy := (of_fracOk h).2.1.1
  have e1 := Int.tdiv_eq_ediv (a := x) (b := y)
  have e2 := tq_eq x y
  have e3 := Int.emod_add_mul_ediv x y
  have hm := Int.emod_nonneg x (show y ≠ 0 by omega)
  have hs : y.sign = 1 := Int.sign_eq_one_of_pos (by omega)
  by_cases hd : y ∣ x
  · left
    have h0 : x % y = 0 := Int.emod_eq_zero_of_dvd hd
    rw [if_pos (.inr hd), Int.add_zero] at e1
    refine ⟨?_, by simp [floorP, h, e1]⟩
    rw [e1, Int.mul_comm] at e2
    omega
  · right
    have h0 : ¬ x % y = 0 := fun h0 => hd (Int.dvd_of_emod_eq_zero h0)
    have hlt := Int.emod_lt_of_pos x (show 0 < y by omega)
    rw [if_neg (by rintro (h' | h') <;> first | omega | exact hd h'), hs] at e1
    refine ⟨?_, by simp [floorP, h, e1]⟩
    rw [e1, Int.add_mul, Int.mul_comm (x / y) y, Int.one_mul] at e2
    omega
theorem tdiv_bd {x y : Int} (hx : -1000000000 ≤ x ∧ x < 0) (hy : 1 ≤ y) : -1000000000 ≤ x.tdiv y ∧ x.tdiv y ≤ 0 := by
  have h : (x.tdiv y).natAbs = x.natAbs / y.natAbs := Int.natAbs_tdiv x y
  have h1 : x.natAbs / y.natAbs ≤ x.natAbs := Nat.div_le_self _ _
  have h2 : x.tdiv y ≤ 0 := by
    have := Int.tdiv_nonneg (a := -x) (b := y) (by omega) (by omega)
    rw [Int.neg_tdiv] at this
    omega
  exact ⟨by omega, h2⟩

end Go.Proofs.YtkofjdddmpebmaaGreatDoor
