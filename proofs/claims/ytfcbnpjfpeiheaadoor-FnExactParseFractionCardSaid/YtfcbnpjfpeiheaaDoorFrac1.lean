/- Fractions: the greatest common divisor, validity, reduction and the four operations: what the program's and the reference's functions compute. -/
import Derived.Test.YtfcbnpjfpeiheaaDoorText1
import Derived.Below
import Derived.Deep.QuietTactic
import Derived.BigQuiet
namespace Go.Proofs.YtfcbnpjfpeiheaaDoor
open Go.RowKit

/-- Behind a call that leaves all that was there: old cells and marks read as before. -/
theorem bcell {W w1 : World} (hb : Below W.heap.size W w1) : (∀ b o, b < W.heap.size → w1.cell? ⟨b, o, none⟩ = W.cell? ⟨b, o, none⟩) ∧ (∀ b o, b < W.heap.size → w1.frozen? ⟨b, o, none⟩ = W.frozen? ⟨b, o, none⟩) :=
  ⟨fun b o h => hb.cell (p := ⟨b, o, none⟩) h, fun b o h => hb.frozen (p := ⟨b, o, none⟩) h⟩

/-! ### The greatest common divisor -/
theorem gcd_step (a b : Int) : Int.gcd b (a.tmod b) = Int.gcd a b := by
  unfold Int.gcd
  rw [Int.natAbs_tmod, Nat.gcd_comm b.natAbs, ← Nat.gcd_rec, Nat.gcd_comm]
theorem gcd_step_pos (a b : Int) (h : 0 ≤ a) : Int.gcd b (a % b) = Int.gcd a b := by
  rw [← Int.tmod_eq_emod_of_nonneg h]; exact gcd_step a b
theorem tmod_bd (x y : Int) (hy : y ≠ 0) : (x.tmod y).natAbs < y.natAbs := by
  rw [Int.natAbs_tmod]; exact Nat.mod_lt _ (by omega)
theorem gcd_zero (x : Int) : (Int.gcd x 0 : Int) = max x (-x) := by
  rw [Int.gcd_zero_right]; omega

set_option maxHeartbeats 1000000 in
theorem implGcd (a b : Int) (w : World) (ha : -4000000000000000000 ≤ a ∧ a ≤ 4000000000000000000) (hb : -4000000000000000000 ≤ b ∧ b ≤ 4000000000000000000) :
    Calls Tryd.prog 59 #[.int .i64 a, .int .i64 b] w fun e w' => e = .returned (.int .i64 (Int.gcd a b)) ∧ Below w.heap.size w w' := by
  go_enter Tryd.func59, Tryd.ntmps59
  go_wp2
  go_loopw [0, 1] (fun u v wr => ∃ x y : Int, u = .int .i64 x ∧ v = .int .i64 y ∧ -4000000000000000000 ≤ x ∧ x ≤ 4000000000000000000 ∧ -4000000000000000000 ≤ y ∧ y ≤ 4000000000000000000 ∧ Int.gcd x y = Int.gcd a b ∧ Below w.heap.size w wr) (fun _ v _ => (intOf v).natAbs)
  case atStart => exact ⟨a, b, rfl, rfl, ha.1, ha.2, hb.1, hb.2, rfl, Below.refl _ _⟩
  case round =>
    obtain ⟨x, y, rfl, rfl, hx1, hx2, hy1, hy2, hg, hbel⟩ := hrel
    have HG := Lib.hid hg; clear hg
    by_cases hy : y = 0
    · subst hy
      go_wp2
      all_goals
        go_ret
        exact ⟨ret_int (by rw [← HG.out, gcd_zero]; omega), hbel⟩
    · have hne : (y != 0) = true := by simpa using hy
      have hlt := tmod_bd x y hy
      go_wp2
      go_quiet (fail)
      go_wp2
      go_roundw
      case rel =>
        exact ⟨y, x.tmod y, rfl, rfl, hy1, hy2, by omega, by omega, by rw [gcd_step]; exact HG.out, below_drewN hbel _⟩
      case measure => exact hlt

set_option maxHeartbeats 1000000 in
theorem specGcd (a b : Int) (w : World) (ha : 0 ≤ a ∧ a ≤ 4000000000000000000) (hb : 0 ≤ b ∧ b ≤ 4000000000000000000) :
    Calls Tryd.prog 57 #[.int .i64 a, .int .i64 b] w fun e w' => e = .returned (.int .i64 (Int.gcd a b)) ∧ w = w' := by
  go_enter Tryd.func57, Tryd.ntmps57
  go_wp2
  go_loop [0, 1] (fun u v => ∃ x y : Int, u = .int .i64 x ∧ v = .int .i64 y ∧ 0 ≤ x ∧ x ≤ 4000000000000000000 ∧ 0 ≤ y ∧ y ≤ 4000000000000000000 ∧ Int.gcd x y = Int.gcd a b) (fun _ v => (intOf v).toNat)
  case atStart => exact ⟨a, b, rfl, rfl, ha.1, ha.2, hb.1, hb.2, rfl⟩
  case round =>
    obtain ⟨x, y, rfl, rfl, hx1, hx2, hy1, hy2, hg⟩ := hrel
    have HG := Lib.hid hg; clear hg
    by_cases hy : 0 < y
    · have hm1 := Int.emod_nonneg x (show y ≠ 0 by omega)
      have hm2 := Int.emod_lt_of_pos x hy
      go_wp2
      go_round
      case rel => exact ⟨y, x % y, rfl, rfl, by omega, by omega, by omega, by omega, by rw [gcd_step_pos _ _ hx1]; exact HG.out⟩
      case measure => simp [intOf]; omega
    · obtain rfl : y = 0 := by omega
      go_wp2
      go_ret
      exact ⟨ret_int (by rw [← HG.out, gcd_zero]; omega), rfl⟩

theorem specGcdOf (x a b : Int) (w : World) (hx : a = x ∨ a = -x) (ha : 0 ≤ a ∧ a ≤ 4000000000000000000) (hb : 0 ≤ b ∧ b ≤ 4000000000000000000) :
    Calls Tryd.prog 57 #[.int .i64 a, .int .i64 b] w fun e w' => e = .returned (.int .i64 (Int.gcd x b)) ∧ w = w' := by
  have h : Int.gcd x b = Int.gcd a b := by
    rcases hx with h | h
    · rw [h]
    · rw [h, Int.neg_gcd]
  rw [h]
  exact specGcd a b w ha hb

/-! ### Validity -/
def fracOkP (x y : Int) : Bool := inB x (-1000000000) 1000000000 && inB y 1 1000000000 && decide (Int.gcd x y = 1)
theorem fracOk_no1 {x y : Int} (h : inB x (-1000000000) 1000000000 = false) : fracOkP x y = false := by simp [fracOkP, h]
theorem fracOk_no2 {x y : Int} (h : inB y 1 1000000000 = false) : fracOkP x y = false := by simp [fracOkP, h]
theorem fracOk_yes {x y : Int} (h : inB x (-1000000000) 1000000000 = true) (h' : inB y 1 1000000000 = true) : fracOkP x y = ((Int.gcd x y : Int) == 1) := by
  simp only [fracOkP, h, h', Bool.true_and]
  by_cases hg : Int.gcd x y = 1
  · simp [hg]
  · have h1 : ¬ (Int.gcd x y : Int) = 1 := by omega
    simp [hg, h1]
theorem of_fracOk {x y : Int} (h : fracOkP x y = true) : (-1000000000 ≤ x ∧ x ≤ 1000000000) ∧ (1 ≤ y ∧ y ≤ 1000000000) ∧ Int.gcd x y = 1 := by
  simp only [fracOkP, Bool.and_eq_true, decide_eq_true_eq] at h
  exact ⟨of_inB h.1.1, of_inB h.1.2, h.2⟩

set_option maxHeartbeats 1000000 in
theorem implFractionOk (x y : Int) (w : World) :
    Calls Tryd.prog 44 #[.agg #[.int .i64 x, .int .i64 y]] w fun e w' => e = .returned (.bool (fracOkP x y)) ∧ Below w.heap.size w w' := by
  cases h1 : inB x (-1000000000) 1000000000 with
  | false =>
    have HF := Lib.hid (fracOk_no1 (y := y) h1)
    go_enter Tryd.func44, Tryd.ntmps44
    go_wp2_with (go_at_call 58; refine (implWithin _ _ _ _).mono ?_; rintro e w' ⟨rfl, rfl⟩)
    go_ret
    exact ⟨ret_bool HF.out.symm, (Below.refl _ _).alloc (Nat.le_refl _) _⟩
  | true =>
    cases h2 : inB y 1 1000000000 with
    | false =>
      have HF := Lib.hid (fracOk_no2 (x := x) h2)
      go_enter Tryd.func44, Tryd.ntmps44
      go_wp2_with (go_at_call 58; refine (implWithin _ _ _ _).mono ?_; rintro e w' ⟨rfl, rfl⟩)
      go_ret
      exact ⟨ret_bool HF.out.symm, (Below.refl _ _).alloc (Nat.le_refl _) _⟩
    | true =>
      have HF := Lib.hid (fracOk_yes h1 h2)
      have b1 := of_inB h1
      have b2 := of_inB h2
      go_enter Tryd.func44, Tryd.ntmps44
      go_wp2_with (first | (go_at_call 58; refine (implWithin _ _ _ _).mono ?_; rintro e w' ⟨rfl, rfl⟩) | (go_at_call 59; refine (implGcd _ _ _ (by omega) (by omega)).mono ?_; rintro e w' ⟨rfl, hbel⟩))
      go_ret
      exact ⟨ret_bool HF.out.symm, ((Below.refl _ _).alloc (Nat.le_refl _) _).trans (hbel.mono (by simp))⟩

set_option maxHeartbeats 1000000 in
theorem specFractionOk (x y : Int) (w : World) :
    Calls Tryd.prog 43 #[.agg #[.int .i64 x, .int .i64 y]] w fun e w' => e = .returned (.bool (fracOkP x y)) ∧ Below w.heap.size w w' := by
  cases h1 : inB x (-1000000000) 1000000000 with
  | false =>
    have HF := Lib.hid (fracOk_no1 (y := y) h1)
    go_enter Tryd.func43, Tryd.ntmps43
    go_wp2_with (go_at_call 56; refine (specIn _ _ _ _).mono ?_; rintro e w' ⟨rfl, rfl⟩)
    go_ret
    exact ⟨ret_bool HF.out.symm, (Below.refl _ _).alloc (Nat.le_refl _) _⟩
  | true =>
    cases h2 : inB y 1 1000000000 with
    | false =>
      have HF := Lib.hid (fracOk_no2 (x := x) h2)
      go_enter Tryd.func43, Tryd.ntmps43
      go_wp2_with (go_at_call 56; refine (specIn _ _ _ _).mono ?_; rintro e w' ⟨rfl, rfl⟩)
      go_ret
      exact ⟨ret_bool HF.out.symm, (Below.refl _ _).alloc (Nat.le_refl _) _⟩
    | true =>
      have HF := Lib.hid (fracOk_yes h1 h2)
      have b1 := of_inB h1
      have b2 := of_inB h2
      go_enter Tryd.func43, Tryd.ntmps43
      go_wp2_with (first | (go_at_call 56; refine (specIn _ _ _ _).mono ?_; rintro e w' ⟨rfl, rfl⟩) | (go_at_call 57; refine (specGcdOf x _ _ _ (by first | exact .inl rfl | exact .inr rfl) (by omega) (by omega)).mono ?_; rintro e w' ⟨rfl, rfl⟩))
      all_goals
        go_ret
        exact ⟨ret_bool HF.out.symm, (Below.refl _ _).alloc (Nat.le_refl _) _⟩

/-! ### Fractions between the law's type and the program's; equality -/
set_option maxHeartbeats 400000 in
theorem toFraction (x y : Int) (w : World) :
    Calls Tryd.prog 22 #[.agg #[.int .i64 x, .int .i64 y]] w fun e w' => e = .returned (.agg #[.int .i64 x, .int .i64 y]) ∧ Below w.heap.size w w' := by
  go_enter Tryd.func22, Tryd.ntmps22
  go_wp2
  exact bodyPost_ret (v := .agg #[.int .i64 x, .int .i64 y]) (by simp [results, Tryd.results22, go_sem]) rfl ⟨rfl, ((((Below.refl _ _).alloc (Nat.le_refl _) _).alloc (by simp) _).alloc (by simp; omega) _)⟩

set_option maxHeartbeats 400000 in
theorem eqFraction (x y : Int) (w : World) :
    Calls Tryd.prog 11 #[.agg #[.int .i64 x, .int .i64 y], .agg #[.int .i64 x, .int .i64 y]] w fun e w' => e = .returned (.bool true) ∧ Below w.heap.size w w' := by
  have h1 : (x != x) = false := by simp
  have h2 : (y != y) = false := by simp
  go_enter Tryd.func11, Tryd.ntmps11
  go_wp2
  go_ret
  exact ⟨rfl, ((Below.refl _ _).alloc (Nat.le_refl _) _).alloc (by simp) _⟩

/-! ### FloorOf -/
def floorP (x y : Int) : Int := if fracOkP x y then x / y else 0
theorem floor_no {x y : Int} (h : fracOkP x y = false) : floorP x y = 0 := by simp [floorP, h]
theorem floor_pos {x y : Int} (h : fracOkP x y = true) (_hx : 0 ≤ x) : floorP x y = x / y ∧ ¬ x % y < 0 := by
  have hy := (of_fracOk h).2.1.1
  have hm := Int.emod_nonneg x (show y ≠ 0 by omega)
  exact ⟨by simp [floorP, h], by omega⟩
theorem tq_eq (x y : Int) : x.tdiv y * y + x.tmod y = x := by
  have := Int.tdiv_mul_add_tmod x y
  exact this
theorem floor_neg {x y : Int} (h : fracOkP x y = true) (_hx : x < 0) : (x.tmod y = 0 ∧ floorP x y = x.tdiv y) ∨ (x.tmod y < 0 ∧ floorP x y = x.tdiv y - 1) := by
  have hy := (of_fracOk h).2.1.1
  have e1 := Int.tdiv_eq_ediv (a := x) (b := y)
  have e2 := tq_eq x y
  have e3 := Int.emod_add_mul_ediv x y
  have hm := Int.emod_nonneg x (show y ≠ 0 by omega)
  have hs : y.sign = 1 := Int.sign_eq_one_of_pos (by omega)
  by_cases hd : y ∣ x
  · left
    have h0 : x % y = 0 := Int.emod_eq_zero_of_dvd hd
    rw [if_pos (.inr hd), Int.add_zero] at e1
    refine ⟨?_, by simp [floorP, h, e1]⟩
    rw [e1, Int.mul_comm] at e2
    omega
  · right
    have h0 : ¬ x % y = 0 := fun h0 => hd (Int.dvd_of_emod_eq_zero h0)
    have hlt := Int.emod_lt_of_pos x (show 0 < y by omega)
    rw [if_neg (by rintro (h' | h') <;> first | omega | exact hd h'), hs] at e1
    refine ⟨?_, by simp [floorP, h, e1]⟩
    rw [e1, Int.add_mul, Int.mul_comm (x / y) y, Int.one_mul] at e2
    omega
theorem tdiv_bd {x y : Int} (hx : -1000000000 ≤ x ∧ x < 0) (hy : 1 ≤ y) : -1000000000 ≤ x.tdiv y ∧ x.tdiv y ≤ 0 := by
  have h : (x.tdiv y).natAbs = x.natAbs / y.natAbs := Int.natAbs_tdiv x y
  have h1 : x.natAbs / y.natAbs ≤ x.natAbs := Nat.div_le_self _ _
  have h2 : x.tdiv y ≤ 0 := by
    have := Int.tdiv_nonneg (a := -x) (b := y) (by omega) (by omega)
    rw [Int.neg_tdiv] at this
    omega
  exact ⟨by omega, h2⟩

end Go.Proofs.YtfcbnpjfpeiheaaDoor
