/- Fractions: reduction of a quotient, as the program and the reference compute it. -/
import Derived.Test.YtadacfammhianaaFrac1
import Derived.RegionTactic
import Derived.ChangeAlike
namespace Go.Proofs.Ytadacfammhianaa
open Go.RowKit

def rt (t b : Int) : Int := if b < 0 then -(t.tdiv (Int.gcd t b)) else t.tdiv (Int.gcd t b)
def rb (t b : Int) : Int := if b < 0 then -(b.tdiv (Int.gcd t b)) else b.tdiv (Int.gcd t b)
def rok (t b : Int) : Bool := fracOkP (rt t b) (rb t b)
def resT (t b : Int) : Int := if rok t b then rt t b else 0
def resB (t b : Int) : Int := if rok t b then rb t b else 0
def resV (t b : Int) : Value := .tuple #[.agg #[.int .i64 (resT t b), .int .i64 (resB t b)], .bool (rok t b)]
def zeroV : Value := .tuple #[.agg #[.int .i64 0, .int .i64 0], .bool false]

theorem resV_yes {t b : Int} (h : rok t b = true) : resV t b = .tuple #[.agg #[.int .i64 (rt t b), .int .i64 (rb t b)], .bool true] := by
  simp only [resV, resT, resB, h, if_true]
theorem resV_no {t b : Int} (h : rok t b = false) : resV t b = zeroV := by
  simp [resV, resT, resB, h, zeroV]
theorem gcd_bd (t b : Int) (hb : b ≠ 0) : 1 ≤ (Int.gcd t b : Int) ∧ (Int.gcd t b : Int) ≤ b.natAbs := by
  have h1 : 0 < Int.gcd t b := Int.gcd_pos_of_ne_zero_right t hb
  have h2 : Int.gcd t b ≤ b.natAbs := Nat.le_of_dvd (by omega) (Nat.gcd_dvd_right t.natAbs b.natAbs)
  omega
theorem tdiv_abs (t g : Int) : (t.tdiv g).natAbs ≤ t.natAbs := by
  have h : (t.tdiv g).natAbs = t.natAbs / g.natAbs := Int.natAbs_tdiv t g
  rw [h]; exact Nat.div_le_self _ _
theorem tdiv_in (t g : Int) (ht : -4000000000000000000 ≤ t ∧ t ≤ 4000000000000000000) : -4000000000000000000 ≤ t.tdiv g ∧ t.tdiv g ≤ 4000000000000000000 := by
  have := tdiv_abs t g
  omega
theorem ret_val {a b : Value} (h : a = b) : Ending.returned a = .returned b := by rw [h]

set_option maxHeartbeats 2000000 in
theorem implReduced (t b : Int) (w : World) (ht : -4000000000000000000 ≤ t ∧ t ≤ 4000000000000000000) (hb : -4000000000000000000 ≤ b ∧ b ≤ 4000000000000000000) (h0 : b ≠ 0) :
    Calls Try.prog 47 #[.int .i64 t, .int .i64 b] w fun e w' => e = .returned (resV t b) ∧ Below w.heap.size w w' := by
  obtain ⟨hg1, hg2⟩ := gcd_bd t b h0
  have q1 := tdiv_in t (Int.gcd t b) ht
  have q2 := tdiv_in b (Int.gcd t b) hb
  by_cases hs : b < 0
  · cases hok : fracOkP (-(t.tdiv (Int.gcd t b))) (-(b.tdiv (Int.gcd t b)))
    · have e1 : rt t b = -(t.tdiv (Int.gcd t b)) := by simp [rt, hs]
      have e2 : rb t b = -(b.tdiv (Int.gcd t b)) := by simp [rb, hs]
      have HF := Lib.hid (show resV t b = .tuple #[.agg #[.int .i64 0, .int .i64 0], .bool false] from resV_no (by rw [rok, e1, e2]; exact hok))
      clear e1 e2
      go_enter Try.func47, Try.ntmps47
      go_wp2_with fail
      refine (implGcd _ _ _ (by omega) (by omega)).mono ?_; rintro e w1 ⟨rfl, b1⟩; obtain ⟨hc1, hz1⟩ := bcell b1
      have s1 : w.heap.size < w1.heap.size := by have := b1.size; simp at this; omega
      go_wp2_with fail
      go_region
      go_wp2_with fail
      refine (implFractionOk _ _ _).mono ?_; rintro e w2 ⟨rfl, b2⟩; obtain ⟨hc2, hz2⟩ := bcell b2
      have s2 : w1.heap.size < w2.heap.size := by have := b2.size; simp at this; omega
      have b12 : Below (w.alloc (.cells #[.int .i64 0, .int .i64 0] 35)).heap.size (w.alloc (.cells #[.int .i64 0, .int .i64 0] 35)) w2 := b1.trans ((((Below.refl _ _).alloc b1.size _).drew).trans (b2.mono (by have := b1.size; simp at this ⊢; omega)))
      have c0 : w2.cell? ⟨w.heap.size, 0, none⟩ = some (.int .i64 0) := (b12.cell (p := ⟨w.heap.size, 0, none⟩) (by simp)).trans (by simp)
      have c1 : w2.cell? ⟨w.heap.size, 1, none⟩ = some (.int .i64 0) := (b12.cell (p := ⟨w.heap.size, 1, none⟩) (by simp)).trans (by simp)
      have f0 : w2.frozen? ⟨w.heap.size, 0, none⟩ = false := (b12.frozen (p := ⟨w.heap.size, 0, none⟩) (by simp)).trans (by simp)
      have f1 : w2.frozen? ⟨w.heap.size, 1, none⟩ = false := (b12.frozen (p := ⟨w.heap.size, 1, none⟩) (by simp)).trans (by simp)
      have d0 : w2.cell? ⟨w1.heap.size, 0, none⟩ = some (.int .i64 (-(t.tdiv (Int.gcd t b)))) := (b2.cell (p := ⟨w1.heap.size, 0, none⟩) (by simp)).trans (by simp [go_sem])
      have d1 : w2.cell? ⟨w1.heap.size, 1, none⟩ = some (.int .i64 (-(b.tdiv (Int.gcd t b)))) := (b2.cell (p := ⟨w1.heap.size, 1, none⟩) (by simp)).trans (by simp [go_sem])
      clear hc1 hz1 hc2 hz2
      go_wp2_with fail
      refine bodyPost_ret (v := .tuple #[.agg #[.int .i64 0, .int .i64 0], .bool false]) (by simp [results, Try.results47, go_sem, c0, c1]) rfl ⟨ret_val HF.out.symm, ?_⟩
      exact ((((Below.refl _ _).alloc (Nat.le_refl _) _).trans (b12.mono (by simp))).setCell (by simp) _).setCell (by simp) _
    · have e1 : rt t b = -(t.tdiv (Int.gcd t b)) := by simp [rt, hs]
      have e2 : rb t b = -(b.tdiv (Int.gcd t b)) := by simp [rb, hs]
      have HF := Lib.hid (show resV t b = .tuple #[.agg #[.int .i64 (-(t.tdiv (Int.gcd t b))), .int .i64 (-(b.tdiv (Int.gcd t b)))], .bool true] by rw [resV_yes (by rw [rok, e1, e2]; exact hok), e1, e2])
      clear e1 e2
      go_enter Try.func47, Try.ntmps47
      go_wp2_with fail
      refine (implGcd _ _ _ (by omega) (by omega)).mono ?_; rintro e w1 ⟨rfl, b1⟩; obtain ⟨hc1, hz1⟩ := bcell b1
      have s1 : w.heap.size < w1.heap.size := by have := b1.size; simp at this; omega
      go_wp2_with fail
      go_region
      go_wp2_with fail
      refine (implFractionOk _ _ _).mono ?_; rintro e w2 ⟨rfl, b2⟩; obtain ⟨hc2, hz2⟩ := bcell b2
      have s2 : w1.heap.size < w2.heap.size := by have := b2.size; simp at this; omega
      have b12 : Below (w.alloc (.cells #[.int .i64 0, .int .i64 0] 35)).heap.size (w.alloc (.cells #[.int .i64 0, .int .i64 0] 35)) w2 := b1.trans ((((Below.refl _ _).alloc b1.size _).drew).trans (b2.mono (by have := b1.size; simp at this ⊢; omega)))
      have c0 : w2.cell? ⟨w.heap.size, 0, none⟩ = some (.int .i64 0) := (b12.cell (p := ⟨w.heap.size, 0, none⟩) (by simp)).trans (by simp)
      have c1 : w2.cell? ⟨w.heap.size, 1, none⟩ = some (.int .i64 0) := (b12.cell (p := ⟨w.heap.size, 1, none⟩) (by simp)).trans (by simp)
      have f0 : w2.frozen? ⟨w.heap.size, 0, none⟩ = false := (b12.frozen (p := ⟨w.heap.size, 0, none⟩) (by simp)).trans (by simp)
      have f1 : w2.frozen? ⟨w.heap.size, 1, none⟩ = false := (b12.frozen (p := ⟨w.heap.size, 1, none⟩) (by simp)).trans (by simp)
      have d0 : w2.cell? ⟨w1.heap.size, 0, none⟩ = some (.int .i64 (-(t.tdiv (Int.gcd t b)))) := (b2.cell (p := ⟨w1.heap.size, 0, none⟩) (by simp)).trans (by simp [go_sem])
      have d1 : w2.cell? ⟨w1.heap.size, 1, none⟩ = some (.int .i64 (-(b.tdiv (Int.gcd t b)))) := (b2.cell (p := ⟨w1.heap.size, 1, none⟩) (by simp)).trans (by simp [go_sem])
      clear hc1 hz1 hc2 hz2
      go_wp2_with fail
      refine bodyPost_ret (v := .tuple #[.agg #[.int .i64 (-(t.tdiv (Int.gcd t b))), .int .i64 (-(b.tdiv (Int.gcd t b)))], .bool true]) (by simp [results, Try.results47, go_sem, c0, c1]) rfl ⟨ret_val HF.out.symm, ?_⟩
      exact ((((Below.refl _ _).alloc (Nat.le_refl _) _).trans (b12.mono (by simp))).setCell (by simp) _).setCell (by simp) _
  · cases hok : fracOkP (t.tdiv (Int.gcd t b)) (b.tdiv (Int.gcd t b))
    · have e1 : rt t b = t.tdiv (Int.gcd t b) := by simp [rt, hs]
      have e2 : rb t b = b.tdiv (Int.gcd t b) := by simp [rb, hs]
      have HF := Lib.hid (show resV t b = .tuple #[.agg #[.int .i64 0, .int .i64 0], .bool false] from resV_no (by rw [rok, e1, e2]; exact hok))
      clear e1 e2
      go_enter Try.func47, Try.ntmps47
      go_wp2_with fail
      refine (implGcd _ _ _ (by omega) (by omega)).mono ?_; rintro e w1 ⟨rfl, b1⟩; obtain ⟨hc1, hz1⟩ := bcell b1
      have s1 : w.heap.size < w1.heap.size := by have := b1.size; simp at this; omega
      go_wp2_with fail
      go_region
      go_wp2_with fail
      refine (implFractionOk _ _ _).mono ?_; rintro e w2 ⟨rfl, b2⟩; obtain ⟨hc2, hz2⟩ := bcell b2
      have s2 : w1.heap.size < w2.heap.size := by have := b2.size; simp at this; omega
      have b12 : Below (w.alloc (.cells #[.int .i64 0, .int .i64 0] 35)).heap.size (w.alloc (.cells #[.int .i64 0, .int .i64 0] 35)) w2 := b1.trans ((((Below.refl _ _).alloc b1.size _).drew).trans (b2.mono (by have := b1.size; simp at this ⊢; omega)))
      have c0 : w2.cell? ⟨w.heap.size, 0, none⟩ = some (.int .i64 0) := (b12.cell (p := ⟨w.heap.size, 0, none⟩) (by simp)).trans (by simp)
      have c1 : w2.cell? ⟨w.heap.size, 1, none⟩ = some (.int .i64 0) := (b12.cell (p := ⟨w.heap.size, 1, none⟩) (by simp)).trans (by simp)
      have f0 : w2.frozen? ⟨w.heap.size, 0, none⟩ = false := (b12.frozen (p := ⟨w.heap.size, 0, none⟩) (by simp)).trans (by simp)
      have f1 : w2.frozen? ⟨w.heap.size, 1, none⟩ = false := (b12.frozen (p := ⟨w.heap.size, 1, none⟩) (by simp)).trans (by simp)
      have d0 : w2.cell? ⟨w1.heap.size, 0, none⟩ = some (.int .i64 (t.tdiv (Int.gcd t b))) := (b2.cell (p := ⟨w1.heap.size, 0, none⟩) (by simp)).trans (by simp [go_sem])
      have d1 : w2.cell? ⟨w1.heap.size, 1, none⟩ = some (.int .i64 (b.tdiv (Int.gcd t b))) := (b2.cell (p := ⟨w1.heap.size, 1, none⟩) (by simp)).trans (by simp [go_sem])
      clear hc1 hz1 hc2 hz2
      go_wp2_with fail
      refine bodyPost_ret (v := .tuple #[.agg #[.int .i64 0, .int .i64 0], .bool false]) (by simp [results, Try.results47, go_sem, c0, c1]) rfl ⟨ret_val HF.out.symm, ?_⟩
      exact ((((Below.refl _ _).alloc (Nat.le_refl _) _).trans (b12.mono (by simp))).setCell (by simp) _).setCell (by simp) _
    · have e1 : rt t b = t.tdiv (Int.gcd t b) := by simp [rt, hs]
      have e2 : rb t b = b.tdiv (Int.gcd t b) := by simp [rb, hs]
      have HF := Lib.hid (show resV t b = .tuple #[.agg #[.int .i64 (t.tdiv (Int.gcd t b)), .int .i64 (b.tdiv (Int.gcd t b))], .bool true] by rw [resV_yes (by rw [rok, e1, e2]; exact hok), e1, e2])
      clear e1 e2
      go_enter Try.func47, Try.ntmps47
      go_wp2_with fail
      refine (implGcd _ _ _ (by omega) (by omega)).mono ?_; rintro e w1 ⟨rfl, b1⟩; obtain ⟨hc1, hz1⟩ := bcell b1
      have s1 : w.heap.size < w1.heap.size := by have := b1.size; simp at this; omega
      go_wp2_with fail
      go_region
      go_wp2_with fail
      refine (implFractionOk _ _ _).mono ?_; rintro e w2 ⟨rfl, b2⟩; obtain ⟨hc2, hz2⟩ := bcell b2
      have s2 : w1.heap.size < w2.heap.size := by have := b2.size; simp at this; omega
      have b12 : Below (w.alloc (.cells #[.int .i64 0, .int .i64 0] 35)).heap.size (w.alloc (.cells #[.int .i64 0, .int .i64 0] 35)) w2 := b1.trans ((((Below.refl _ _).alloc b1.size _).drew).trans (b2.mono (by have := b1.size; simp at this ⊢; omega)))
      have c0 : w2.cell? ⟨w.heap.size, 0, none⟩ = some (.int .i64 0) := (b12.cell (p := ⟨w.heap.size, 0, none⟩) (by simp)).trans (by simp)
      have c1 : w2.cell? ⟨w.heap.size, 1, none⟩ = some (.int .i64 0) := (b12.cell (p := ⟨w.heap.size, 1, none⟩) (by simp)).trans (by simp)
      have f0 : w2.frozen? ⟨w.heap.size, 0, none⟩ = false := (b12.frozen (p := ⟨w.heap.size, 0, none⟩) (by simp)).trans (by simp)
      have f1 : w2.frozen? ⟨w.heap.size, 1, none⟩ = false := (b12.frozen (p := ⟨w.heap.size, 1, none⟩) (by simp)).trans (by simp)
      have d0 : w2.cell? ⟨w1.heap.size, 0, none⟩ = some (.int .i64 (t.tdiv (Int.gcd t b))) := (b2.cell (p := ⟨w1.heap.size, 0, none⟩) (by simp)).trans (by simp [go_sem])
      have d1 : w2.cell? ⟨w1.heap.size, 1, none⟩ = some (.int .i64 (b.tdiv (Int.gcd t b))) := (b2.cell (p := ⟨w1.heap.size, 1, none⟩) (by simp)).trans (by simp [go_sem])
      clear hc1 hz1 hc2 hz2
      go_wp2_with fail
      refine bodyPost_ret (v := .tuple #[.agg #[.int .i64 (t.tdiv (Int.gcd t b)), .int .i64 (b.tdiv (Int.gcd t b))], .bool true]) (by simp [results, Try.results47, go_sem, c0, c1]) rfl ⟨ret_val HF.out.symm, ?_⟩
      exact ((((Below.refl _ _).alloc (Nat.le_refl _) _).trans (b12.mono (by simp))).setCell (by simp) _).setCell (by simp) _

set_option maxHeartbeats 2000000 in
theorem specMake (t b : Int) (w : World) (ht : -4000000000000000000 ≤ t ∧ t ≤ 4000000000000000000) (hb : 1 ≤ b ∧ b ≤ 4000000000000000000) :
    Calls Try.prog 58 #[.int .i64 t, .int .i64 b] w fun e w' => e = .returned (resV t b) ∧ Below w.heap.size w w' := by
  obtain ⟨hg1, hg2⟩ := gcd_bd t b (by omega)
  have q1 := tdiv_in t (Int.gcd t b) ht
  have q2 := tdiv_in b (Int.gcd t b) ⟨by omega, hb.2⟩
  have hs : ¬ b < 0 := by omega
  have hab : t.natAbs = t ∨ (t.natAbs : Int) = -t := by omega


  cases hok : fracOkP (t.tdiv (Int.gcd t b)) (b.tdiv (Int.gcd t b))
  · by_cases ht0 : 0 ≤ t
    · have hmx : -t ≤ t := by omega
      have e1 : rt t b = t.tdiv (Int.gcd t b) := by simp [rt, hs]
      have e2 : rb t b = b.tdiv (Int.gcd t b) := by simp [rb, hs]
      have HF := Lib.hid (show resV t b = .tuple #[.agg #[.int .i64 0, .int .i64 0], .bool false] from resV_no (by rw [rok, e1, e2]; exact hok))
      clear e1 e2
      have b0 := (Below.refl (w.heap.size + 1) (w.alloc (.cells #[.int .i64 0, .int .i64 0] 35)))
      go_enter Try.func58, Try.ntmps58
      go_wp2_with fail
      refine (specGcdOf t _ _ _ (by first | exact .inl rfl | exact .inr rfl) (by omega) (by omega)).mono ?_; rintro e w' ⟨rfl, rfl⟩
      go_wp2_with fail
      go_region
      go_wp2_with fail
      refine (specFractionOk _ _ _).mono ?_; rintro e w2 ⟨rfl, b2⟩
      have b12 : Below (w.heap.size + 1) (w.alloc (.cells #[.int .i64 0, .int .i64 0] 35)) w2 := ((b0.alloc (by simp) _).drew).trans (b2.mono (by simp))
      have c0 : w2.cell? ⟨w.heap.size, 0, none⟩ = some (.int .i64 0) := (b12.cell (p := ⟨w.heap.size, 0, none⟩) (by simp)).trans (by simp)
      have c1 : w2.cell? ⟨w.heap.size, 1, none⟩ = some (.int .i64 0) := (b12.cell (p := ⟨w.heap.size, 1, none⟩) (by simp)).trans (by simp)
      have f0 : w2.frozen? ⟨w.heap.size, 0, none⟩ = false := (b12.frozen (p := ⟨w.heap.size, 0, none⟩) (by simp)).trans (by simp)
      have f1 : w2.frozen? ⟨w.heap.size, 1, none⟩ = false := (b12.frozen (p := ⟨w.heap.size, 1, none⟩) (by simp)).trans (by simp)
      have d0 : w2.cell? ⟨w.heap.size + 1, 0, none⟩ = some (.int .i64 (t.tdiv (Int.gcd t b))) := (b2.cell (p := ⟨w.heap.size + 1, 0, none⟩) (by simp)).trans (by simp [go_sem])
      have d1 : w2.cell? ⟨w.heap.size + 1, 1, none⟩ = some (.int .i64 (b.tdiv (Int.gcd t b))) := (b2.cell (p := ⟨w.heap.size + 1, 1, none⟩) (by simp)).trans (by simp [go_sem])
      go_wp2_with fail
      refine bodyPost_ret (v := .tuple #[.agg #[.int .i64 0, .int .i64 0], .bool false]) (by simp [results, Try.results58, go_sem, c0, c1]) rfl ⟨ret_val HF.out.symm, ?_⟩
      exact ((((Below.refl _ _).alloc (Nat.le_refl _) _).trans (b12.mono (by simp))).setCell (by simp) _).setCell (by simp) _
    · have hmx : t < -t := by omega
      have e1 : rt t b = t.tdiv (Int.gcd t b) := by simp [rt, hs]
      have e2 : rb t b = b.tdiv (Int.gcd t b) := by simp [rb, hs]
      have HF := Lib.hid (show resV t b = .tuple #[.agg #[.int .i64 0, .int .i64 0], .bool false] from resV_no (by rw [rok, e1, e2]; exact hok))
      clear e1 e2
      have b0 := (Below.refl (w.heap.size + 1) (w.alloc (.cells #[.int .i64 0, .int .i64 0] 35)))
      go_enter Try.func58, Try.ntmps58
      go_wp2_with fail
      refine (specGcdOf t _ _ _ (by first | exact .inl rfl | exact .inr rfl) (by omega) (by omega)).mono ?_; rintro e w' ⟨rfl, rfl⟩
      go_wp2_with fail
      go_region
      go_wp2_with fail
      refine (specFractionOk _ _ _).mono ?_; rintro e w2 ⟨rfl, b2⟩
      have b12 : Below (w.heap.size + 1) (w.alloc (.cells #[.int .i64 0, .int .i64 0] 35)) w2 := ((b0.alloc (by simp) _).drew).trans (b2.mono (by simp))
      have c0 : w2.cell? ⟨w.heap.size, 0, none⟩ = some (.int .i64 0) := (b12.cell (p := ⟨w.heap.size, 0, none⟩) (by simp)).trans (by simp)
      have c1 : w2.cell? ⟨w.heap.size, 1, none⟩ = some (.int .i64 0) := (b12.cell (p := ⟨w.heap.size, 1, none⟩) (by simp)).trans (by simp)
      have f0 : w2.frozen? ⟨w.heap.size, 0, none⟩ = false := (b12.frozen (p := ⟨w.heap.size, 0, none⟩) (by simp)).trans (by simp)
      have f1 : w2.frozen? ⟨w.heap.size, 1, none⟩ = false := (b12.frozen (p := ⟨w.heap.size, 1, none⟩) (by simp)).trans (by simp)
      have d0 : w2.cell? ⟨w.heap.size + 1, 0, none⟩ = some (.int .i64 (t.tdiv (Int.gcd t b))) := (b2.cell (p := ⟨w.heap.size + 1, 0, none⟩) (by simp)).trans (by simp [go_sem])
      have d1 : w2.cell? ⟨w.heap.size + 1, 1, none⟩ = some (.int .i64 (b.tdiv (Int.gcd t b))) := (b2.cell (p := ⟨w.heap.size + 1, 1, none⟩) (by simp)).trans (by simp [go_sem])
      go_wp2_with fail
      refine bodyPost_ret (v := .tuple #[.agg #[.int .i64 0, .int .i64 0], .bool false]) (by simp [results, Try.results58, go_sem, c0, c1]) rfl ⟨ret_val HF.out.symm, ?_⟩
      exact ((((Below.refl _ _).alloc (Nat.le_refl _) _).trans (b12.mono (by simp))).setCell (by simp) _).setCell (by simp) _
  · by_cases ht0 : 0 ≤ t
    · have hmx : -t ≤ t := by omega
      have e1 : rt t b = t.tdiv (Int.gcd t b) := by simp [rt, hs]
      have e2 : rb t b = b.tdiv (Int.gcd t b) := by simp [rb, hs]
      have HF := Lib.hid (show resV t b = .tuple #[.agg #[.int .i64 (t.tdiv (Int.gcd t b)), .int .i64 (b.tdiv (Int.gcd t b))], .bool true] by rw [resV_yes (by rw [rok, e1, e2]; exact hok), e1, e2])
      clear e1 e2
      have b0 := (Below.refl (w.heap.size + 1) (w.alloc (.cells #[.int .i64 0, .int .i64 0] 35)))
      go_enter Try.func58, Try.ntmps58
      go_wp2_with fail
      refine (specGcdOf t _ _ _ (by first | exact .inl rfl | exact .inr rfl) (by omega) (by omega)).mono ?_; rintro e w' ⟨rfl, rfl⟩
      go_wp2_with fail
      go_region
      go_wp2_with fail
      refine (specFractionOk _ _ _).mono ?_; rintro e w2 ⟨rfl, b2⟩
      have b12 : Below (w.heap.size + 1) (w.alloc (.cells #[.int .i64 0, .int .i64 0] 35)) w2 := ((b0.alloc (by simp) _).drew).trans (b2.mono (by simp))
      have c0 : w2.cell? ⟨w.heap.size, 0, none⟩ = some (.int .i64 0) := (b12.cell (p := ⟨w.heap.size, 0, none⟩) (by simp)).trans (by simp)
      have c1 : w2.cell? ⟨w.heap.size, 1, none⟩ = some (.int .i64 0) := (b12.cell (p := ⟨w.heap.size, 1, none⟩) (by simp)).trans (by simp)
      have f0 : w2.frozen? ⟨w.heap.size, 0, none⟩ = false := (b12.frozen (p := ⟨w.heap.size, 0, none⟩) (by simp)).trans (by simp)
      have f1 : w2.frozen? ⟨w.heap.size, 1, none⟩ = false := (b12.frozen (p := ⟨w.heap.size, 1, none⟩) (by simp)).trans (by simp)
      have d0 : w2.cell? ⟨w.heap.size + 1, 0, none⟩ = some (.int .i64 (t.tdiv (Int.gcd t b))) := (b2.cell (p := ⟨w.heap.size + 1, 0, none⟩) (by simp)).trans (by simp [go_sem])
      have d1 : w2.cell? ⟨w.heap.size + 1, 1, none⟩ = some (.int .i64 (b.tdiv (Int.gcd t b))) := (b2.cell (p := ⟨w.heap.size + 1, 1, none⟩) (by simp)).trans (by simp [go_sem])
      go_wp2_with fail
      refine bodyPost_ret (v := .tuple #[.agg #[.int .i64 (t.tdiv (Int.gcd t b)), .int .i64 (b.tdiv (Int.gcd t b))], .bool true]) (by simp [results, Try.results58, go_sem, c0, c1]) rfl ⟨ret_val HF.out.symm, ?_⟩
      exact ((((Below.refl _ _).alloc (Nat.le_refl _) _).trans (b12.mono (by simp))).setCell (by simp) _).setCell (by simp) _
    · have hmx : t < -t := by omega
      have e1 : rt t b = t.tdiv (Int.gcd t b) := by simp [rt, hs]
      have e2 : rb t b = b.tdiv (Int.gcd t b) := by simp [rb, hs]
      have HF := Lib.hid (show resV t b = .tuple #[.agg #[.int .i64 (t.tdiv (Int.gcd t b)), .int .i64 (b.tdiv (Int.gcd t b))], .bool true] by rw [resV_yes (by rw [rok, e1, e2]; exact hok), e1, e2])
      clear e1 e2
      have b0 := (Below.refl (w.heap.size + 1) (w.alloc (.cells #[.int .i64 0, .int .i64 0] 35)))
      go_enter Try.func58, Try.ntmps58
      go_wp2_with fail
      refine (specGcdOf t _ _ _ (by first | exact .inl rfl | exact .inr rfl) (by omega) (by omega)).mono ?_; rintro e w' ⟨rfl, rfl⟩
      go_wp2_with fail
      go_region
      go_wp2_with fail
      refine (specFractionOk _ _ _).mono ?_; rintro e w2 ⟨rfl, b2⟩
      have b12 : Below (w.heap.size + 1) (w.alloc (.cells #[.int .i64 0, .int .i64 0] 35)) w2 := ((b0.alloc (by simp) _).drew).trans (b2.mono (by simp))
      have c0 : w2.cell? ⟨w.heap.size, 0, none⟩ = some (.int .i64 0) := (b12.cell (p := ⟨w.heap.size, 0, none⟩) (by simp)).trans (by simp)
      have c1 : w2.cell? ⟨w.heap.size, 1, none⟩ = some (.int .i64 0) := (b12.cell (p := ⟨w.heap.size, 1, none⟩) (by simp)).trans (by simp)
      have f0 : w2.frozen? ⟨w.heap.size, 0, none⟩ = false := (b12.frozen (p := ⟨w.heap.size, 0, none⟩) (by simp)).trans (by simp)
      have f1 : w2.frozen? ⟨w.heap.size, 1, none⟩ = false := (b12.frozen (p := ⟨w.heap.size, 1, none⟩) (by simp)).trans (by simp)
      have d0 : w2.cell? ⟨w.heap.size + 1, 0, none⟩ = some (.int .i64 (t.tdiv (Int.gcd t b))) := (b2.cell (p := ⟨w.heap.size + 1, 0, none⟩) (by simp)).trans (by simp [go_sem])
      have d1 : w2.cell? ⟨w.heap.size + 1, 1, none⟩ = some (.int .i64 (b.tdiv (Int.gcd t b))) := (b2.cell (p := ⟨w.heap.size + 1, 1, none⟩) (by simp)).trans (by simp [go_sem])
      go_wp2_with fail
      refine bodyPost_ret (v := .tuple #[.agg #[.int .i64 (t.tdiv (Int.gcd t b)), .int .i64 (b.tdiv (Int.gcd t b))], .bool true]) (by simp [results, Try.results58, go_sem, c0, c1]) rfl ⟨ret_val HF.out.symm, ?_⟩
      exact ((((Below.refl _ _).alloc (Nat.le_refl _) _).trans (b12.mono (by simp))).setCell (by simp) _).setCell (by simp) _
end Go.Proofs.Ytadacfammhianaa
