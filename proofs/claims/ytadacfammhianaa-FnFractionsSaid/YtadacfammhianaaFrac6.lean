/- Fractions out of two numbers, and which of two is greater: what the program's and the reference's functions compute. -/
import Derived.Test.YtadacfammhianaaFrac5
namespace Go.Proofs.Ytadacfammhianaa
open Go.RowKit

/-! ### Comparison -/
def cmpI (x y : Int) : Int := if x < y then -1 else if y < x then 1 else 0
def cmpP (x1 y1 x2 y2 : Int) : Int := if fracOkP x1 y1 && fracOkP x2 y2 then cmpI (x1 * y2) (x2 * y1) else -2

set_option maxHeartbeats 400000 in
theorem libNaN (x : Int) (w : World) :
    Calls Try.prog 67 #[.int .i64 x] w fun e w' => e = .returned (.bool false) ∧ w = w' := by
  have hne : (x != x) = false := by simp
  go_enter Try.func67, Try.ntmps67
  go_wp2
  go_ret
  exact ⟨rfl, rfl⟩

set_option maxHeartbeats 400000 in
theorem libCompare (x y : Int) (w : World) :
    Calls Try.prog 49 #[.int .i64 x, .int .i64 y] w fun e w' => e = .returned (.int .i64 (cmpI x y)) ∧ w = w' := by
  by_cases h1 : x < y
  · have HF : Hid (cmpI x y = -1) := if_pos h1
    go_enter Try.func49, Try.ntmps49
    go_wp2_with fail
    refine (libNaN _ _).mono ?_; rintro e w1 ⟨rfl, rfl⟩
    go_wp2_with fail
    refine (libNaN _ _).mono ?_; rintro e w1 ⟨rfl, rfl⟩
    go_wp2
    go_ret
    exact ⟨ret_int HF.out.symm, rfl⟩
  · by_cases h2 : y < x
    · have HF : Hid (cmpI x y = 1) := by rw [Hid, cmpI, if_neg h1, if_pos h2]
      go_enter Try.func49, Try.ntmps49
      go_wp2_with fail
      refine (libNaN _ _).mono ?_; rintro e w1 ⟨rfl, rfl⟩
      go_wp2_with fail
      refine (libNaN _ _).mono ?_; rintro e w1 ⟨rfl, rfl⟩
      go_wp2
      go_ret
      exact ⟨ret_int HF.out.symm, rfl⟩
    · have HF : Hid (cmpI x y = 0) := by rw [Hid, cmpI, if_neg h1, if_neg h2]
      go_enter Try.func49, Try.ntmps49
      go_wp2_with fail
      refine (libNaN _ _).mono ?_; rintro e w1 ⟨rfl, rfl⟩
      go_wp2_with fail
      refine (libNaN _ _).mono ?_; rintro e w1 ⟨rfl, rfl⟩
      go_wp2
      go_ret
      exact ⟨ret_int HF.out.symm, rfl⟩

set_option maxHeartbeats 2000000 in
theorem implCompare (x1 y1 x2 y2 : Int) (w : World) :
    Calls Try.prog 33 #[.agg #[.int .i64 x1, .int .i64 y1], .agg #[.int .i64 x2, .int .i64 y2]] w fun e w' => e = .returned (.int .i64 (cmpP x1 y1 x2 y2)) ∧ Below w.heap.size w w' := by
  have bx := Two.start x1 y1 x2 y2 w 35
  cases h1 : fracOkP x1 y1 with
  | false =>
    have HF := Lib.hid (show cmpP x1 y1 x2 y2 = -2 by simp [cmpP, h1])
    go_enter Try.func33, Try.ntmps33
    go_wp2_with fail
    refine (implFractionOk _ _ _).mono ?_; rintro e w1 ⟨rfl, q⟩
    have bx := Two.on bx q
    obtain ⟨a0, a1, b0, b1, sz, bl, bk⟩ := id bx
    have sy := Nat.lt_of_succ_lt sz
    go_wp2_with fail
    go_ret
    exact ⟨ret_int HF.out.symm, bl⟩
  | true =>
    cases h2 : fracOkP x2 y2 with
    | false =>
      have HF := Lib.hid (show cmpP x1 y1 x2 y2 = -2 by simp [cmpP, h1, h2])
      go_enter Try.func33, Try.ntmps33
      go_wp2_with fail
      refine (implFractionOk _ _ _).mono ?_; rintro e w1 ⟨rfl, q⟩
      have bx := Two.on bx q
      obtain ⟨a0, a1, b0, b1, sz, bl, bk⟩ := id bx
      have sy := Nat.lt_of_succ_lt sz
      go_wp2_with fail
      refine (implFractionOk _ _ _).mono ?_; rintro e w2 ⟨rfl, q⟩
      have bx := Two.on bx q
      obtain ⟨a0, a1, b0, b1, sz, bl, bk⟩ := id bx
      have sy := Nat.lt_of_succ_lt sz
      go_wp2_with fail
      go_ret
      exact ⟨ret_int HF.out.symm, bl⟩
    | true =>
      have HF := Lib.hid (show cmpP x1 y1 x2 y2 = cmpI (x1 * y2) (x2 * y1) by simp [cmpP, h1, h2])
      obtain ⟨u1, u2, _⟩ := of_fracOk h1
      obtain ⟨v1, v2, _⟩ := of_fracOk h2
      have m1 := mul_bd u1 ⟨by omega, v2.2⟩
      have m2 := mul_bd v1 ⟨by omega, u2.2⟩
      go_enter Try.func33, Try.ntmps33
      go_wp2_with fail
      refine (implFractionOk _ _ _).mono ?_; rintro e w1 ⟨rfl, q⟩
      have bx := Two.on bx q
      obtain ⟨a0, a1, b0, b1, sz, bl, bk⟩ := id bx
      have sy := Nat.lt_of_succ_lt sz
      go_wp2_with fail
      refine (implFractionOk _ _ _).mono ?_; rintro e w2 ⟨rfl, q⟩
      have bx := Two.on bx q
      obtain ⟨a0, a1, b0, b1, sz, bl, bk⟩ := id bx
      have sy := Nat.lt_of_succ_lt sz
      go_wp2_with fail
      refine (libCompare _ _ _).mono ?_; rintro e w3 ⟨rfl, rfl⟩
      go_wp2_with fail
      go_ret
      exact ⟨ret_int HF.out.symm, bl⟩

/-! ### Fractions out of two numbers -/
def foOk (t b : Int) : Bool := !(b == 0) && inB t (-1000000000000000000) 1000000000000000000 && inB b (-1000000000000000000) 1000000000000000000
def foT (t b : Int) : Int := if foOk t b then resT t b else 0
def foB (t b : Int) : Int := if foOk t b then resB t b else 0
def foR (t b : Int) : Bool := if foOk t b then rok t b else false
def foV (t b : Int) : Value := .tuple #[.agg #[.int .i64 (foT t b), .int .i64 (foB t b)], .bool (foR t b)]
theorem fo_no {t b : Int} (h : foOk t b = false) : foV t b = zeroV := by simp [foV, foT, foB, foR, h, zeroV]
theorem fo_yes {t b : Int} (h : foOk t b = true) : foV t b = resV t b := by simp [foV, foT, foB, foR, h, resV]

set_option maxHeartbeats 4000000 in
theorem specFractionOf (t b : Int) (w : World) :
    Calls Try.prog 63 #[.int .i64 t, .int .i64 b] w fun e w' => e = .returned (foV t b) ∧ Below w.heap.size w w' := by
  cases h0 : (b == 0) with
  | true =>
    have HF := Lib.hid (show foV t b = .tuple #[.agg #[.int .i64 0, .int .i64 0], .bool false] from fo_no (by simp [foOk, h0]))
    go_enter Try.func63, Try.ntmps63
    go_wp2_with fail
    refine bodyPost_ret (v := .tuple #[.agg #[.int .i64 0, .int .i64 0], .bool false]) (by simp [results, Try.results63, go_sem]) rfl ⟨ret_val HF.out.symm, (Below.refl _ _).alloc (Nat.le_refl _) _⟩
  | false =>
    cases h1 : inB t (-1000000000000000000) 1000000000000000000 with
    | false =>
      have HF := Lib.hid (show foV t b = .tuple #[.agg #[.int .i64 0, .int .i64 0], .bool false] from fo_no (by simp [foOk, h0, h1]))
      go_enter Try.func63, Try.ntmps63
      go_wp2_with fail
      refine (specIn _ _ _ _).mono ?_; rintro e w' ⟨rfl, rfl⟩
      go_wp2_with fail
      refine bodyPost_ret (v := .tuple #[.agg #[.int .i64 0, .int .i64 0], .bool false]) (by simp [results, Try.results63, go_sem]) rfl ⟨ret_val HF.out.symm, (Below.refl _ _).alloc (Nat.le_refl _) _⟩
    | true =>
      cases h2 : inB b (-1000000000000000000) 1000000000000000000 with
      | false =>
        have HF := Lib.hid (show foV t b = .tuple #[.agg #[.int .i64 0, .int .i64 0], .bool false] from fo_no (by simp [foOk, h0, h1, h2]))
        go_enter Try.func63, Try.ntmps63
        go_wp2_with fail
        refine (specIn _ _ _ _).mono ?_; rintro e w' ⟨rfl, rfl⟩
        go_wp2_with fail
        refine (specIn _ _ _ _).mono ?_; rintro e w' ⟨rfl, rfl⟩
        go_wp2_with fail
        refine bodyPost_ret (v := .tuple #[.agg #[.int .i64 0, .int .i64 0], .bool false]) (by simp [results, Try.results63, go_sem]) rfl ⟨ret_val HF.out.symm, (Below.refl _ _).alloc (Nat.le_refl _) _⟩
      | true =>
        have t1 := of_inB h1
        have t2 := of_inB h2
        have t3 : b ≠ 0 := by simpa using h0
        by_cases hb : b < 0
        · obtain ⟨T, rfl⟩ : ∃ T, t = -T := ⟨-t, by omega⟩
          obtain ⟨B, rfl⟩ : ∃ B, b = -B := ⟨-b, by omega⟩
          have hrn : resV (-T) (-B) = resV T B := by
            have := resV_neg (-T) (-B) hb
            rw [Int.neg_neg, Int.neg_neg] at this
            exact this.symm
          have HRN := Lib.hid hrn; clear hrn
          have h0' : (B == 0) = false := by simp; omega
          have hs : ¬ B < 0 := by omega
          obtain ⟨hg1, hg2⟩ := gcd_bd T B (by omega)
          have q1 := tdiv_in T (Int.gcd T B) (by omega)
          have q2 := tdiv_in B (Int.gcd T B) (by omega)
          cases hok : fracOkP (T.tdiv (Int.gcd T B)) (B.tdiv (Int.gcd T B)) with
          | false =>
            by_cases ht0 : 0 ≤ T
            · have hmx : -T ≤ T := by omega
              have e1 : rt T B = T.tdiv (Int.gcd T B) := if_neg hs
              have e2 : rb T B = B.tdiv (Int.gcd T B) := if_neg hs
              have HF := Lib.hid (show foV (-T) (-B) = .tuple #[.agg #[.int .i64 0, .int .i64 0], .bool false] from (fo_yes (by unfold foOk; rw [h0, h1, h2]; rfl)).trans (HRN.out.trans (show resV T B = .tuple #[.agg #[.int .i64 0, .int .i64 0], .bool false] from resV_no (by rw [rok, e1, e2]; exact hok))))
              clear e1 e2
              have b0 := (Below.refl (w.heap.size + 1) (w.alloc (.cells #[.int .i64 0, .int .i64 0] 35)))
              go_enter Try.func63, Try.ntmps63
              go_wp2_with fail
              refine (specIn _ _ _ _).mono ?_; rintro e w' ⟨rfl, rfl⟩
              go_wp2_with fail
              refine (specIn _ _ _ _).mono ?_; rintro e w' ⟨rfl, rfl⟩
              go_wp2_with fail
              refine (specGcdOf T _ _ _ (by first | exact .inl rfl | exact .inr rfl | (right; omega)) (by omega) (by omega)).mono ?_; rintro e w' ⟨rfl, rfl⟩
              go_wp2_with fail
              go_region
              go_wp2_with fail
              refine (specFractionOk _ _ _).mono ?_; rintro e w2 ⟨rfl, b2⟩
              have b12 : Below (w.heap.size + 1) (w.alloc (.cells #[.int .i64 0, .int .i64 0] 35)) w2 := ((b0.alloc (by simp) _).drew).trans (b2.mono (by simp))
              have c0 : w2.cell? ⟨w.heap.size, 0, none⟩ = some (.int .i64 0) := (b12.cell (p := ⟨w.heap.size, 0, none⟩) (by simp)).trans (by simp)
              have c1 : w2.cell? ⟨w.heap.size, 1, none⟩ = some (.int .i64 0) := (b12.cell (p := ⟨w.heap.size, 1, none⟩) (by simp)).trans (by simp)
              have f0 : w2.frozen? ⟨w.heap.size, 0, none⟩ = false := (b12.frozen (p := ⟨w.heap.size, 0, none⟩) (by simp)).trans (by simp)
              have f1 : w2.frozen? ⟨w.heap.size, 1, none⟩ = false := (b12.frozen (p := ⟨w.heap.size, 1, none⟩) (by simp)).trans (by simp)
              have d0 := b2.cell (p := ⟨w.heap.size + 1, 0, none⟩) (by simp)
              have d1 := b2.cell (p := ⟨w.heap.size + 1, 1, none⟩) (by simp)
              simp [go_sem] at d0 d1
              go_wp2_with fail
              refine bodyPost_ret (v := .tuple #[.agg #[.int .i64 0, .int .i64 0], .bool false]) (by simp [results, Try.results63, go_sem, c0, c1]) rfl ⟨ret_val HF.out.symm, ?_⟩
              exact ((((Below.refl _ _).alloc (Nat.le_refl _) _).trans (b12.mono (by simp))).setCell (by simp) _).setCell (by simp) _
            · have hmx : T < -T := by omega
              have e1 : rt T B = T.tdiv (Int.gcd T B) := if_neg hs
              have e2 : rb T B = B.tdiv (Int.gcd T B) := if_neg hs
              have HF := Lib.hid (show foV (-T) (-B) = .tuple #[.agg #[.int .i64 0, .int .i64 0], .bool false] from (fo_yes (by unfold foOk; rw [h0, h1, h2]; rfl)).trans (HRN.out.trans (show resV T B = .tuple #[.agg #[.int .i64 0, .int .i64 0], .bool false] from resV_no (by rw [rok, e1, e2]; exact hok))))
              clear e1 e2
              have b0 := (Below.refl (w.heap.size + 1) (w.alloc (.cells #[.int .i64 0, .int .i64 0] 35)))
              go_enter Try.func63, Try.ntmps63
              go_wp2_with fail
              refine (specIn _ _ _ _).mono ?_; rintro e w' ⟨rfl, rfl⟩
              go_wp2_with fail
              refine (specIn _ _ _ _).mono ?_; rintro e w' ⟨rfl, rfl⟩
              go_wp2_with fail
              refine (specGcdOf T _ _ _ (by first | exact .inl rfl | exact .inr rfl | (right; omega)) (by omega) (by omega)).mono ?_; rintro e w' ⟨rfl, rfl⟩
              go_wp2_with fail
              go_region
              go_wp2_with fail
              refine (specFractionOk _ _ _).mono ?_; rintro e w2 ⟨rfl, b2⟩
              have b12 : Below (w.heap.size + 1) (w.alloc (.cells #[.int .i64 0, .int .i64 0] 35)) w2 := ((b0.alloc (by simp) _).drew).trans (b2.mono (by simp))
              have c0 : w2.cell? ⟨w.heap.size, 0, none⟩ = some (.int .i64 0) := (b12.cell (p := ⟨w.heap.size, 0, none⟩) (by simp)).trans (by simp)
              have c1 : w2.cell? ⟨w.heap.size, 1, none⟩ = some (.int .i64 0) := (b12.cell (p := ⟨w.heap.size, 1, none⟩) (by simp)).trans (by simp)
              have f0 : w2.frozen? ⟨w.heap.size, 0, none⟩ = false := (b12.frozen (p := ⟨w.heap.size, 0, none⟩) (by simp)).trans (by simp)
              have f1 : w2.frozen? ⟨w.heap.size, 1, none⟩ = false := (b12.frozen (p := ⟨w.heap.size, 1, none⟩) (by simp)).trans (by simp)
              have d0 := b2.cell (p := ⟨w.heap.size + 1, 0, none⟩) (by simp)
              have d1 := b2.cell (p := ⟨w.heap.size + 1, 1, none⟩) (by simp)
              simp [go_sem] at d0 d1
              go_wp2_with fail
              refine bodyPost_ret (v := .tuple #[.agg #[.int .i64 0, .int .i64 0], .bool false]) (by simp [results, Try.results63, go_sem, c0, c1]) rfl ⟨ret_val HF.out.symm, ?_⟩
              exact ((((Below.refl _ _).alloc (Nat.le_refl _) _).trans (b12.mono (by simp))).setCell (by simp) _).setCell (by simp) _
          | true =>
            by_cases ht0 : 0 ≤ T
            · have hmx : -T ≤ T := by omega
              have e1 : rt T B = T.tdiv (Int.gcd T B) := if_neg hs
              have e2 : rb T B = B.tdiv (Int.gcd T B) := if_neg hs
              have HF := Lib.hid (show foV (-T) (-B) = .tuple #[.agg #[.int .i64 (T.tdiv (Int.gcd T B)), .int .i64 (B.tdiv (Int.gcd T B))], .bool true] from (fo_yes (by unfold foOk; rw [h0, h1, h2]; rfl)).trans (HRN.out.trans (show resV T B = .tuple #[.agg #[.int .i64 (T.tdiv (Int.gcd T B)), .int .i64 (B.tdiv (Int.gcd T B))], .bool true] by rw [resV_yes (by rw [rok, e1, e2]; exact hok), e1, e2])))
              clear e1 e2
              have b0 := (Below.refl (w.heap.size + 1) (w.alloc (.cells #[.int .i64 0, .int .i64 0] 35)))
              go_enter Try.func63, Try.ntmps63
              go_wp2_with fail
              refine (specIn _ _ _ _).mono ?_; rintro e w' ⟨rfl, rfl⟩
              go_wp2_with fail
              refine (specIn _ _ _ _).mono ?_; rintro e w' ⟨rfl, rfl⟩
              go_wp2_with fail
              refine (specGcdOf T _ _ _ (by first | exact .inl rfl | exact .inr rfl | (right; omega)) (by omega) (by omega)).mono ?_; rintro e w' ⟨rfl, rfl⟩
              go_wp2_with fail
              go_region
              go_wp2_with fail
              refine (specFractionOk _ _ _).mono ?_; rintro e w2 ⟨rfl, b2⟩
              have b12 : Below (w.heap.size + 1) (w.alloc (.cells #[.int .i64 0, .int .i64 0] 35)) w2 := ((b0.alloc (by simp) _).drew).trans (b2.mono (by simp))
              have c0 : w2.cell? ⟨w.heap.size, 0, none⟩ = some (.int .i64 0) := (b12.cell (p := ⟨w.heap.size, 0, none⟩) (by simp)).trans (by simp)
              have c1 : w2.cell? ⟨w.heap.size, 1, none⟩ = some (.int .i64 0) := (b12.cell (p := ⟨w.heap.size, 1, none⟩) (by simp)).trans (by simp)
              have f0 : w2.frozen? ⟨w.heap.size, 0, none⟩ = false := (b12.frozen (p := ⟨w.heap.size, 0, none⟩) (by simp)).trans (by simp)
              have f1 : w2.frozen? ⟨w.heap.size, 1, none⟩ = false := (b12.frozen (p := ⟨w.heap.size, 1, none⟩) (by simp)).trans (by simp)
              have d0 := b2.cell (p := ⟨w.heap.size + 1, 0, none⟩) (by simp)
              have d1 := b2.cell (p := ⟨w.heap.size + 1, 1, none⟩) (by simp)
              simp [go_sem] at d0 d1
              go_wp2_with fail
              refine bodyPost_ret (v := .tuple #[.agg #[.int .i64 (T.tdiv (Int.gcd T B)), .int .i64 (B.tdiv (Int.gcd T B))], .bool true]) (by simp [results, Try.results63, go_sem, c0, c1]) rfl ⟨ret_val HF.out.symm, ?_⟩
              exact ((((Below.refl _ _).alloc (Nat.le_refl _) _).trans (b12.mono (by simp))).setCell (by simp) _).setCell (by simp) _
            · have hmx : T < -T := by omega
              have e1 : rt T B = T.tdiv (Int.gcd T B) := if_neg hs
              have e2 : rb T B = B.tdiv (Int.gcd T B) := if_neg hs
              have HF := Lib.hid (show foV (-T) (-B) = .tuple #[.agg #[.int .i64 (T.tdiv (Int.gcd T B)), .int .i64 (B.tdiv (Int.gcd T B))], .bool true] from (fo_yes (by unfold foOk; rw [h0, h1, h2]; rfl)).trans (HRN.out.trans (show resV T B = .tuple #[.agg #[.int .i64 (T.tdiv (Int.gcd T B)), .int .i64 (B.tdiv (Int.gcd T B))], .bool true] by rw [resV_yes (by rw [rok, e1, e2]; exact hok), e1, e2])))
              clear e1 e2
              have b0 := (Below.refl (w.heap.size + 1) (w.alloc (.cells #[.int .i64 0, .int .i64 0] 35)))
              go_enter Try.func63, Try.ntmps63
              go_wp2_with fail
              refine (specIn _ _ _ _).mono ?_; rintro e w' ⟨rfl, rfl⟩
              go_wp2_with fail
              refine (specIn _ _ _ _).mono ?_; rintro e w' ⟨rfl, rfl⟩
              go_wp2_with fail
              refine (specGcdOf T _ _ _ (by first | exact .inl rfl | exact .inr rfl | (right; omega)) (by omega) (by omega)).mono ?_; rintro e w' ⟨rfl, rfl⟩
              go_wp2_with fail
              go_region
              go_wp2_with fail
              refine (specFractionOk _ _ _).mono ?_; rintro e w2 ⟨rfl, b2⟩
              have b12 : Below (w.heap.size + 1) (w.alloc (.cells #[.int .i64 0, .int .i64 0] 35)) w2 := ((b0.alloc (by simp) _).drew).trans (b2.mono (by simp))
              have c0 : w2.cell? ⟨w.heap.size, 0, none⟩ = some (.int .i64 0) := (b12.cell (p := ⟨w.heap.size, 0, none⟩) (by simp)).trans (by simp)
              have c1 : w2.cell? ⟨w.heap.size, 1, none⟩ = some (.int .i64 0) := (b12.cell (p := ⟨w.heap.size, 1, none⟩) (by simp)).trans (by simp)
              have f0 : w2.frozen? ⟨w.heap.size, 0, none⟩ = false := (b12.frozen (p := ⟨w.heap.size, 0, none⟩) (by simp)).trans (by simp)
              have f1 : w2.frozen? ⟨w.heap.size, 1, none⟩ = false := (b12.frozen (p := ⟨w.heap.size, 1, none⟩) (by simp)).trans (by simp)
              have d0 := b2.cell (p := ⟨w.heap.size + 1, 0, none⟩) (by simp)
              have d1 := b2.cell (p := ⟨w.heap.size + 1, 1, none⟩) (by simp)
              simp [go_sem] at d0 d1
              go_wp2_with fail
              refine bodyPost_ret (v := .tuple #[.agg #[.int .i64 (T.tdiv (Int.gcd T B)), .int .i64 (B.tdiv (Int.gcd T B))], .bool true]) (by simp [results, Try.results63, go_sem, c0, c1]) rfl ⟨ret_val HF.out.symm, ?_⟩
              exact ((((Below.refl _ _).alloc (Nat.le_refl _) _).trans (b12.mono (by simp))).setCell (by simp) _).setCell (by simp) _
        · have hs : ¬ b < 0 := by omega
          obtain ⟨hg1, hg2⟩ := gcd_bd t b (by omega)
          have q1 := tdiv_in t (Int.gcd t b) (by omega)
          have q2 := tdiv_in b (Int.gcd t b) (by omega)
          cases hok : fracOkP (t.tdiv (Int.gcd t b)) (b.tdiv (Int.gcd t b)) with
          | false =>
            by_cases ht0 : 0 ≤ t
            · have hmx : -t ≤ t := by omega
              have e1 : rt t b = t.tdiv (Int.gcd t b) := if_neg hs
              have e2 : rb t b = b.tdiv (Int.gcd t b) := if_neg hs
              have HF := Lib.hid (show foV t b = .tuple #[.agg #[.int .i64 0, .int .i64 0], .bool false] from (fo_yes (by unfold foOk; rw [h0, h1, h2]; rfl)).trans ((show resV t b = .tuple #[.agg #[.int .i64 0, .int .i64 0], .bool false] from resV_no (by rw [rok, e1, e2]; exact hok))))
              clear e1 e2
              have b0 := (Below.refl (w.heap.size + 1) (w.alloc (.cells #[.int .i64 0, .int .i64 0] 35)))
              go_enter Try.func63, Try.ntmps63
              go_wp2_with fail
              refine (specIn _ _ _ _).mono ?_; rintro e w' ⟨rfl, rfl⟩
              go_wp2_with fail
              refine (specIn _ _ _ _).mono ?_; rintro e w' ⟨rfl, rfl⟩
              go_wp2_with fail
              refine (specGcdOf t _ _ _ (by first | exact .inl rfl | exact .inr rfl | (right; omega)) (by omega) (by omega)).mono ?_; rintro e w' ⟨rfl, rfl⟩
              go_wp2_with fail
              go_region
              go_wp2_with fail
              refine (specFractionOk _ _ _).mono ?_; rintro e w2 ⟨rfl, b2⟩
              have b12 : Below (w.heap.size + 1) (w.alloc (.cells #[.int .i64 0, .int .i64 0] 35)) w2 := ((b0.alloc (by simp) _).drew).trans (b2.mono (by simp))
              have c0 : w2.cell? ⟨w.heap.size, 0, none⟩ = some (.int .i64 0) := (b12.cell (p := ⟨w.heap.size, 0, none⟩) (by simp)).trans (by simp)
              have c1 : w2.cell? ⟨w.heap.size, 1, none⟩ = some (.int .i64 0) := (b12.cell (p := ⟨w.heap.size, 1, none⟩) (by simp)).trans (by simp)
              have f0 : w2.frozen? ⟨w.heap.size, 0, none⟩ = false := (b12.frozen (p := ⟨w.heap.size, 0, none⟩) (by simp)).trans (by simp)
              have f1 : w2.frozen? ⟨w.heap.size, 1, none⟩ = false := (b12.frozen (p := ⟨w.heap.size, 1, none⟩) (by simp)).trans (by simp)
              have d0 := b2.cell (p := ⟨w.heap.size + 1, 0, none⟩) (by simp)
              have d1 := b2.cell (p := ⟨w.heap.size + 1, 1, none⟩) (by simp)
              simp [go_sem] at d0 d1
              go_wp2_with fail
              refine bodyPost_ret (v := .tuple #[.agg #[.int .i64 0, .int .i64 0], .bool false]) (by simp [results, Try.results63, go_sem, c0, c1]) rfl ⟨ret_val HF.out.symm, ?_⟩
              exact ((((Below.refl _ _).alloc (Nat.le_refl _) _).trans (b12.mono (by simp))).setCell (by simp) _).setCell (by simp) _
            · have hmx : t < -t := by omega
              have e1 : rt t b = t.tdiv (Int.gcd t b) := if_neg hs
              have e2 : rb t b = b.tdiv (Int.gcd t b) := if_neg hs
              have HF := Lib.hid (show foV t b = .tuple #[.agg #[.int .i64 0, .int .i64 0], .bool false] from (fo_yes (by unfold foOk; rw [h0, h1, h2]; rfl)).trans ((show resV t b = .tuple #[.agg #[.int .i64 0, .int .i64 0], .bool false] from resV_no (by rw [rok, e1, e2]; exact hok))))
              clear e1 e2
              have b0 := (Below.refl (w.heap.size + 1) (w.alloc (.cells #[.int .i64 0, .int .i64 0] 35)))
              go_enter Try.func63, Try.ntmps63
              go_wp2_with fail
              refine (specIn _ _ _ _).mono ?_; rintro e w' ⟨rfl, rfl⟩
              go_wp2_with fail
              refine (specIn _ _ _ _).mono ?_; rintro e w' ⟨rfl, rfl⟩
              go_wp2_with fail
              refine (specGcdOf t _ _ _ (by first | exact .inl rfl | exact .inr rfl | (right; omega)) (by omega) (by omega)).mono ?_; rintro e w' ⟨rfl, rfl⟩
              go_wp2_with fail
              go_region
              go_wp2_with fail
              refine (specFractionOk _ _ _).mono ?_; rintro e w2 ⟨rfl, b2⟩
              have b12 : Below (w.heap.size + 1) (w.alloc (.cells #[.int .i64 0, .int .i64 0] 35)) w2 := ((b0.alloc (by simp) _).drew).trans (b2.mono (by simp))
              have c0 : w2.cell? ⟨w.heap.size, 0, none⟩ = some (.int .i64 0) := (b12.cell (p := ⟨w.heap.size, 0, none⟩) (by simp)).trans (by simp)
              have c1 : w2.cell? ⟨w.heap.size, 1, none⟩ = some (.int .i64 0) := (b12.cell (p := ⟨w.heap.size, 1, none⟩) (by simp)).trans (by simp)
              have f0 : w2.frozen? ⟨w.heap.size, 0, none⟩ = false := (b12.frozen (p := ⟨w.heap.size, 0, none⟩) (by simp)).trans (by simp)
              have f1 : w2.frozen? ⟨w.heap.size, 1, none⟩ = false := (b12.frozen (p := ⟨w.heap.size, 1, none⟩) (by simp)).trans (by simp)
              have d0 := b2.cell (p := ⟨w.heap.size + 1, 0, none⟩) (by simp)
              have d1 := b2.cell (p := ⟨w.heap.size + 1, 1, none⟩) (by simp)
              simp [go_sem] at d0 d1
              go_wp2_with fail
              refine bodyPost_ret (v := .tuple #[.agg #[.int .i64 0, .int .i64 0], .bool false]) (by simp [results, Try.results63, go_sem, c0, c1]) rfl ⟨ret_val HF.out.symm, ?_⟩
              exact ((((Below.refl _ _).alloc (Nat.le_refl _) _).trans (b12.mono (by simp))).setCell (by simp) _).setCell (by simp) _
          | true =>
            by_cases ht0 : 0 ≤ t
            · have hmx : -t ≤ t := by omega
              have e1 : rt t b = t.tdiv (Int.gcd t b) := if_neg hs
              have e2 : rb t b = b.tdiv (Int.gcd t b) := if_neg hs
              have HF := Lib.hid (show foV t b = .tuple #[.agg #[.int .i64 (t.tdiv (Int.gcd t b)), .int .i64 (b.tdiv (Int.gcd t b))], .bool true] from (fo_yes (by unfold foOk; rw [h0, h1, h2]; rfl)).trans ((show resV t b = .tuple #[.agg #[.int .i64 (t.tdiv (Int.gcd t b)), .int .i64 (b.tdiv (Int.gcd t b))], .bool true] by rw [resV_yes (by rw [rok, e1, e2]; exact hok), e1, e2])))
              clear e1 e2
              have b0 := (Below.refl (w.heap.size + 1) (w.alloc (.cells #[.int .i64 0, .int .i64 0] 35)))
              go_enter Try.func63, Try.ntmps63
              go_wp2_with fail
              refine (specIn _ _ _ _).mono ?_; rintro e w' ⟨rfl, rfl⟩
              go_wp2_with fail
              refine (specIn _ _ _ _).mono ?_; rintro e w' ⟨rfl, rfl⟩
              go_wp2_with fail
              refine (specGcdOf t _ _ _ (by first | exact .inl rfl | exact .inr rfl | (right; omega)) (by omega) (by omega)).mono ?_; rintro e w' ⟨rfl, rfl⟩
              go_wp2_with fail
              go_region
              go_wp2_with fail
              refine (specFractionOk _ _ _).mono ?_; rintro e w2 ⟨rfl, b2⟩
              have b12 : Below (w.heap.size + 1) (w.alloc (.cells #[.int .i64 0, .int .i64 0] 35)) w2 := ((b0.alloc (by simp) _).drew).trans (b2.mono (by simp))
              have c0 : w2.cell? ⟨w.heap.size, 0, none⟩ = some (.int .i64 0) := (b12.cell (p := ⟨w.heap.size, 0, none⟩) (by simp)).trans (by simp)
              have c1 : w2.cell? ⟨w.heap.size, 1, none⟩ = some (.int .i64 0) := (b12.cell (p := ⟨w.heap.size, 1, none⟩) (by simp)).trans (by simp)
              have f0 : w2.frozen? ⟨w.heap.size, 0, none⟩ = false := (b12.frozen (p := ⟨w.heap.size, 0, none⟩) (by simp)).trans (by simp)
              have f1 : w2.frozen? ⟨w.heap.size, 1, none⟩ = false := (b12.frozen (p := ⟨w.heap.size, 1, none⟩) (by simp)).trans (by simp)
              have d0 := b2.cell (p := ⟨w.heap.size + 1, 0, none⟩) (by simp)
              have d1 := b2.cell (p := ⟨w.heap.size + 1, 1, none⟩) (by simp)
              simp [go_sem] at d0 d1
              go_wp2_with fail
              refine bodyPost_ret (v := .tuple #[.agg #[.int .i64 (t.tdiv (Int.gcd t b)), .int .i64 (b.tdiv (Int.gcd t b))], .bool true]) (by simp [results, Try.results63, go_sem, c0, c1]) rfl ⟨ret_val HF.out.symm, ?_⟩
              exact ((((Below.refl _ _).alloc (Nat.le_refl _) _).trans (b12.mono (by simp))).setCell (by simp) _).setCell (by simp) _
            · have hmx : t < -t := by omega
              have e1 : rt t b = t.tdiv (Int.gcd t b) := if_neg hs
              have e2 : rb t b = b.tdiv (Int.gcd t b) := if_neg hs
              have HF := Lib.hid (show foV t b = .tuple #[.agg #[.int .i64 (t.tdiv (Int.gcd t b)), .int .i64 (b.tdiv (Int.gcd t b))], .bool true] from (fo_yes (by unfold foOk; rw [h0, h1, h2]; rfl)).trans ((show resV t b = .tuple #[.agg #[.int .i64 (t.tdiv (Int.gcd t b)), .int .i64 (b.tdiv (Int.gcd t b))], .bool true] by rw [resV_yes (by rw [rok, e1, e2]; exact hok), e1, e2])))
              clear e1 e2
              have b0 := (Below.refl (w.heap.size + 1) (w.alloc (.cells #[.int .i64 0, .int .i64 0] 35)))
              go_enter Try.func63, Try.ntmps63
              go_wp2_with fail
              refine (specIn _ _ _ _).mono ?_; rintro e w' ⟨rfl, rfl⟩
              go_wp2_with fail
              refine (specIn _ _ _ _).mono ?_; rintro e w' ⟨rfl, rfl⟩
              go_wp2_with fail
              refine (specGcdOf t _ _ _ (by first | exact .inl rfl | exact .inr rfl | (right; omega)) (by omega) (by omega)).mono ?_; rintro e w' ⟨rfl, rfl⟩
              go_wp2_with fail
              go_region
              go_wp2_with fail
              refine (specFractionOk _ _ _).mono ?_; rintro e w2 ⟨rfl, b2⟩
              have b12 : Below (w.heap.size + 1) (w.alloc (.cells #[.int .i64 0, .int .i64 0] 35)) w2 := ((b0.alloc (by simp) _).drew).trans (b2.mono (by simp))
              have c0 : w2.cell? ⟨w.heap.size, 0, none⟩ = some (.int .i64 0) := (b12.cell (p := ⟨w.heap.size, 0, none⟩) (by simp)).trans (by simp)
              have c1 : w2.cell? ⟨w.heap.size, 1, none⟩ = some (.int .i64 0) := (b12.cell (p := ⟨w.heap.size, 1, none⟩) (by simp)).trans (by simp)
              have f0 : w2.frozen? ⟨w.heap.size, 0, none⟩ = false := (b12.frozen (p := ⟨w.heap.size, 0, none⟩) (by simp)).trans (by simp)
              have f1 : w2.frozen? ⟨w.heap.size, 1, none⟩ = false := (b12.frozen (p := ⟨w.heap.size, 1, none⟩) (by simp)).trans (by simp)
              have d0 := b2.cell (p := ⟨w.heap.size + 1, 0, none⟩) (by simp)
              have d1 := b2.cell (p := ⟨w.heap.size + 1, 1, none⟩) (by simp)
              simp [go_sem] at d0 d1
              go_wp2_with fail
              refine bodyPost_ret (v := .tuple #[.agg #[.int .i64 (t.tdiv (Int.gcd t b)), .int .i64 (b.tdiv (Int.gcd t b))], .bool true]) (by simp [results, Try.results63, go_sem, c0, c1]) rfl ⟨ret_val HF.out.symm, ?_⟩
              exact ((((Below.refl _ _).alloc (Nat.le_refl _) _).trans (b12.mono (by simp))).setCell (by simp) _).setCell (by simp) _
theorem specFractionOfX (t b : Int) (w : World) :
    Calls Try.prog 63 #[.int .i64 t, .int .i64 b] w fun e w' => e = .returned (.tuple #[.agg #[.int .i64 (foT t b), .int .i64 (foB t b)], .bool (foR t b)]) ∧ Below w.heap.size w w' := specFractionOf t b w
end Go.Proofs.Ytadacfammhianaa
