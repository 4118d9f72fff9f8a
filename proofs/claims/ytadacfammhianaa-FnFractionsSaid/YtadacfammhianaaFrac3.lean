/- Fractions: the sum, the product and the quotient of two fractions, as the program and the reference compute them. -/
import Derived.Test.YtadacfammhianaaFrac2
namespace Go.Proofs.Ytadacfammhianaa
open Go.RowKit

/-- Three blocks of a call's own: two boxed fractions and the result's. -/
structure Boxes (w : World) (B : Nat) (x1 y1 x2 y2 : Int) : Prop where
  a0 : w.cell? ⟨B, 0, none⟩ = some (.int .i64 x1)
  a1 : w.cell? ⟨B, 1, none⟩ = some (.int .i64 y1)
  b0 : w.cell? ⟨B + 1, 0, none⟩ = some (.int .i64 x2)
  b1 : w.cell? ⟨B + 1, 1, none⟩ = some (.int .i64 y2)
  r0 : w.cell? ⟨B + 1 + 1, 0, none⟩ = some (.int .i64 0)
  r1 : w.cell? ⟨B + 1 + 1, 1, none⟩ = some (.int .i64 0)
  f0 : w.frozen? ⟨B + 1 + 1, 0, none⟩ = false
  f1 : w.frozen? ⟨B + 1 + 1, 1, none⟩ = false
  size : B + 3 ≤ w.heap.size
theorem Boxes.keep {w w' : World} {B : Nat} {x1 y1 x2 y2 : Int} (h : Boxes w B x1 y1 x2 y2) (hb : Below w.heap.size w w') : Boxes w' B x1 y1 x2 y2 :=
  have hs := h.size
  ⟨(hb.cell (p := ⟨B, 0, none⟩) (by simp; omega)).trans h.a0, (hb.cell (p := ⟨B, 1, none⟩) (by simp; omega)).trans h.a1,
   (hb.cell (p := ⟨B + 1, 0, none⟩) (by simp; omega)).trans h.b0, (hb.cell (p := ⟨B + 1, 1, none⟩) (by simp; omega)).trans h.b1,
   (hb.cell (p := ⟨B + 1 + 1, 0, none⟩) (by simp; omega)).trans h.r0, (hb.cell (p := ⟨B + 1 + 1, 1, none⟩) (by simp; omega)).trans h.r1,
   (hb.frozen (p := ⟨B + 1 + 1, 0, none⟩) (by simp; omega)).trans h.f0, (hb.frozen (p := ⟨B + 1 + 1, 1, none⟩) (by simp; omega)).trans h.f1, Nat.le_trans hs hb.size⟩
theorem Boxes.start (w : World) (x1 y1 x2 y2 : Int) :
    Boxes (((w.alloc (.cells #[.int .i64 x1, .int .i64 y1] 35)).alloc (.cells #[.int .i64 x2, .int .i64 y2] 35)).alloc (.cells #[.int .i64 0, .int .i64 0] 35)) w.heap.size x1 y1 x2 y2 := by
  constructor <;> simp [go_sem]
theorem start_below (w : World) (o1 o2 o3 : Obj) : Below w.heap.size w (((w.alloc o1).alloc o2).alloc o3) :=
  ((((Below.refl _ _).alloc (Nat.le_refl _) _).alloc (by simp) _).alloc (by simp; omega) _)
theorem end_below {w w' : World} (h : Below w.heap.size w w') (u v : Value) : Below w.heap.size w ((w'.setCell ⟨w.heap.size + 1 + 1, 0, none⟩ u).setCell ⟨w.heap.size + 1 + 1, 1, none⟩ v) :=
  (h.setCell (by simp; omega) _).setCell (by simp; omega) _
def addV (x1 y1 x2 y2 : Int) : Value := if fracOkP x1 y1 && fracOkP x2 y2 then resV (x1 * y2 + x2 * y1) (y1 * y2) else zeroV
def timesV (x1 y1 x2 y2 : Int) : Value := if fracOkP x1 y1 && fracOkP x2 y2 then resV (x1 * x2) (y1 * y2) else zeroV
def divideV (x1 y1 x2 y2 : Int) : Value := if fracOkP x1 y1 && fracOkP x2 y2 && !(x2 == 0) then resV (x1 * y2) (y1 * x2) else zeroV
theorem mul_bd {a b : Int} (ha : -1000000000 ≤ a ∧ a ≤ 1000000000) (hb : -1000000000 ≤ b ∧ b ≤ 1000000000) : -1000000000000000000 ≤ a * b ∧ a * b ≤ 1000000000000000000 := by
  have h : (a * b).natAbs = a.natAbs * b.natAbs := Int.natAbs_mul a b
  have h1 : a.natAbs * b.natAbs ≤ 1000000000 * 1000000000 := Nat.mul_le_mul (by omega) (by omega)
  omega
theorem mul_ne {a b : Int} (ha : a ≠ 0) (hb : b ≠ 0) : a * b ≠ 0 := Int.mul_ne_zero ha hb
theorem mul_pos' {a b : Int} (ha : 1 ≤ a) (hb : 1 ≤ b) : 1 ≤ a * b := Int.mul_pos ha hb
theorem rok_neg (t b : Int) (h : b < 0) : rt (-t) (-b) = rt t b ∧ rb (-t) (-b) = rb t b := by
  have h1 : ¬ -b < 0 := by omega
  have e1 : rt (-t) (-b) = (-t).tdiv (Int.gcd (-t) (-b)) := if_neg h1
  have e2 : rt t b = -(t.tdiv (Int.gcd t b)) := if_pos h
  have e3 : rb (-t) (-b) = (-b).tdiv (Int.gcd (-t) (-b)) := if_neg h1
  have e4 : rb t b = -(b.tdiv (Int.gcd t b)) := if_pos h
  rw [e1, e2, e3, e4, Int.neg_gcd, Int.gcd_neg, Int.neg_tdiv, Int.neg_tdiv]
  exact ⟨rfl, rfl⟩
theorem resV_neg (t b : Int) (h : b < 0) : resV (-t) (-b) = resV t b := by
  obtain ⟨h1, h2⟩ := rok_neg t b h
  have h3 : rok (-t) (-b) = rok t b := by unfold rok; rw [h1, h2]
  simp only [resV, resT, resB, h1, h2, h3]
theorem implReducedX (t b : Int) (w : World) (ht : -4000000000000000000 ≤ t ∧ t ≤ 4000000000000000000) (hb : -4000000000000000000 ≤ b ∧ b ≤ 4000000000000000000) (h0 : b ≠ 0) :
    Calls Try.prog 47 #[.int .i64 t, .int .i64 b] w fun e w' => e = .returned (.tuple #[.agg #[.int .i64 (resT t b), .int .i64 (resB t b)], .bool (rok t b)]) ∧ Below w.heap.size w w' := implReduced t b w ht hb h0
theorem specMakeX (t b : Int) (w : World) (ht : -4000000000000000000 ≤ t ∧ t ≤ 4000000000000000000) (hb : 1 ≤ b ∧ b ≤ 4000000000000000000) :
    Calls Try.prog 58 #[.int .i64 t, .int .i64 b] w fun e w' => e = .returned (.tuple #[.agg #[.int .i64 (resT t b), .int .i64 (resB t b)], .bool (rok t b)]) ∧ Below w.heap.size w w' := specMake t b w ht hb

set_option maxHeartbeats 1000000 in
theorem specTwo (x1 y1 x2 y2 : Int) (w : World) :
    Calls Try.prog 57 #[.agg #[.int .i64 x1, .int .i64 y1], .agg #[.int .i64 x2, .int .i64 y2]] w fun e w' => e = .returned (.bool (fracOkP x1 y1 && fracOkP x2 y2)) ∧ Below w.heap.size w w' := by
  have hst := ((Below.refl w.heap.size w).alloc (Nat.le_refl _) (.cells #[.int .i64 x1, .int .i64 y1] 35)).alloc (by simp) (.cells #[.int .i64 x2, .int .i64 y2] 35)
  cases h1 : fracOkP x1 y1 with
  | false =>
    go_enter Try.func57, Try.ntmps57
    go_wp2_with fail
    refine (specFractionOk _ _ _).mono ?_; rintro e w1 ⟨rfl, b1⟩
    go_wp2_with fail
    go_ret
    exact ⟨rfl, Below.on hst b1⟩
  | true =>
    go_enter Try.func57, Try.ntmps57
    go_wp2_with fail
    refine (specFractionOk _ _ _).mono ?_; rintro e w1 ⟨rfl, b1⟩
    have c0 : w1.cell? ⟨w.heap.size + 1, 0, none⟩ = some (.int .i64 x2) := (b1.cell (p := ⟨w.heap.size + 1, 0, none⟩) (by simp)).trans (by simp [go_sem])
    have c1 : w1.cell? ⟨w.heap.size + 1, 1, none⟩ = some (.int .i64 y2) := (b1.cell (p := ⟨w.heap.size + 1, 1, none⟩) (by simp)).trans (by simp [go_sem])
    go_wp2_with fail
    refine (specFractionOk _ _ _).mono ?_; rintro e w2 ⟨rfl, b2⟩
    go_wp2_with fail
    go_ret
    exact ⟨rfl, Below.on (Below.on hst b1) b2⟩

set_option maxHeartbeats 2000000 in
theorem implAddFractions (x1 y1 x2 y2 : Int) (w : World) :
    Calls Try.prog 29 #[.agg #[.int .i64 x1, .int .i64 y1], .agg #[.int .i64 x2, .int .i64 y2]] w fun e w' => e = .returned (addV x1 y1 x2 y2) ∧ Below w.heap.size w w' := by
  cases h1 : fracOkP x1 y1 with
  | false =>
    have HF := Lib.hid (show addV x1 y1 x2 y2 = zeroV by simp [addV, h1])
    have bx := Boxes.start w x1 y1 x2 y2
    have bl := start_below w (.cells #[.int .i64 x1, .int .i64 y1] 35) (.cells #[.int .i64 x2, .int .i64 y2] 35) (.cells #[.int .i64 0, .int .i64 0] 35)
    go_enter Try.func29, Try.ntmps29
    go_wp2_with fail
    refine (implFractionOk _ _ _).mono ?_; rintro e w1 ⟨rfl, q⟩
    have bl := Below.on bl q
    have bx := Boxes.keep bx q
    clear q
    obtain ⟨a0, a1, b0, b1, r0, r1, f0, f1, sz⟩ := id bx
    go_wp2_with fail
    refine bodyPost_ret (v := .tuple #[.agg #[.int .i64 0, .int .i64 0], .bool false]) (by simp [results, Try.results29, go_sem, r0, r1]) rfl ⟨ret_val HF.out.symm, end_below bl _ _⟩
  | true =>
    cases h2 : fracOkP x2 y2 with
    | false =>
      have HF := Lib.hid (show addV x1 y1 x2 y2 = zeroV by simp [addV, h1, h2])
      have bx := Boxes.start w x1 y1 x2 y2
      have bl := start_below w (.cells #[.int .i64 x1, .int .i64 y1] 35) (.cells #[.int .i64 x2, .int .i64 y2] 35) (.cells #[.int .i64 0, .int .i64 0] 35)
      go_enter Try.func29, Try.ntmps29
      go_wp2_with fail
      refine (implFractionOk _ _ _).mono ?_; rintro e w1 ⟨rfl, q⟩
      have bl := Below.on bl q
      have bx := Boxes.keep bx q
      clear q
      obtain ⟨a0, a1, b0, b1, r0, r1, f0, f1, sz⟩ := id bx
      go_wp2_with fail
      refine (implFractionOk _ _ _).mono ?_; rintro e w2 ⟨rfl, q⟩
      have bl := Below.on bl q
      have bx := Boxes.keep bx q
      clear q
      obtain ⟨a0, a1, b0, b1, r0, r1, f0, f1, sz⟩ := id bx
      go_wp2_with fail
      refine bodyPost_ret (v := .tuple #[.agg #[.int .i64 0, .int .i64 0], .bool false]) (by simp [results, Try.results29, go_sem, r0, r1]) rfl ⟨ret_val HF.out.symm, end_below bl _ _⟩
    | true =>
      have HF := Lib.hid (show addV x1 y1 x2 y2 = resV (x1 * y2 + x2 * y1) (y1 * y2) by simp [addV, h1, h2])
      obtain ⟨u1, u2, _⟩ := of_fracOk h1
      obtain ⟨v1, v2, _⟩ := of_fracOk h2
      have m1 := mul_bd u1 ⟨by omega, v2.2⟩
      have m2 := mul_bd v1 ⟨by omega, u2.2⟩
      have m3 := mul_bd (a := y1) (b := y2) ⟨by omega, u2.2⟩ ⟨by omega, v2.2⟩
      have m4 := mul_pos' u2.1 v2.1
      have bx := Boxes.start w x1 y1 x2 y2
      have bl := start_below w (.cells #[.int .i64 x1, .int .i64 y1] 35) (.cells #[.int .i64 x2, .int .i64 y2] 35) (.cells #[.int .i64 0, .int .i64 0] 35)
      go_enter Try.func29, Try.ntmps29
      go_wp2_with fail
      refine (implFractionOk _ _ _).mono ?_; rintro e w1 ⟨rfl, q⟩
      have bl := Below.on bl q
      have bx := Boxes.keep bx q
      clear q
      obtain ⟨a0, a1, b0, b1, r0, r1, f0, f1, sz⟩ := id bx
      go_wp2_with fail
      refine (implFractionOk _ _ _).mono ?_; rintro e w2 ⟨rfl, q⟩
      have bl := Below.on bl q
      have bx := Boxes.keep bx q
      clear q
      obtain ⟨a0, a1, b0, b1, r0, r1, f0, f1, sz⟩ := id bx
      go_wp2_with fail
      refine (implReducedX _ _ _ (by omega) (by omega) (by omega)).mono ?_; rintro e w3 ⟨rfl, q⟩
      have bl := Below.on bl q
      have bx := Boxes.keep bx q
      clear q
      obtain ⟨a0, a1, b0, b1, r0, r1, f0, f1, sz⟩ := id bx
      go_wp2_with fail
      refine bodyPost_ret (v := .tuple #[.agg #[.int .i64 (resT (x1 * y2 + x2 * y1) (y1 * y2)), .int .i64 (resB (x1 * y2 + x2 * y1) (y1 * y2))], .bool (rok (x1 * y2 + x2 * y1) (y1 * y2))]) (by simp [results, Try.results29, go_sem, r0, r1]) rfl ⟨ret_val (HF.out.symm), end_below bl _ _⟩

set_option maxHeartbeats 2000000 in
theorem specAddFractions (x1 y1 x2 y2 : Int) (w : World) :
    Calls Try.prog 39 #[.agg #[.int .i64 x1, .int .i64 y1], .agg #[.int .i64 x2, .int .i64 y2]] w fun e w' => e = .returned (addV x1 y1 x2 y2) ∧ Below w.heap.size w w' := by
  cases h1 : fracOkP x1 y1 with
  | false =>
    have HF := Lib.hid (show addV x1 y1 x2 y2 = zeroV by simp [addV, h1])
    have bx := Boxes.start w x1 y1 x2 y2
    have bl := start_below w (.cells #[.int .i64 x1, .int .i64 y1] 35) (.cells #[.int .i64 x2, .int .i64 y2] 35) (.cells #[.int .i64 0, .int .i64 0] 35)
    go_enter Try.func39, Try.ntmps39
    go_wp2_with fail
    refine (specTwo _ _ _ _ _).mono ?_; rintro e w1 ⟨rfl, q⟩
    have bl := Below.on bl q
    have bx := Boxes.keep bx q
    clear q
    obtain ⟨a0, a1, b0, b1, r0, r1, f0, f1, sz⟩ := id bx
    go_wp2_with fail
    refine bodyPost_ret (v := .tuple #[.agg #[.int .i64 0, .int .i64 0], .bool false]) (by simp [results, Try.results39, go_sem, r0, r1]) rfl ⟨ret_val HF.out.symm, end_below bl _ _⟩
  | true =>
    cases h2 : fracOkP x2 y2 with
    | false =>
      have HF := Lib.hid (show addV x1 y1 x2 y2 = zeroV by simp [addV, h1, h2])
      have bx := Boxes.start w x1 y1 x2 y2
      have bl := start_below w (.cells #[.int .i64 x1, .int .i64 y1] 35) (.cells #[.int .i64 x2, .int .i64 y2] 35) (.cells #[.int .i64 0, .int .i64 0] 35)
      go_enter Try.func39, Try.ntmps39
      go_wp2_with fail
      refine (specTwo _ _ _ _ _).mono ?_; rintro e w1 ⟨rfl, q⟩
      have bl := Below.on bl q
      have bx := Boxes.keep bx q
      clear q
      obtain ⟨a0, a1, b0, b1, r0, r1, f0, f1, sz⟩ := id bx
      go_wp2_with fail
      refine bodyPost_ret (v := .tuple #[.agg #[.int .i64 0, .int .i64 0], .bool false]) (by simp [results, Try.results39, go_sem, r0, r1]) rfl ⟨ret_val HF.out.symm, end_below bl _ _⟩
    | true =>
      have HF := Lib.hid (show addV x1 y1 x2 y2 = resV (x1 * y2 + x2 * y1) (y1 * y2) by simp [addV, h1, h2])
      obtain ⟨u1, u2, _⟩ := of_fracOk h1
      obtain ⟨v1, v2, _⟩ := of_fracOk h2
      have m1 := mul_bd u1 ⟨by omega, v2.2⟩
      have m2 := mul_bd v1 ⟨by omega, u2.2⟩
      have m3 := mul_bd (a := y1) (b := y2) ⟨by omega, u2.2⟩ ⟨by omega, v2.2⟩
      have m4 := mul_pos' u2.1 v2.1
      have bx := Boxes.start w x1 y1 x2 y2
      have bl := start_below w (.cells #[.int .i64 x1, .int .i64 y1] 35) (.cells #[.int .i64 x2, .int .i64 y2] 35) (.cells #[.int .i64 0, .int .i64 0] 35)
      go_enter Try.func39, Try.ntmps39
      go_wp2_with fail
      refine (specTwo _ _ _ _ _).mono ?_; rintro e w1 ⟨rfl, q⟩
      have bl := Below.on bl q
      have bx := Boxes.keep bx q
      clear q
      obtain ⟨a0, a1, b0, b1, r0, r1, f0, f1, sz⟩ := id bx
      go_wp2_with fail
      refine (specMakeX _ _ _ (by omega) (by omega)).mono ?_; rintro e w3 ⟨rfl, q⟩
      have bl := Below.on bl q
      have bx := Boxes.keep bx q
      clear q
      obtain ⟨a0, a1, b0, b1, r0, r1, f0, f1, sz⟩ := id bx
      go_wp2_with fail
      refine bodyPost_ret (v := .tuple #[.agg #[.int .i64 (resT (x1 * y2 + x2 * y1) (y1 * y2)), .int .i64 (resB (x1 * y2 + x2 * y1) (y1 * y2))], .bool (rok (x1 * y2 + x2 * y1) (y1 * y2))]) (by simp [results, Try.results39, go_sem, r0, r1]) rfl ⟨ret_val (HF.out.symm), end_below bl _ _⟩

set_option maxHeartbeats 2000000 in
theorem implTimesFractions (x1 y1 x2 y2 : Int) (w : World) :
    Calls Try.prog 30 #[.agg #[.int .i64 x1, .int .i64 y1], .agg #[.int .i64 x2, .int .i64 y2]] w fun e w' => e = .returned (timesV x1 y1 x2 y2) ∧ Below w.heap.size w w' := by
  cases h1 : fracOkP x1 y1 with
  | false =>
    have HF := Lib.hid (show timesV x1 y1 x2 y2 = zeroV by simp [timesV, h1])
    have bx := Boxes.start w x1 y1 x2 y2
    have bl := start_below w (.cells #[.int .i64 x1, .int .i64 y1] 35) (.cells #[.int .i64 x2, .int .i64 y2] 35) (.cells #[.int .i64 0, .int .i64 0] 35)
    go_enter Try.func30, Try.ntmps30
    go_wp2_with fail
    refine (implFractionOk _ _ _).mono ?_; rintro e w1 ⟨rfl, q⟩
    have bl := Below.on bl q
    have bx := Boxes.keep bx q
    clear q
    obtain ⟨a0, a1, b0, b1, r0, r1, f0, f1, sz⟩ := id bx
    go_wp2_with fail
    refine bodyPost_ret (v := .tuple #[.agg #[.int .i64 0, .int .i64 0], .bool false]) (by simp [results, Try.results30, go_sem, r0, r1]) rfl ⟨ret_val HF.out.symm, end_below bl _ _⟩
  | true =>
    cases h2 : fracOkP x2 y2 with
    | false =>
      have HF := Lib.hid (show timesV x1 y1 x2 y2 = zeroV by simp [timesV, h1, h2])
      have bx := Boxes.start w x1 y1 x2 y2
      have bl := start_below w (.cells #[.int .i64 x1, .int .i64 y1] 35) (.cells #[.int .i64 x2, .int .i64 y2] 35) (.cells #[.int .i64 0, .int .i64 0] 35)
      go_enter Try.func30, Try.ntmps30
      go_wp2_with fail
      refine (implFractionOk _ _ _).mono ?_; rintro e w1 ⟨rfl, q⟩
      have bl := Below.on bl q
      have bx := Boxes.keep bx q
      clear q
      obtain ⟨a0, a1, b0, b1, r0, r1, f0, f1, sz⟩ := id bx
      go_wp2_with fail
      refine (implFractionOk _ _ _).mono ?_; rintro e w2 ⟨rfl, q⟩
      have bl := Below.on bl q
      have bx := Boxes.keep bx q
      clear q
      obtain ⟨a0, a1, b0, b1, r0, r1, f0, f1, sz⟩ := id bx
      go_wp2_with fail
      refine bodyPost_ret (v := .tuple #[.agg #[.int .i64 0, .int .i64 0], .bool false]) (by simp [results, Try.results30, go_sem, r0, r1]) rfl ⟨ret_val HF.out.symm, end_below bl _ _⟩
    | true =>
      have HF := Lib.hid (show timesV x1 y1 x2 y2 = resV (x1 * x2) (y1 * y2) by simp [timesV, h1, h2])
      obtain ⟨u1, u2, _⟩ := of_fracOk h1
      obtain ⟨v1, v2, _⟩ := of_fracOk h2
      have m1 := mul_bd u1 v1
      have m3 := mul_bd (a := y1) (b := y2) ⟨by omega, u2.2⟩ ⟨by omega, v2.2⟩
      have m4 := mul_pos' u2.1 v2.1
      have bx := Boxes.start w x1 y1 x2 y2
      have bl := start_below w (.cells #[.int .i64 x1, .int .i64 y1] 35) (.cells #[.int .i64 x2, .int .i64 y2] 35) (.cells #[.int .i64 0, .int .i64 0] 35)
      go_enter Try.func30, Try.ntmps30
      go_wp2_with fail
      refine (implFractionOk _ _ _).mono ?_; rintro e w1 ⟨rfl, q⟩
      have bl := Below.on bl q
      have bx := Boxes.keep bx q
      clear q
      obtain ⟨a0, a1, b0, b1, r0, r1, f0, f1, sz⟩ := id bx
      go_wp2_with fail
      refine (implFractionOk _ _ _).mono ?_; rintro e w2 ⟨rfl, q⟩
      have bl := Below.on bl q
      have bx := Boxes.keep bx q
      clear q
      obtain ⟨a0, a1, b0, b1, r0, r1, f0, f1, sz⟩ := id bx
      go_wp2_with fail
      refine (implReducedX _ _ _ (by omega) (by omega) (by omega)).mono ?_; rintro e w3 ⟨rfl, q⟩
      have bl := Below.on bl q
      have bx := Boxes.keep bx q
      clear q
      obtain ⟨a0, a1, b0, b1, r0, r1, f0, f1, sz⟩ := id bx
      go_wp2_with fail
      refine bodyPost_ret (v := .tuple #[.agg #[.int .i64 (resT (x1 * x2) (y1 * y2)), .int .i64 (resB (x1 * x2) (y1 * y2))], .bool (rok (x1 * x2) (y1 * y2))]) (by simp [results, Try.results30, go_sem, r0, r1]) rfl ⟨ret_val (HF.out.symm), end_below bl _ _⟩

set_option maxHeartbeats 2000000 in
theorem implDivideFractions (x1 y1 x2 y2 : Int) (w : World) :
    Calls Try.prog 32 #[.agg #[.int .i64 x1, .int .i64 y1], .agg #[.int .i64 x2, .int .i64 y2]] w fun e w' => e = .returned (divideV x1 y1 x2 y2) ∧ Below w.heap.size w w' := by
  cases h1 : fracOkP x1 y1 with
  | false =>
    have HF := Lib.hid (show divideV x1 y1 x2 y2 = zeroV by simp [divideV, h1])
    have bx := Boxes.start w x1 y1 x2 y2
    have bl := start_below w (.cells #[.int .i64 x1, .int .i64 y1] 35) (.cells #[.int .i64 x2, .int .i64 y2] 35) (.cells #[.int .i64 0, .int .i64 0] 35)
    go_enter Try.func32, Try.ntmps32
    go_wp2_with fail
    refine (implFractionOk _ _ _).mono ?_; rintro e w1 ⟨rfl, q⟩
    have bl := Below.on bl q
    have bx := Boxes.keep bx q
    clear q
    obtain ⟨a0, a1, b0, b1, r0, r1, f0, f1, sz⟩ := id bx
    go_wp2_with fail
    refine bodyPost_ret (v := .tuple #[.agg #[.int .i64 0, .int .i64 0], .bool false]) (by simp [results, Try.results32, go_sem, r0, r1]) rfl ⟨ret_val HF.out.symm, end_below bl _ _⟩
  | true =>
    cases h2 : fracOkP x2 y2 with
    | false =>
      have HF := Lib.hid (show divideV x1 y1 x2 y2 = zeroV by simp [divideV, h1, h2])
      have bx := Boxes.start w x1 y1 x2 y2
      have bl := start_below w (.cells #[.int .i64 x1, .int .i64 y1] 35) (.cells #[.int .i64 x2, .int .i64 y2] 35) (.cells #[.int .i64 0, .int .i64 0] 35)
      go_enter Try.func32, Try.ntmps32
      go_wp2_with fail
      refine (implFractionOk _ _ _).mono ?_; rintro e w1 ⟨rfl, q⟩
      have bl := Below.on bl q
      have bx := Boxes.keep bx q
      clear q
      obtain ⟨a0, a1, b0, b1, r0, r1, f0, f1, sz⟩ := id bx
      go_wp2_with fail
      refine (implFractionOk _ _ _).mono ?_; rintro e w2 ⟨rfl, q⟩
      have bl := Below.on bl q
      have bx := Boxes.keep bx q
      clear q
      obtain ⟨a0, a1, b0, b1, r0, r1, f0, f1, sz⟩ := id bx
      go_wp2_with fail
      refine bodyPost_ret (v := .tuple #[.agg #[.int .i64 0, .int .i64 0], .bool false]) (by simp [results, Try.results32, go_sem, r0, r1]) rfl ⟨ret_val HF.out.symm, end_below bl _ _⟩
    | true =>
      cases hz : (x2 == 0) with
      | true =>
        have HF := Lib.hid (show divideV x1 y1 x2 y2 = zeroV by simp [divideV, h1, h2, hz])
        have bx := Boxes.start w x1 y1 x2 y2
        have bl := start_below w (.cells #[.int .i64 x1, .int .i64 y1] 35) (.cells #[.int .i64 x2, .int .i64 y2] 35) (.cells #[.int .i64 0, .int .i64 0] 35)
        go_enter Try.func32, Try.ntmps32
        go_wp2_with fail
        refine (implFractionOk _ _ _).mono ?_; rintro e w1 ⟨rfl, q⟩
        have bl := Below.on bl q
        have bx := Boxes.keep bx q
        clear q
        obtain ⟨a0, a1, b0, b1, r0, r1, f0, f1, sz⟩ := id bx
        go_wp2_with fail
        refine (implFractionOk _ _ _).mono ?_; rintro e w2 ⟨rfl, q⟩
        have bl := Below.on bl q
        have bx := Boxes.keep bx q
        clear q
        obtain ⟨a0, a1, b0, b1, r0, r1, f0, f1, sz⟩ := id bx
        go_wp2_with fail
        refine bodyPost_ret (v := .tuple #[.agg #[.int .i64 0, .int .i64 0], .bool false]) (by simp [results, Try.results32, go_sem, r0, r1]) rfl ⟨ret_val HF.out.symm, end_below bl _ _⟩
      | false =>
        have HF := Lib.hid (show divideV x1 y1 x2 y2 = resV (x1 * y2) (y1 * x2) by simp [divideV, h1, h2, hz])
        obtain ⟨u1, u2, _⟩ := of_fracOk h1
        obtain ⟨v1, v2, _⟩ := of_fracOk h2
        have m1 := mul_bd u1 ⟨by omega, v2.2⟩
        have m3 := mul_bd (a := y1) (b := x2) ⟨by omega, u2.2⟩ v1
        have m4 := mul_ne (a := y1) (b := x2) (by omega) (by simpa using hz)
        have bx := Boxes.start w x1 y1 x2 y2
        have bl := start_below w (.cells #[.int .i64 x1, .int .i64 y1] 35) (.cells #[.int .i64 x2, .int .i64 y2] 35) (.cells #[.int .i64 0, .int .i64 0] 35)
        go_enter Try.func32, Try.ntmps32
        go_wp2_with fail
        refine (implFractionOk _ _ _).mono ?_; rintro e w1 ⟨rfl, q⟩
        have bl := Below.on bl q
        have bx := Boxes.keep bx q
        clear q
        obtain ⟨a0, a1, b0, b1, r0, r1, f0, f1, sz⟩ := id bx
        go_wp2_with fail
        refine (implFractionOk _ _ _).mono ?_; rintro e w2 ⟨rfl, q⟩
        have bl := Below.on bl q
        have bx := Boxes.keep bx q
        clear q
        obtain ⟨a0, a1, b0, b1, r0, r1, f0, f1, sz⟩ := id bx
        go_wp2_with fail
        refine (implReducedX _ _ _ (by omega) (by omega) (by omega)).mono ?_; rintro e w3 ⟨rfl, q⟩
        have bl := Below.on bl q
        have bx := Boxes.keep bx q
        clear q
        obtain ⟨a0, a1, b0, b1, r0, r1, f0, f1, sz⟩ := id bx
        go_wp2_with fail
        refine bodyPost_ret (v := .tuple #[.agg #[.int .i64 (resT (x1 * y2) (y1 * x2)), .int .i64 (resB (x1 * y2) (y1 * x2))], .bool (rok (x1 * y2) (y1 * x2))]) (by simp [results, Try.results32, go_sem, r0, r1]) rfl ⟨ret_val (HF.out.symm), end_below bl _ _⟩

end Go.Proofs.Ytadacfammhianaa
