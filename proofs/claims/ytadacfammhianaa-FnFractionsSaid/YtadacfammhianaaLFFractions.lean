/- 'FnFractions': for every input the law returns true, and each argument reads behind the call as before it. No condition. -/
import Derived.Test.YtadacfammhianaaRows
import Derived.Test.YtadacfammhianaaFrame
import Derived.Test.YtadacfammhianaaFrameBytes
import Derived.Test.YtadacfammhianaaDrawF
namespace Go.Proofs.Ytadacfammhianaa.fnFractions
open Go.ChangeShapes Go.WideShapes Go.ChangeAt Go.RowKit Go.Joins Go.Deep
open Go.ChangeMaps (open_string shut_string)
set_option linter.unusedVariables false

set_option maxRecDepth 100000 in
set_option maxHeartbeats 8000000 in
theorem walk (A : Option Addr) (n c : Nat) (z : Unit) (w : World) (hw : Byts w w.heap.size A n ∧ n ≤ c ∧ c ≤ maxLen) :
    Calls Try.prog 8 #[.slice A n c] w fun e w' => e = .returned (.bool true) ∧ Below w.heap.size w w' := by
  obtain ⟨h, hnc, hcm⟩ := hw
  have hcm' : (n : Int) ≤ 9223372036854775807 := by have : maxLen = 9223372036854775807 := rfl; omega
  by_cases hbig : 1048576 < (n : Int)
  · go_enter Try.func8, Try.ntmps8
    go_wp2
    go_ret
    exact ⟨rfl, Below.refl _ _⟩
  have hn : (n : Int) ≤ 1048576 := by omega
  have bl := Below.refl w.heap.size w
  go_enter Try.func8, Try.ntmps8
  go_wp2_with fail
  refine (specMakeF A n c 0 _ h hn (by omega)).mono ?_; rintro e w1 ⟨x1, y1, rfl, hD, b⟩
  have bl := Below.on bl b
  have h := h.on b
  clear b
  have D1 := Lib.hid hD; clear hD
  have b : Below w1.heap.size w1 (w1.alloc (.cells #[.int .i64 x1, .int .i64 y1] 35)) := (Below.refl _ _).alloc (Nat.le_refl _) _
  have bl := Below.on bl b
  have h := h.on b
  clear b
  have cA0 : (w1.alloc (.cells #[.int .i64 x1, .int .i64 y1] 35)).cell? ⟨w1.heap.size, 0, none⟩ = some (.int .i64 x1) := by simp
  have cA1 : (w1.alloc (.cells #[.int .i64 x1, .int .i64 y1] 35)).cell? ⟨w1.heap.size, 1, none⟩ = some (.int .i64 y1) := by simp
  have sA : w1.heap.size < (w1.alloc (.cells #[.int .i64 x1, .int .i64 y1] 35)).heap.size := by simp
  go_wp2_with fail
  generalize w1.alloc (.cells #[.int .i64 x1, .int .i64 y1] 35) = WA at *
  refine (specMakeF A n c 10 _ h hn (by omega)).mono ?_; rintro e w2 ⟨x2, y2, rfl, hD, b⟩
  have bl := Below.on bl b
  have h := h.on b
  have cA0 := (b.cell (p := ⟨w1.heap.size, 0, none⟩) sA).trans cA0
  have cA1 := (b.cell (p := ⟨w1.heap.size, 1, none⟩) sA).trans cA1
  have sA := Nat.lt_of_lt_of_le sA b.size
  clear b
  have D2 := Lib.hid hD; clear hD
  have b : Below w2.heap.size w2 (w2.alloc (.cells #[.int .i64 x2, .int .i64 y2] 35)) := (Below.refl _ _).alloc (Nat.le_refl _) _
  have bl := Below.on bl b
  have h := h.on b
  have cA0 := (b.cell (p := ⟨w1.heap.size, 0, none⟩) sA).trans cA0
  have cA1 := (b.cell (p := ⟨w1.heap.size, 1, none⟩) sA).trans cA1
  have sA := Nat.lt_of_lt_of_le sA b.size
  clear b
  have cB0 : (w2.alloc (.cells #[.int .i64 x2, .int .i64 y2] 35)).cell? ⟨w2.heap.size, 0, none⟩ = some (.int .i64 x2) := by simp
  have cB1 : (w2.alloc (.cells #[.int .i64 x2, .int .i64 y2] 35)).cell? ⟨w2.heap.size, 1, none⟩ = some (.int .i64 y2) := by simp
  have sB : w2.heap.size < (w2.alloc (.cells #[.int .i64 x2, .int .i64 y2] 35)).heap.size := by simp
  go_wp2_with fail
  generalize w2.alloc (.cells #[.int .i64 x2, .int .i64 y2] 35) = WB at *
  refine (specMakeF A n c 20 _ h hn (by omega)).mono ?_; rintro e w3 ⟨x3, y3, rfl, hD, b⟩
  have bl := Below.on bl b
  have h := h.on b
  have cA0 := (b.cell (p := ⟨w1.heap.size, 0, none⟩) sA).trans cA0
  have cA1 := (b.cell (p := ⟨w1.heap.size, 1, none⟩) sA).trans cA1
  have sA := Nat.lt_of_lt_of_le sA b.size
  have cB0 := (b.cell (p := ⟨w2.heap.size, 0, none⟩) sB).trans cB0
  have cB1 := (b.cell (p := ⟨w2.heap.size, 1, none⟩) sB).trans cB1
  have sB := Nat.lt_of_lt_of_le sB b.size
  clear b
  have D3 := Lib.hid hD; clear hD
  clear h hnc hcm hcm'
  have b : Below w3.heap.size w3 (w3.alloc (.cells #[.int .i64 x3, .int .i64 y3] 35)) := (Below.refl _ _).alloc (Nat.le_refl _) _
  have bl := Below.on bl b
  have cA0 := (b.cell (p := ⟨w1.heap.size, 0, none⟩) sA).trans cA0
  have cA1 := (b.cell (p := ⟨w1.heap.size, 1, none⟩) sA).trans cA1
  have sA := Nat.lt_of_lt_of_le sA b.size
  have cB0 := (b.cell (p := ⟨w2.heap.size, 0, none⟩) sB).trans cB0
  have cB1 := (b.cell (p := ⟨w2.heap.size, 1, none⟩) sB).trans cB1
  have sB := Nat.lt_of_lt_of_le sB b.size
  clear b
  have cC0 : (w3.alloc (.cells #[.int .i64 x3, .int .i64 y3] 35)).cell? ⟨w3.heap.size, 0, none⟩ = some (.int .i64 x3) := by simp
  have cC1 : (w3.alloc (.cells #[.int .i64 x3, .int .i64 y3] 35)).cell? ⟨w3.heap.size, 1, none⟩ = some (.int .i64 y3) := by simp
  have sC : w3.heap.size < (w3.alloc (.cells #[.int .i64 x3, .int .i64 y3] 35)).heap.size := by simp
  go_wp2_with fail
  generalize w3.alloc (.cells #[.int .i64 x3, .int .i64 y3] 35) = WC at *
  obtain ⟨s, sb, p, q, u, v, f, g, k1, k2, k3, k4, k5, k6, k7⟩ := frac_plan D1.out D2.out D3.out
  have K1 := Lib.hid k1; have K2 := Lib.hid k2; have K3 := Lib.hid k3; have K4 := Lib.hid k4; have K5 := Lib.hid k5; have K6 := Lib.hid k6; have K7 := Lib.hid k7
  clear k1 k2 k3 k4 k5 k6 k7
  refine (implAddX x1 y1 x2 y2 _).mono ?_; rintro e w4 ⟨rfl, b⟩
  rw [K1.out.1, K1.out.2.1, K1.out.2.2]
  have bl := Below.on bl b
  have cA0 := (b.cell (p := ⟨w1.heap.size, 0, none⟩) sA).trans cA0
  have cA1 := (b.cell (p := ⟨w1.heap.size, 1, none⟩) sA).trans cA1
  have sA := Nat.lt_of_lt_of_le sA b.size
  have cB0 := (b.cell (p := ⟨w2.heap.size, 0, none⟩) sB).trans cB0
  have cB1 := (b.cell (p := ⟨w2.heap.size, 1, none⟩) sB).trans cB1
  have sB := Nat.lt_of_lt_of_le sB b.size
  have cC0 := (b.cell (p := ⟨w3.heap.size, 0, none⟩) sC).trans cC0
  have cC1 := (b.cell (p := ⟨w3.heap.size, 1, none⟩) sC).trans cC1
  have sC := Nat.lt_of_lt_of_le sC b.size
  clear b
  have b : Below w4.heap.size w4 (w4.alloc (.cells #[.int .i64 s, .int .i64 sb] 35)) := (Below.refl _ _).alloc (Nat.le_refl _) _
  have bl := Below.on bl b
  have cA0 := (b.cell (p := ⟨w1.heap.size, 0, none⟩) sA).trans cA0
  have cA1 := (b.cell (p := ⟨w1.heap.size, 1, none⟩) sA).trans cA1
  have sA := Nat.lt_of_lt_of_le sA b.size
  have cB0 := (b.cell (p := ⟨w2.heap.size, 0, none⟩) sB).trans cB0
  have cB1 := (b.cell (p := ⟨w2.heap.size, 1, none⟩) sB).trans cB1
  have sB := Nat.lt_of_lt_of_le sB b.size
  have cC0 := (b.cell (p := ⟨w3.heap.size, 0, none⟩) sC).trans cC0
  have cC1 := (b.cell (p := ⟨w3.heap.size, 1, none⟩) sC).trans cC1
  have sC := Nat.lt_of_lt_of_le sC b.size
  clear b
  have cS0 : (w4.alloc (.cells #[.int .i64 s, .int .i64 sb] 35)).cell? ⟨w4.heap.size, 0, none⟩ = some (.int .i64 s) := by simp
  have cS1 : (w4.alloc (.cells #[.int .i64 s, .int .i64 sb] 35)).cell? ⟨w4.heap.size, 1, none⟩ = some (.int .i64 sb) := by simp
  have sS : w4.heap.size < (w4.alloc (.cells #[.int .i64 s, .int .i64 sb] 35)).heap.size := by simp
  go_wp2_with fail
  generalize w4.alloc (.cells #[.int .i64 s, .int .i64 sb] 35) = WS at *
  refine (implTimesX s sb x3 y3 _).mono ?_; rintro e w5 ⟨rfl, b⟩
  rw [K2.out.1, K2.out.2.1, K2.out.2.2]
  have bl := Below.on bl b
  have cA0 := (b.cell (p := ⟨w1.heap.size, 0, none⟩) sA).trans cA0
  have cA1 := (b.cell (p := ⟨w1.heap.size, 1, none⟩) sA).trans cA1
  have sA := Nat.lt_of_lt_of_le sA b.size
  have cB0 := (b.cell (p := ⟨w2.heap.size, 0, none⟩) sB).trans cB0
  have cB1 := (b.cell (p := ⟨w2.heap.size, 1, none⟩) sB).trans cB1
  have sB := Nat.lt_of_lt_of_le sB b.size
  have cC0 := (b.cell (p := ⟨w3.heap.size, 0, none⟩) sC).trans cC0
  have cC1 := (b.cell (p := ⟨w3.heap.size, 1, none⟩) sC).trans cC1
  have sC := Nat.lt_of_lt_of_le sC b.size
  have cS0 := (b.cell (p := ⟨w4.heap.size, 0, none⟩) sS).trans cS0
  have cS1 := (b.cell (p := ⟨w4.heap.size, 1, none⟩) sS).trans cS1
  have sS := Nat.lt_of_lt_of_le sS b.size
  clear b
  have b : Below w5.heap.size w5 (w5.alloc (.cells #[.int .i64 p, .int .i64 q] 35)) := (Below.refl _ _).alloc (Nat.le_refl _) _
  have bl := Below.on bl b
  have cA0 := (b.cell (p := ⟨w1.heap.size, 0, none⟩) sA).trans cA0
  have cA1 := (b.cell (p := ⟨w1.heap.size, 1, none⟩) sA).trans cA1
  have sA := Nat.lt_of_lt_of_le sA b.size
  have cB0 := (b.cell (p := ⟨w2.heap.size, 0, none⟩) sB).trans cB0
  have cB1 := (b.cell (p := ⟨w2.heap.size, 1, none⟩) sB).trans cB1
  have sB := Nat.lt_of_lt_of_le sB b.size
  have cC0 := (b.cell (p := ⟨w3.heap.size, 0, none⟩) sC).trans cC0
  have cC1 := (b.cell (p := ⟨w3.heap.size, 1, none⟩) sC).trans cC1
  have sC := Nat.lt_of_lt_of_le sC b.size
  have cS0 := (b.cell (p := ⟨w4.heap.size, 0, none⟩) sS).trans cS0
  have cS1 := (b.cell (p := ⟨w4.heap.size, 1, none⟩) sS).trans cS1
  have sS := Nat.lt_of_lt_of_le sS b.size
  clear b
  have cP0 : (w5.alloc (.cells #[.int .i64 p, .int .i64 q] 35)).cell? ⟨w5.heap.size, 0, none⟩ = some (.int .i64 p) := by simp
  have cP1 : (w5.alloc (.cells #[.int .i64 p, .int .i64 q] 35)).cell? ⟨w5.heap.size, 1, none⟩ = some (.int .i64 q) := by simp
  have sP : w5.heap.size < (w5.alloc (.cells #[.int .i64 p, .int .i64 q] 35)).heap.size := by simp
  go_wp2_with fail
  generalize w5.alloc (.cells #[.int .i64 p, .int .i64 q] 35) = WP at *
  refine (implTimesX x1 y1 x3 y3 _).mono ?_; rintro e w6 ⟨rfl, b⟩
  rw [K3.out.1, K3.out.2.1, K3.out.2.2]
  have bl := Below.on bl b
  have cA0 := (b.cell (p := ⟨w1.heap.size, 0, none⟩) sA).trans cA0
  have cA1 := (b.cell (p := ⟨w1.heap.size, 1, none⟩) sA).trans cA1
  have sA := Nat.lt_of_lt_of_le sA b.size
  have cB0 := (b.cell (p := ⟨w2.heap.size, 0, none⟩) sB).trans cB0
  have cB1 := (b.cell (p := ⟨w2.heap.size, 1, none⟩) sB).trans cB1
  have sB := Nat.lt_of_lt_of_le sB b.size
  have cC0 := (b.cell (p := ⟨w3.heap.size, 0, none⟩) sC).trans cC0
  have cC1 := (b.cell (p := ⟨w3.heap.size, 1, none⟩) sC).trans cC1
  have sC := Nat.lt_of_lt_of_le sC b.size
  have cS0 := (b.cell (p := ⟨w4.heap.size, 0, none⟩) sS).trans cS0
  have cS1 := (b.cell (p := ⟨w4.heap.size, 1, none⟩) sS).trans cS1
  have sS := Nat.lt_of_lt_of_le sS b.size
  have cP0 := (b.cell (p := ⟨w5.heap.size, 0, none⟩) sP).trans cP0
  have cP1 := (b.cell (p := ⟨w5.heap.size, 1, none⟩) sP).trans cP1
  have sP := Nat.lt_of_lt_of_le sP b.size
  clear b
  have b : Below w6.heap.size w6 (w6.alloc (.cells #[.int .i64 u, .int .i64 v] 35)) := (Below.refl _ _).alloc (Nat.le_refl _) _
  have bl := Below.on bl b
  have cA0 := (b.cell (p := ⟨w1.heap.size, 0, none⟩) sA).trans cA0
  have cA1 := (b.cell (p := ⟨w1.heap.size, 1, none⟩) sA).trans cA1
  have sA := Nat.lt_of_lt_of_le sA b.size
  have cB0 := (b.cell (p := ⟨w2.heap.size, 0, none⟩) sB).trans cB0
  have cB1 := (b.cell (p := ⟨w2.heap.size, 1, none⟩) sB).trans cB1
  have sB := Nat.lt_of_lt_of_le sB b.size
  have cC0 := (b.cell (p := ⟨w3.heap.size, 0, none⟩) sC).trans cC0
  have cC1 := (b.cell (p := ⟨w3.heap.size, 1, none⟩) sC).trans cC1
  have sC := Nat.lt_of_lt_of_le sC b.size
  have cS0 := (b.cell (p := ⟨w4.heap.size, 0, none⟩) sS).trans cS0
  have cS1 := (b.cell (p := ⟨w4.heap.size, 1, none⟩) sS).trans cS1
  have sS := Nat.lt_of_lt_of_le sS b.size
  have cP0 := (b.cell (p := ⟨w5.heap.size, 0, none⟩) sP).trans cP0
  have cP1 := (b.cell (p := ⟨w5.heap.size, 1, none⟩) sP).trans cP1
  have sP := Nat.lt_of_lt_of_le sP b.size
  clear b
  have cU0 : (w6.alloc (.cells #[.int .i64 u, .int .i64 v] 35)).cell? ⟨w6.heap.size, 0, none⟩ = some (.int .i64 u) := by simp
  have cU1 : (w6.alloc (.cells #[.int .i64 u, .int .i64 v] 35)).cell? ⟨w6.heap.size, 1, none⟩ = some (.int .i64 v) := by simp
  have sU : w6.heap.size < (w6.alloc (.cells #[.int .i64 u, .int .i64 v] 35)).heap.size := by simp
  go_wp2_with fail
  generalize w6.alloc (.cells #[.int .i64 u, .int .i64 v] 35) = WU at *
  refine (implTimesX x2 y2 x3 y3 _).mono ?_; rintro e w7 ⟨rfl, b⟩
  rw [K4.out.1, K4.out.2.1, K4.out.2.2]
  have bl := Below.on bl b
  have cA0 := (b.cell (p := ⟨w1.heap.size, 0, none⟩) sA).trans cA0
  have cA1 := (b.cell (p := ⟨w1.heap.size, 1, none⟩) sA).trans cA1
  have sA := Nat.lt_of_lt_of_le sA b.size
  have cB0 := (b.cell (p := ⟨w2.heap.size, 0, none⟩) sB).trans cB0
  have cB1 := (b.cell (p := ⟨w2.heap.size, 1, none⟩) sB).trans cB1
  have sB := Nat.lt_of_lt_of_le sB b.size
  have cC0 := (b.cell (p := ⟨w3.heap.size, 0, none⟩) sC).trans cC0
  have cC1 := (b.cell (p := ⟨w3.heap.size, 1, none⟩) sC).trans cC1
  have sC := Nat.lt_of_lt_of_le sC b.size
  have cS0 := (b.cell (p := ⟨w4.heap.size, 0, none⟩) sS).trans cS0
  have cS1 := (b.cell (p := ⟨w4.heap.size, 1, none⟩) sS).trans cS1
  have sS := Nat.lt_of_lt_of_le sS b.size
  have cP0 := (b.cell (p := ⟨w5.heap.size, 0, none⟩) sP).trans cP0
  have cP1 := (b.cell (p := ⟨w5.heap.size, 1, none⟩) sP).trans cP1
  have sP := Nat.lt_of_lt_of_le sP b.size
  have cU0 := (b.cell (p := ⟨w6.heap.size, 0, none⟩) sU).trans cU0
  have cU1 := (b.cell (p := ⟨w6.heap.size, 1, none⟩) sU).trans cU1
  have sU := Nat.lt_of_lt_of_le sU b.size
  clear b
  have b : Below w7.heap.size w7 (w7.alloc (.cells #[.int .i64 f, .int .i64 g] 35)) := (Below.refl _ _).alloc (Nat.le_refl _) _
  have bl := Below.on bl b
  have cA0 := (b.cell (p := ⟨w1.heap.size, 0, none⟩) sA).trans cA0
  have cA1 := (b.cell (p := ⟨w1.heap.size, 1, none⟩) sA).trans cA1
  have sA := Nat.lt_of_lt_of_le sA b.size
  have cB0 := (b.cell (p := ⟨w2.heap.size, 0, none⟩) sB).trans cB0
  have cB1 := (b.cell (p := ⟨w2.heap.size, 1, none⟩) sB).trans cB1
  have sB := Nat.lt_of_lt_of_le sB b.size
  have cC0 := (b.cell (p := ⟨w3.heap.size, 0, none⟩) sC).trans cC0
  have cC1 := (b.cell (p := ⟨w3.heap.size, 1, none⟩) sC).trans cC1
  have sC := Nat.lt_of_lt_of_le sC b.size
  have cS0 := (b.cell (p := ⟨w4.heap.size, 0, none⟩) sS).trans cS0
  have cS1 := (b.cell (p := ⟨w4.heap.size, 1, none⟩) sS).trans cS1
  have sS := Nat.lt_of_lt_of_le sS b.size
  have cP0 := (b.cell (p := ⟨w5.heap.size, 0, none⟩) sP).trans cP0
  have cP1 := (b.cell (p := ⟨w5.heap.size, 1, none⟩) sP).trans cP1
  have sP := Nat.lt_of_lt_of_le sP b.size
  have cU0 := (b.cell (p := ⟨w6.heap.size, 0, none⟩) sU).trans cU0
  have cU1 := (b.cell (p := ⟨w6.heap.size, 1, none⟩) sU).trans cU1
  have sU := Nat.lt_of_lt_of_le sU b.size
  clear b
  have cV0 : (w7.alloc (.cells #[.int .i64 f, .int .i64 g] 35)).cell? ⟨w7.heap.size, 0, none⟩ = some (.int .i64 f) := by simp
  have cV1 : (w7.alloc (.cells #[.int .i64 f, .int .i64 g] 35)).cell? ⟨w7.heap.size, 1, none⟩ = some (.int .i64 g) := by simp
  have sV : w7.heap.size < (w7.alloc (.cells #[.int .i64 f, .int .i64 g] 35)).heap.size := by simp
  go_wp2_with fail
  generalize w7.alloc (.cells #[.int .i64 f, .int .i64 g] 35) = WV at *
  refine (implAddX u v f g _).mono ?_; rintro e w8 ⟨rfl, b⟩
  rw [K5.out.1, K5.out.2.1, K5.out.2.2]
  have bl := Below.on bl b
  have cA0 := (b.cell (p := ⟨w1.heap.size, 0, none⟩) sA).trans cA0
  have cA1 := (b.cell (p := ⟨w1.heap.size, 1, none⟩) sA).trans cA1
  have sA := Nat.lt_of_lt_of_le sA b.size
  have cB0 := (b.cell (p := ⟨w2.heap.size, 0, none⟩) sB).trans cB0
  have cB1 := (b.cell (p := ⟨w2.heap.size, 1, none⟩) sB).trans cB1
  have sB := Nat.lt_of_lt_of_le sB b.size
  have cC0 := (b.cell (p := ⟨w3.heap.size, 0, none⟩) sC).trans cC0
  have cC1 := (b.cell (p := ⟨w3.heap.size, 1, none⟩) sC).trans cC1
  have sC := Nat.lt_of_lt_of_le sC b.size
  have cS0 := (b.cell (p := ⟨w4.heap.size, 0, none⟩) sS).trans cS0
  have cS1 := (b.cell (p := ⟨w4.heap.size, 1, none⟩) sS).trans cS1
  have sS := Nat.lt_of_lt_of_le sS b.size
  have cP0 := (b.cell (p := ⟨w5.heap.size, 0, none⟩) sP).trans cP0
  have cP1 := (b.cell (p := ⟨w5.heap.size, 1, none⟩) sP).trans cP1
  have sP := Nat.lt_of_lt_of_le sP b.size
  have cU0 := (b.cell (p := ⟨w6.heap.size, 0, none⟩) sU).trans cU0
  have cU1 := (b.cell (p := ⟨w6.heap.size, 1, none⟩) sU).trans cU1
  have sU := Nat.lt_of_lt_of_le sU b.size
  have cV0 := (b.cell (p := ⟨w7.heap.size, 0, none⟩) sV).trans cV0
  have cV1 := (b.cell (p := ⟨w7.heap.size, 1, none⟩) sV).trans cV1
  have sV := Nat.lt_of_lt_of_le sV b.size
  clear b
  have b : Below w8.heap.size w8 (w8.alloc (.cells #[.int .i64 p, .int .i64 q] 35)) := (Below.refl _ _).alloc (Nat.le_refl _) _
  have bl := Below.on bl b
  have cA0 := (b.cell (p := ⟨w1.heap.size, 0, none⟩) sA).trans cA0
  have cA1 := (b.cell (p := ⟨w1.heap.size, 1, none⟩) sA).trans cA1
  have sA := Nat.lt_of_lt_of_le sA b.size
  have cB0 := (b.cell (p := ⟨w2.heap.size, 0, none⟩) sB).trans cB0
  have cB1 := (b.cell (p := ⟨w2.heap.size, 1, none⟩) sB).trans cB1
  have sB := Nat.lt_of_lt_of_le sB b.size
  have cC0 := (b.cell (p := ⟨w3.heap.size, 0, none⟩) sC).trans cC0
  have cC1 := (b.cell (p := ⟨w3.heap.size, 1, none⟩) sC).trans cC1
  have sC := Nat.lt_of_lt_of_le sC b.size
  have cS0 := (b.cell (p := ⟨w4.heap.size, 0, none⟩) sS).trans cS0
  have cS1 := (b.cell (p := ⟨w4.heap.size, 1, none⟩) sS).trans cS1
  have sS := Nat.lt_of_lt_of_le sS b.size
  have cP0 := (b.cell (p := ⟨w5.heap.size, 0, none⟩) sP).trans cP0
  have cP1 := (b.cell (p := ⟨w5.heap.size, 1, none⟩) sP).trans cP1
  have sP := Nat.lt_of_lt_of_le sP b.size
  have cU0 := (b.cell (p := ⟨w6.heap.size, 0, none⟩) sU).trans cU0
  have cU1 := (b.cell (p := ⟨w6.heap.size, 1, none⟩) sU).trans cU1
  have sU := Nat.lt_of_lt_of_le sU b.size
  have cV0 := (b.cell (p := ⟨w7.heap.size, 0, none⟩) sV).trans cV0
  have cV1 := (b.cell (p := ⟨w7.heap.size, 1, none⟩) sV).trans cV1
  have sV := Nat.lt_of_lt_of_le sV b.size
  clear b
  have cQ0 : (w8.alloc (.cells #[.int .i64 p, .int .i64 q] 35)).cell? ⟨w8.heap.size, 0, none⟩ = some (.int .i64 p) := by simp
  have cQ1 : (w8.alloc (.cells #[.int .i64 p, .int .i64 q] 35)).cell? ⟨w8.heap.size, 1, none⟩ = some (.int .i64 q) := by simp
  have sQ : w8.heap.size < (w8.alloc (.cells #[.int .i64 p, .int .i64 q] 35)).heap.size := by simp
  have HZ : Hid ((w8.alloc (.cells #[.int .i64 p, .int .i64 q] 35)).heap.size = w8.heap.size + 1) := by rw [Hid]; simp
  go_wp2_with fail
  generalize w8.alloc (.cells #[.int .i64 p, .int .i64 q] 35) = WQ at *
  --SUM
  have b : Below WQ.heap.size WQ (WQ.alloc (.cells #[.int .i64 x2, .int .i64 y2, .int .i64 x1, .int .i64 y1] 35)) := (Below.refl _ _).alloc (Nat.le_refl _) _
  have bl := Below.on bl b
  have cA0 := (b.cell (p := ⟨w1.heap.size, 0, none⟩) sA).trans cA0
  have cA1 := (b.cell (p := ⟨w1.heap.size, 1, none⟩) sA).trans cA1
  have sA := Nat.lt_of_lt_of_le sA b.size
  have cB0 := (b.cell (p := ⟨w2.heap.size, 0, none⟩) sB).trans cB0
  have cB1 := (b.cell (p := ⟨w2.heap.size, 1, none⟩) sB).trans cB1
  have sB := Nat.lt_of_lt_of_le sB b.size
  have cC0 := (b.cell (p := ⟨w3.heap.size, 0, none⟩) sC).trans cC0
  have cC1 := (b.cell (p := ⟨w3.heap.size, 1, none⟩) sC).trans cC1
  have sC := Nat.lt_of_lt_of_le sC b.size
  have cS0 := (b.cell (p := ⟨w4.heap.size, 0, none⟩) sS).trans cS0
  have cS1 := (b.cell (p := ⟨w4.heap.size, 1, none⟩) sS).trans cS1
  have sS := Nat.lt_of_lt_of_le sS b.size
  have cP0 := (b.cell (p := ⟨w5.heap.size, 0, none⟩) sP).trans cP0
  have cP1 := (b.cell (p := ⟨w5.heap.size, 1, none⟩) sP).trans cP1
  have sP := Nat.lt_of_lt_of_le sP b.size
  have cU0 := (b.cell (p := ⟨w6.heap.size, 0, none⟩) sU).trans cU0
  have cU1 := (b.cell (p := ⟨w6.heap.size, 1, none⟩) sU).trans cU1
  have sU := Nat.lt_of_lt_of_le sU b.size
  have cV0 := (b.cell (p := ⟨w7.heap.size, 0, none⟩) sV).trans cV0
  have cV1 := (b.cell (p := ⟨w7.heap.size, 1, none⟩) sV).trans cV1
  have sV := Nat.lt_of_lt_of_le sV b.size
  have cQ0 := (b.cell (p := ⟨w8.heap.size, 0, none⟩) sQ).trans cQ0
  have cQ1 := (b.cell (p := ⟨w8.heap.size, 1, none⟩) sQ).trans cQ1
  have sQ := Nat.lt_of_lt_of_le sQ b.size
  clear b
  refine (implSum (some ⟨w8.heap.size + 1, 0, none⟩) 2 2 [(x2, y2), (x1, y1)] _ (pairs_two' HZ.out x2 y2 x1 y1) (by omega)).mono ?_; rintro e w9 ⟨rfl, b⟩
  rw [K6.out.1, K6.out.2.1, K6.out.2.2]
  have bl := Below.on bl b
  have cA0 := (b.cell (p := ⟨w1.heap.size, 0, none⟩) sA).trans cA0
  have cA1 := (b.cell (p := ⟨w1.heap.size, 1, none⟩) sA).trans cA1
  have sA := Nat.lt_of_lt_of_le sA b.size
  have cB0 := (b.cell (p := ⟨w2.heap.size, 0, none⟩) sB).trans cB0
  have cB1 := (b.cell (p := ⟨w2.heap.size, 1, none⟩) sB).trans cB1
  have sB := Nat.lt_of_lt_of_le sB b.size
  have cC0 := (b.cell (p := ⟨w3.heap.size, 0, none⟩) sC).trans cC0
  have cC1 := (b.cell (p := ⟨w3.heap.size, 1, none⟩) sC).trans cC1
  have sC := Nat.lt_of_lt_of_le sC b.size
  have cS0 := (b.cell (p := ⟨w4.heap.size, 0, none⟩) sS).trans cS0
  have cS1 := (b.cell (p := ⟨w4.heap.size, 1, none⟩) sS).trans cS1
  have sS := Nat.lt_of_lt_of_le sS b.size
  have cP0 := (b.cell (p := ⟨w5.heap.size, 0, none⟩) sP).trans cP0
  have cP1 := (b.cell (p := ⟨w5.heap.size, 1, none⟩) sP).trans cP1
  have sP := Nat.lt_of_lt_of_le sP b.size
  have cU0 := (b.cell (p := ⟨w6.heap.size, 0, none⟩) sU).trans cU0
  have cU1 := (b.cell (p := ⟨w6.heap.size, 1, none⟩) sU).trans cU1
  have sU := Nat.lt_of_lt_of_le sU b.size
  have cV0 := (b.cell (p := ⟨w7.heap.size, 0, none⟩) sV).trans cV0
  have cV1 := (b.cell (p := ⟨w7.heap.size, 1, none⟩) sV).trans cV1
  have sV := Nat.lt_of_lt_of_le sV b.size
  have cQ0 := (b.cell (p := ⟨w8.heap.size, 0, none⟩) sQ).trans cQ0
  have cQ1 := (b.cell (p := ⟨w8.heap.size, 1, none⟩) sQ).trans cQ1
  have sQ := Nat.lt_of_lt_of_le sQ b.size
  clear b
  have b : Below w9.heap.size w9 (w9.alloc (.cells #[.int .i64 s, .int .i64 sb] 35)) := (Below.refl _ _).alloc (Nat.le_refl _) _
  have bl := Below.on bl b
  have cA0 := (b.cell (p := ⟨w1.heap.size, 0, none⟩) sA).trans cA0
  have cA1 := (b.cell (p := ⟨w1.heap.size, 1, none⟩) sA).trans cA1
  have sA := Nat.lt_of_lt_of_le sA b.size
  have cB0 := (b.cell (p := ⟨w2.heap.size, 0, none⟩) sB).trans cB0
  have cB1 := (b.cell (p := ⟨w2.heap.size, 1, none⟩) sB).trans cB1
  have sB := Nat.lt_of_lt_of_le sB b.size
  have cC0 := (b.cell (p := ⟨w3.heap.size, 0, none⟩) sC).trans cC0
  have cC1 := (b.cell (p := ⟨w3.heap.size, 1, none⟩) sC).trans cC1
  have sC := Nat.lt_of_lt_of_le sC b.size
  have cS0 := (b.cell (p := ⟨w4.heap.size, 0, none⟩) sS).trans cS0
  have cS1 := (b.cell (p := ⟨w4.heap.size, 1, none⟩) sS).trans cS1
  have sS := Nat.lt_of_lt_of_le sS b.size
  have cP0 := (b.cell (p := ⟨w5.heap.size, 0, none⟩) sP).trans cP0
  have cP1 := (b.cell (p := ⟨w5.heap.size, 1, none⟩) sP).trans cP1
  have sP := Nat.lt_of_lt_of_le sP b.size
  have cU0 := (b.cell (p := ⟨w6.heap.size, 0, none⟩) sU).trans cU0
  have cU1 := (b.cell (p := ⟨w6.heap.size, 1, none⟩) sU).trans cU1
  have sU := Nat.lt_of_lt_of_le sU b.size
  have cV0 := (b.cell (p := ⟨w7.heap.size, 0, none⟩) sV).trans cV0
  have cV1 := (b.cell (p := ⟨w7.heap.size, 1, none⟩) sV).trans cV1
  have sV := Nat.lt_of_lt_of_le sV b.size
  have cQ0 := (b.cell (p := ⟨w8.heap.size, 0, none⟩) sQ).trans cQ0
  have cQ1 := (b.cell (p := ⟨w8.heap.size, 1, none⟩) sQ).trans cQ1
  have sQ := Nat.lt_of_lt_of_le sQ b.size
  clear b
  have cT0 : (w9.alloc (.cells #[.int .i64 s, .int .i64 sb] 35)).cell? ⟨w9.heap.size, 0, none⟩ = some (.int .i64 s) := by simp
  have cT1 : (w9.alloc (.cells #[.int .i64 s, .int .i64 sb] 35)).cell? ⟨w9.heap.size, 1, none⟩ = some (.int .i64 sb) := by simp
  have sT : w9.heap.size < (w9.alloc (.cells #[.int .i64 s, .int .i64 sb] 35)).heap.size := by simp
  go_wp2_with fail
  generalize w9.alloc (.cells #[.int .i64 s, .int .i64 sb] 35) = WT at *
  refine (implFractionOk p q _).mono ?_; rintro e w10 ⟨rfl, b⟩
  rw [K7.out]
  have bl := Below.on bl b
  have cA0 := (b.cell (p := ⟨w1.heap.size, 0, none⟩) sA).trans cA0
  have cA1 := (b.cell (p := ⟨w1.heap.size, 1, none⟩) sA).trans cA1
  have sA := Nat.lt_of_lt_of_le sA b.size
  have cB0 := (b.cell (p := ⟨w2.heap.size, 0, none⟩) sB).trans cB0
  have cB1 := (b.cell (p := ⟨w2.heap.size, 1, none⟩) sB).trans cB1
  have sB := Nat.lt_of_lt_of_le sB b.size
  have cC0 := (b.cell (p := ⟨w3.heap.size, 0, none⟩) sC).trans cC0
  have cC1 := (b.cell (p := ⟨w3.heap.size, 1, none⟩) sC).trans cC1
  have sC := Nat.lt_of_lt_of_le sC b.size
  have cS0 := (b.cell (p := ⟨w4.heap.size, 0, none⟩) sS).trans cS0
  have cS1 := (b.cell (p := ⟨w4.heap.size, 1, none⟩) sS).trans cS1
  have sS := Nat.lt_of_lt_of_le sS b.size
  have cP0 := (b.cell (p := ⟨w5.heap.size, 0, none⟩) sP).trans cP0
  have cP1 := (b.cell (p := ⟨w5.heap.size, 1, none⟩) sP).trans cP1
  have sP := Nat.lt_of_lt_of_le sP b.size
  have cU0 := (b.cell (p := ⟨w6.heap.size, 0, none⟩) sU).trans cU0
  have cU1 := (b.cell (p := ⟨w6.heap.size, 1, none⟩) sU).trans cU1
  have sU := Nat.lt_of_lt_of_le sU b.size
  have cV0 := (b.cell (p := ⟨w7.heap.size, 0, none⟩) sV).trans cV0
  have cV1 := (b.cell (p := ⟨w7.heap.size, 1, none⟩) sV).trans cV1
  have sV := Nat.lt_of_lt_of_le sV b.size
  have cQ0 := (b.cell (p := ⟨w8.heap.size, 0, none⟩) sQ).trans cQ0
  have cQ1 := (b.cell (p := ⟨w8.heap.size, 1, none⟩) sQ).trans cQ1
  have sQ := Nat.lt_of_lt_of_le sQ b.size
  have cT0 := (b.cell (p := ⟨w9.heap.size, 0, none⟩) sT).trans cT0
  have cT1 := (b.cell (p := ⟨w9.heap.size, 1, none⟩) sT).trans cT1
  have sT := Nat.lt_of_lt_of_le sT b.size
  clear b
  go_wp2_with fail
  obtain ⟨cc, fl, t1, t2, t3, ⟨t4, t5⟩, t6, t7, ⟨t8, t9⟩, ⟨t10, t11⟩, ⟨t12, t13⟩, t14, t15⟩ := frac_tail D1.out D2.out
  have HCN := Lib.hid t1
  have HCC := Lib.hid t2
  have HFL := Lib.hid t3
  have TZ := Lib.hid t7
  clear t1 t2 t3 t7
  by_cases h0 : x2 = 0
  · have DZ := Lib.hid (divide_zero (x := x1) (y := y1) (v := y2) h0)
    have hx0 : (x2 != 0) = false := by simpa using h0
    have HCN := Lib.hid (show cmpP x1 y1 0 y2 = -cc by rw [← h0]; exact HCN.out)
    have HCC := Lib.hid (show cmpP 0 y2 x1 y1 = cc by rw [← h0]; exact HCC.out)
    have TZ := Lib.hid (show -cc = 0 ↔ (x1 = 0 ∧ y1 = y2) by have := TZ.out; rw [h0] at this; exact this)
    refine (implDivideX x1 y1 x2 y2 _).mono ?_; rintro e w11 ⟨rfl, b⟩
    rw [DZ.out.1, DZ.out.2.1, DZ.out.2.2]
    have bl := Below.on bl b
    have cA0 := (b.cell (p := ⟨w1.heap.size, 0, none⟩) sA).trans cA0
    have cA1 := (b.cell (p := ⟨w1.heap.size, 1, none⟩) sA).trans cA1
    have sA := Nat.lt_of_lt_of_le sA b.size
    have cB0 := (b.cell (p := ⟨w2.heap.size, 0, none⟩) sB).trans cB0
    have cB1 := (b.cell (p := ⟨w2.heap.size, 1, none⟩) sB).trans cB1
    have sB := Nat.lt_of_lt_of_le sB b.size
    have cC0 := (b.cell (p := ⟨w3.heap.size, 0, none⟩) sC).trans cC0
    have cC1 := (b.cell (p := ⟨w3.heap.size, 1, none⟩) sC).trans cC1
    have sC := Nat.lt_of_lt_of_le sC b.size
    have cS0 := (b.cell (p := ⟨w4.heap.size, 0, none⟩) sS).trans cS0
    have cS1 := (b.cell (p := ⟨w4.heap.size, 1, none⟩) sS).trans cS1
    have sS := Nat.lt_of_lt_of_le sS b.size
    have cP0 := (b.cell (p := ⟨w5.heap.size, 0, none⟩) sP).trans cP0
    have cP1 := (b.cell (p := ⟨w5.heap.size, 1, none⟩) sP).trans cP1
    have sP := Nat.lt_of_lt_of_le sP b.size
    have cU0 := (b.cell (p := ⟨w6.heap.size, 0, none⟩) sU).trans cU0
    have cU1 := (b.cell (p := ⟨w6.heap.size, 1, none⟩) sU).trans cU1
    have sU := Nat.lt_of_lt_of_le sU b.size
    have cV0 := (b.cell (p := ⟨w7.heap.size, 0, none⟩) sV).trans cV0
    have cV1 := (b.cell (p := ⟨w7.heap.size, 1, none⟩) sV).trans cV1
    have sV := Nat.lt_of_lt_of_le sV b.size
    have cQ0 := (b.cell (p := ⟨w8.heap.size, 0, none⟩) sQ).trans cQ0
    have cQ1 := (b.cell (p := ⟨w8.heap.size, 1, none⟩) sQ).trans cQ1
    have sQ := Nat.lt_of_lt_of_le sQ b.size
    have cT0 := (b.cell (p := ⟨w9.heap.size, 0, none⟩) sT).trans cT0
    have cT1 := (b.cell (p := ⟨w9.heap.size, 1, none⟩) sT).trans cT1
    have sT := Nat.lt_of_lt_of_le sT b.size
    clear b
    have b : Below w11.heap.size w11 (w11.alloc (.cells #[.int .i64 0, .int .i64 0] 35)) := (Below.refl _ _).alloc (Nat.le_refl _) _
    have bl := Below.on bl b
    have cA0 := (b.cell (p := ⟨w1.heap.size, 0, none⟩) sA).trans cA0
    have cA1 := (b.cell (p := ⟨w1.heap.size, 1, none⟩) sA).trans cA1
    have sA := Nat.lt_of_lt_of_le sA b.size
    have cB0 := (b.cell (p := ⟨w2.heap.size, 0, none⟩) sB).trans cB0
    have cB1 := (b.cell (p := ⟨w2.heap.size, 1, none⟩) sB).trans cB1
    have sB := Nat.lt_of_lt_of_le sB b.size
    have cC0 := (b.cell (p := ⟨w3.heap.size, 0, none⟩) sC).trans cC0
    have cC1 := (b.cell (p := ⟨w3.heap.size, 1, none⟩) sC).trans cC1
    have sC := Nat.lt_of_lt_of_le sC b.size
    have cS0 := (b.cell (p := ⟨w4.heap.size, 0, none⟩) sS).trans cS0
    have cS1 := (b.cell (p := ⟨w4.heap.size, 1, none⟩) sS).trans cS1
    have sS := Nat.lt_of_lt_of_le sS b.size
    have cP0 := (b.cell (p := ⟨w5.heap.size, 0, none⟩) sP).trans cP0
    have cP1 := (b.cell (p := ⟨w5.heap.size, 1, none⟩) sP).trans cP1
    have sP := Nat.lt_of_lt_of_le sP b.size
    have cU0 := (b.cell (p := ⟨w6.heap.size, 0, none⟩) sU).trans cU0
    have cU1 := (b.cell (p := ⟨w6.heap.size, 1, none⟩) sU).trans cU1
    have sU := Nat.lt_of_lt_of_le sU b.size
    have cV0 := (b.cell (p := ⟨w7.heap.size, 0, none⟩) sV).trans cV0
    have cV1 := (b.cell (p := ⟨w7.heap.size, 1, none⟩) sV).trans cV1
    have sV := Nat.lt_of_lt_of_le sV b.size
    have cQ0 := (b.cell (p := ⟨w8.heap.size, 0, none⟩) sQ).trans cQ0
    have cQ1 := (b.cell (p := ⟨w8.heap.size, 1, none⟩) sQ).trans cQ1
    have sQ := Nat.lt_of_lt_of_le sQ b.size
    have cT0 := (b.cell (p := ⟨w9.heap.size, 0, none⟩) sT).trans cT0
    have cT1 := (b.cell (p := ⟨w9.heap.size, 1, none⟩) sT).trans cT1
    have sT := Nat.lt_of_lt_of_le sT b.size
    clear b
    have cD0 : (w11.alloc (.cells #[.int .i64 0, .int .i64 0] 35)).cell? ⟨w11.heap.size, 0, none⟩ = some (.int .i64 0) := by simp
    have cD1 : (w11.alloc (.cells #[.int .i64 0, .int .i64 0] 35)).cell? ⟨w11.heap.size, 1, none⟩ = some (.int .i64 0) := by simp
    have sD : w11.heap.size < (w11.alloc (.cells #[.int .i64 0, .int .i64 0] 35)).heap.size := by simp
    go_wp2_with fail
    generalize w11.alloc (.cells #[.int .i64 0, .int .i64 0] 35) = WD at *
    refine (implCompare x1 y1 0 y2 _).mono ?_; rintro e w12 ⟨rfl, b⟩
    rw [HCN.out]
    have bl := Below.on bl b
    have cA0 := (b.cell (p := ⟨w1.heap.size, 0, none⟩) sA).trans cA0
    have cA1 := (b.cell (p := ⟨w1.heap.size, 1, none⟩) sA).trans cA1
    have sA := Nat.lt_of_lt_of_le sA b.size
    have cB0 := (b.cell (p := ⟨w2.heap.size, 0, none⟩) sB).trans cB0
    have cB1 := (b.cell (p := ⟨w2.heap.size, 1, none⟩) sB).trans cB1
    have sB := Nat.lt_of_lt_of_le sB b.size
    have cC0 := (b.cell (p := ⟨w3.heap.size, 0, none⟩) sC).trans cC0
    have cC1 := (b.cell (p := ⟨w3.heap.size, 1, none⟩) sC).trans cC1
    have sC := Nat.lt_of_lt_of_le sC b.size
    have cS0 := (b.cell (p := ⟨w4.heap.size, 0, none⟩) sS).trans cS0
    have cS1 := (b.cell (p := ⟨w4.heap.size, 1, none⟩) sS).trans cS1
    have sS := Nat.lt_of_lt_of_le sS b.size
    have cP0 := (b.cell (p := ⟨w5.heap.size, 0, none⟩) sP).trans cP0
    have cP1 := (b.cell (p := ⟨w5.heap.size, 1, none⟩) sP).trans cP1
    have sP := Nat.lt_of_lt_of_le sP b.size
    have cU0 := (b.cell (p := ⟨w6.heap.size, 0, none⟩) sU).trans cU0
    have cU1 := (b.cell (p := ⟨w6.heap.size, 1, none⟩) sU).trans cU1
    have sU := Nat.lt_of_lt_of_le sU b.size
    have cV0 := (b.cell (p := ⟨w7.heap.size, 0, none⟩) sV).trans cV0
    have cV1 := (b.cell (p := ⟨w7.heap.size, 1, none⟩) sV).trans cV1
    have sV := Nat.lt_of_lt_of_le sV b.size
    have cQ0 := (b.cell (p := ⟨w8.heap.size, 0, none⟩) sQ).trans cQ0
    have cQ1 := (b.cell (p := ⟨w8.heap.size, 1, none⟩) sQ).trans cQ1
    have sQ := Nat.lt_of_lt_of_le sQ b.size
    have cT0 := (b.cell (p := ⟨w9.heap.size, 0, none⟩) sT).trans cT0
    have cT1 := (b.cell (p := ⟨w9.heap.size, 1, none⟩) sT).trans cT1
    have sT := Nat.lt_of_lt_of_le sT b.size
    have cD0 := (b.cell (p := ⟨w11.heap.size, 0, none⟩) sD).trans cD0
    have cD1 := (b.cell (p := ⟨w11.heap.size, 1, none⟩) sD).trans cD1
    have sD := Nat.lt_of_lt_of_le sD b.size
    clear b
    go_wp2_with fail
    refine (implFloorOf x1 y1 _).mono ?_; rintro e w13 ⟨rfl, b⟩
    rw [HFL.out]
    have bl := Below.on bl b
    have cA0 := (b.cell (p := ⟨w1.heap.size, 0, none⟩) sA).trans cA0
    have cA1 := (b.cell (p := ⟨w1.heap.size, 1, none⟩) sA).trans cA1
    have sA := Nat.lt_of_lt_of_le sA b.size
    have cB0 := (b.cell (p := ⟨w2.heap.size, 0, none⟩) sB).trans cB0
    have cB1 := (b.cell (p := ⟨w2.heap.size, 1, none⟩) sB).trans cB1
    have sB := Nat.lt_of_lt_of_le sB b.size
    have cC0 := (b.cell (p := ⟨w3.heap.size, 0, none⟩) sC).trans cC0
    have cC1 := (b.cell (p := ⟨w3.heap.size, 1, none⟩) sC).trans cC1
    have sC := Nat.lt_of_lt_of_le sC b.size
    have cS0 := (b.cell (p := ⟨w4.heap.size, 0, none⟩) sS).trans cS0
    have cS1 := (b.cell (p := ⟨w4.heap.size, 1, none⟩) sS).trans cS1
    have sS := Nat.lt_of_lt_of_le sS b.size
    have cP0 := (b.cell (p := ⟨w5.heap.size, 0, none⟩) sP).trans cP0
    have cP1 := (b.cell (p := ⟨w5.heap.size, 1, none⟩) sP).trans cP1
    have sP := Nat.lt_of_lt_of_le sP b.size
    have cU0 := (b.cell (p := ⟨w6.heap.size, 0, none⟩) sU).trans cU0
    have cU1 := (b.cell (p := ⟨w6.heap.size, 1, none⟩) sU).trans cU1
    have sU := Nat.lt_of_lt_of_le sU b.size
    have cV0 := (b.cell (p := ⟨w7.heap.size, 0, none⟩) sV).trans cV0
    have cV1 := (b.cell (p := ⟨w7.heap.size, 1, none⟩) sV).trans cV1
    have sV := Nat.lt_of_lt_of_le sV b.size
    have cQ0 := (b.cell (p := ⟨w8.heap.size, 0, none⟩) sQ).trans cQ0
    have cQ1 := (b.cell (p := ⟨w8.heap.size, 1, none⟩) sQ).trans cQ1
    have sQ := Nat.lt_of_lt_of_le sQ b.size
    have cT0 := (b.cell (p := ⟨w9.heap.size, 0, none⟩) sT).trans cT0
    have cT1 := (b.cell (p := ⟨w9.heap.size, 1, none⟩) sT).trans cT1
    have sT := Nat.lt_of_lt_of_le sT b.size
    have cD0 := (b.cell (p := ⟨w11.heap.size, 0, none⟩) sD).trans cD0
    have cD1 := (b.cell (p := ⟨w11.heap.size, 1, none⟩) sD).trans cD1
    have sD := Nat.lt_of_lt_of_le sD b.size
    clear b
    go_wp2_with fail
    refine (implCompare 0 y2 x1 y1 _).mono ?_; rintro e w14 ⟨rfl, b⟩
    rw [HCC.out]
    have bl := Below.on bl b
    have cA0 := (b.cell (p := ⟨w1.heap.size, 0, none⟩) sA).trans cA0
    have cA1 := (b.cell (p := ⟨w1.heap.size, 1, none⟩) sA).trans cA1
    have sA := Nat.lt_of_lt_of_le sA b.size
    have cB0 := (b.cell (p := ⟨w2.heap.size, 0, none⟩) sB).trans cB0
    have cB1 := (b.cell (p := ⟨w2.heap.size, 1, none⟩) sB).trans cB1
    have sB := Nat.lt_of_lt_of_le sB b.size
    have cC0 := (b.cell (p := ⟨w3.heap.size, 0, none⟩) sC).trans cC0
    have cC1 := (b.cell (p := ⟨w3.heap.size, 1, none⟩) sC).trans cC1
    have sC := Nat.lt_of_lt_of_le sC b.size
    have cS0 := (b.cell (p := ⟨w4.heap.size, 0, none⟩) sS).trans cS0
    have cS1 := (b.cell (p := ⟨w4.heap.size, 1, none⟩) sS).trans cS1
    have sS := Nat.lt_of_lt_of_le sS b.size
    have cP0 := (b.cell (p := ⟨w5.heap.size, 0, none⟩) sP).trans cP0
    have cP1 := (b.cell (p := ⟨w5.heap.size, 1, none⟩) sP).trans cP1
    have sP := Nat.lt_of_lt_of_le sP b.size
    have cU0 := (b.cell (p := ⟨w6.heap.size, 0, none⟩) sU).trans cU0
    have cU1 := (b.cell (p := ⟨w6.heap.size, 1, none⟩) sU).trans cU1
    have sU := Nat.lt_of_lt_of_le sU b.size
    have cV0 := (b.cell (p := ⟨w7.heap.size, 0, none⟩) sV).trans cV0
    have cV1 := (b.cell (p := ⟨w7.heap.size, 1, none⟩) sV).trans cV1
    have sV := Nat.lt_of_lt_of_le sV b.size
    have cQ0 := (b.cell (p := ⟨w8.heap.size, 0, none⟩) sQ).trans cQ0
    have cQ1 := (b.cell (p := ⟨w8.heap.size, 1, none⟩) sQ).trans cQ1
    have sQ := Nat.lt_of_lt_of_le sQ b.size
    have cT0 := (b.cell (p := ⟨w9.heap.size, 0, none⟩) sT).trans cT0
    have cT1 := (b.cell (p := ⟨w9.heap.size, 1, none⟩) sT).trans cT1
    have sT := Nat.lt_of_lt_of_le sT b.size
    have cD0 := (b.cell (p := ⟨w11.heap.size, 0, none⟩) sD).trans cD0
    have cD1 := (b.cell (p := ⟨w11.heap.size, 1, none⟩) sD).trans cD1
    have sD := Nat.lt_of_lt_of_le sD b.size
    clear b
    by_cases ex : x1 = 0
    · by_cases ey : y1 = y2
      · skip
        have g1 : (x1 == 0) = true := by simpa using ex
        have g2 : (y1 == y2) = true := by simpa using ey
        have g3 : (-cc == 0) = true := by have := TZ.out; rw [beq_iff_eq]; exact this.2 ⟨ex, ey⟩
        clear ex ey
        go_wp2_with fail
        go_ret
        exact ⟨rfl, bl⟩
      · skip
        have g1 : (x1 == 0) = true := by simpa using ex
        have g2 : (y1 == y2) = false := by simpa using ey
        have g3 : (-cc == 0) = false := by have := TZ.out; rw [beq_eq_false_iff_ne]; exact fun q => ey (this.1 q).2
        clear ex ey
        go_wp2_with fail
        go_ret
        exact ⟨rfl, bl⟩
    · skip
      have g1 : (x1 == 0) = false := by simpa using ex
      have g3 : (-cc == 0) = false := by have := TZ.out; rw [beq_eq_false_iff_ne]; exact fun q => ex (this.1 q).1
      clear ex
      go_wp2_with fail
      go_ret
      exact ⟨rfl, bl⟩
  · have hx0 : (x2 != 0) = true := by simpa using h0
    obtain ⟨d, db, dk, de⟩ := frac_plan2 D1.out D2.out h0
    have DK := Lib.hid dk; have DE := Lib.hid de; clear dk de
    refine (implDivideX x1 y1 x2 y2 _).mono ?_; rintro e w11 ⟨rfl, b⟩
    rw [DK.out.1, DK.out.2.1, DK.out.2.2]
    have bl := Below.on bl b
    have cA0 := (b.cell (p := ⟨w1.heap.size, 0, none⟩) sA).trans cA0
    have cA1 := (b.cell (p := ⟨w1.heap.size, 1, none⟩) sA).trans cA1
    have sA := Nat.lt_of_lt_of_le sA b.size
    have cB0 := (b.cell (p := ⟨w2.heap.size, 0, none⟩) sB).trans cB0
    have cB1 := (b.cell (p := ⟨w2.heap.size, 1, none⟩) sB).trans cB1
    have sB := Nat.lt_of_lt_of_le sB b.size
    have cC0 := (b.cell (p := ⟨w3.heap.size, 0, none⟩) sC).trans cC0
    have cC1 := (b.cell (p := ⟨w3.heap.size, 1, none⟩) sC).trans cC1
    have sC := Nat.lt_of_lt_of_le sC b.size
    have cS0 := (b.cell (p := ⟨w4.heap.size, 0, none⟩) sS).trans cS0
    have cS1 := (b.cell (p := ⟨w4.heap.size, 1, none⟩) sS).trans cS1
    have sS := Nat.lt_of_lt_of_le sS b.size
    have cP0 := (b.cell (p := ⟨w5.heap.size, 0, none⟩) sP).trans cP0
    have cP1 := (b.cell (p := ⟨w5.heap.size, 1, none⟩) sP).trans cP1
    have sP := Nat.lt_of_lt_of_le sP b.size
    have cU0 := (b.cell (p := ⟨w6.heap.size, 0, none⟩) sU).trans cU0
    have cU1 := (b.cell (p := ⟨w6.heap.size, 1, none⟩) sU).trans cU1
    have sU := Nat.lt_of_lt_of_le sU b.size
    have cV0 := (b.cell (p := ⟨w7.heap.size, 0, none⟩) sV).trans cV0
    have cV1 := (b.cell (p := ⟨w7.heap.size, 1, none⟩) sV).trans cV1
    have sV := Nat.lt_of_lt_of_le sV b.size
    have cQ0 := (b.cell (p := ⟨w8.heap.size, 0, none⟩) sQ).trans cQ0
    have cQ1 := (b.cell (p := ⟨w8.heap.size, 1, none⟩) sQ).trans cQ1
    have sQ := Nat.lt_of_lt_of_le sQ b.size
    have cT0 := (b.cell (p := ⟨w9.heap.size, 0, none⟩) sT).trans cT0
    have cT1 := (b.cell (p := ⟨w9.heap.size, 1, none⟩) sT).trans cT1
    have sT := Nat.lt_of_lt_of_le sT b.size
    clear b
    have b : Below w11.heap.size w11 (w11.alloc (.cells #[.int .i64 d, .int .i64 db] 35)) := (Below.refl _ _).alloc (Nat.le_refl _) _
    have bl := Below.on bl b
    have cA0 := (b.cell (p := ⟨w1.heap.size, 0, none⟩) sA).trans cA0
    have cA1 := (b.cell (p := ⟨w1.heap.size, 1, none⟩) sA).trans cA1
    have sA := Nat.lt_of_lt_of_le sA b.size
    have cB0 := (b.cell (p := ⟨w2.heap.size, 0, none⟩) sB).trans cB0
    have cB1 := (b.cell (p := ⟨w2.heap.size, 1, none⟩) sB).trans cB1
    have sB := Nat.lt_of_lt_of_le sB b.size
    have cC0 := (b.cell (p := ⟨w3.heap.size, 0, none⟩) sC).trans cC0
    have cC1 := (b.cell (p := ⟨w3.heap.size, 1, none⟩) sC).trans cC1
    have sC := Nat.lt_of_lt_of_le sC b.size
    have cS0 := (b.cell (p := ⟨w4.heap.size, 0, none⟩) sS).trans cS0
    have cS1 := (b.cell (p := ⟨w4.heap.size, 1, none⟩) sS).trans cS1
    have sS := Nat.lt_of_lt_of_le sS b.size
    have cP0 := (b.cell (p := ⟨w5.heap.size, 0, none⟩) sP).trans cP0
    have cP1 := (b.cell (p := ⟨w5.heap.size, 1, none⟩) sP).trans cP1
    have sP := Nat.lt_of_lt_of_le sP b.size
    have cU0 := (b.cell (p := ⟨w6.heap.size, 0, none⟩) sU).trans cU0
    have cU1 := (b.cell (p := ⟨w6.heap.size, 1, none⟩) sU).trans cU1
    have sU := Nat.lt_of_lt_of_le sU b.size
    have cV0 := (b.cell (p := ⟨w7.heap.size, 0, none⟩) sV).trans cV0
    have cV1 := (b.cell (p := ⟨w7.heap.size, 1, none⟩) sV).trans cV1
    have sV := Nat.lt_of_lt_of_le sV b.size
    have cQ0 := (b.cell (p := ⟨w8.heap.size, 0, none⟩) sQ).trans cQ0
    have cQ1 := (b.cell (p := ⟨w8.heap.size, 1, none⟩) sQ).trans cQ1
    have sQ := Nat.lt_of_lt_of_le sQ b.size
    have cT0 := (b.cell (p := ⟨w9.heap.size, 0, none⟩) sT).trans cT0
    have cT1 := (b.cell (p := ⟨w9.heap.size, 1, none⟩) sT).trans cT1
    have sT := Nat.lt_of_lt_of_le sT b.size
    clear b
    have cD0 : (w11.alloc (.cells #[.int .i64 d, .int .i64 db] 35)).cell? ⟨w11.heap.size, 0, none⟩ = some (.int .i64 d) := by simp
    have cD1 : (w11.alloc (.cells #[.int .i64 d, .int .i64 db] 35)).cell? ⟨w11.heap.size, 1, none⟩ = some (.int .i64 db) := by simp
    have sD : w11.heap.size < (w11.alloc (.cells #[.int .i64 d, .int .i64 db] 35)).heap.size := by simp
    go_wp2_with fail
    generalize w11.alloc (.cells #[.int .i64 d, .int .i64 db] 35) = WD at *
    refine (implTimesX d db x2 y2 _).mono ?_; rintro e w12 ⟨rfl, b⟩
    rw [DE.out.1, DE.out.2.1, DE.out.2.2]
    have bl := Below.on bl b
    have cA0 := (b.cell (p := ⟨w1.heap.size, 0, none⟩) sA).trans cA0
    have cA1 := (b.cell (p := ⟨w1.heap.size, 1, none⟩) sA).trans cA1
    have sA := Nat.lt_of_lt_of_le sA b.size
    have cB0 := (b.cell (p := ⟨w2.heap.size, 0, none⟩) sB).trans cB0
    have cB1 := (b.cell (p := ⟨w2.heap.size, 1, none⟩) sB).trans cB1
    have sB := Nat.lt_of_lt_of_le sB b.size
    have cC0 := (b.cell (p := ⟨w3.heap.size, 0, none⟩) sC).trans cC0
    have cC1 := (b.cell (p := ⟨w3.heap.size, 1, none⟩) sC).trans cC1
    have sC := Nat.lt_of_lt_of_le sC b.size
    have cS0 := (b.cell (p := ⟨w4.heap.size, 0, none⟩) sS).trans cS0
    have cS1 := (b.cell (p := ⟨w4.heap.size, 1, none⟩) sS).trans cS1
    have sS := Nat.lt_of_lt_of_le sS b.size
    have cP0 := (b.cell (p := ⟨w5.heap.size, 0, none⟩) sP).trans cP0
    have cP1 := (b.cell (p := ⟨w5.heap.size, 1, none⟩) sP).trans cP1
    have sP := Nat.lt_of_lt_of_le sP b.size
    have cU0 := (b.cell (p := ⟨w6.heap.size, 0, none⟩) sU).trans cU0
    have cU1 := (b.cell (p := ⟨w6.heap.size, 1, none⟩) sU).trans cU1
    have sU := Nat.lt_of_lt_of_le sU b.size
    have cV0 := (b.cell (p := ⟨w7.heap.size, 0, none⟩) sV).trans cV0
    have cV1 := (b.cell (p := ⟨w7.heap.size, 1, none⟩) sV).trans cV1
    have sV := Nat.lt_of_lt_of_le sV b.size
    have cQ0 := (b.cell (p := ⟨w8.heap.size, 0, none⟩) sQ).trans cQ0
    have cQ1 := (b.cell (p := ⟨w8.heap.size, 1, none⟩) sQ).trans cQ1
    have sQ := Nat.lt_of_lt_of_le sQ b.size
    have cT0 := (b.cell (p := ⟨w9.heap.size, 0, none⟩) sT).trans cT0
    have cT1 := (b.cell (p := ⟨w9.heap.size, 1, none⟩) sT).trans cT1
    have sT := Nat.lt_of_lt_of_le sT b.size
    have cD0 := (b.cell (p := ⟨w11.heap.size, 0, none⟩) sD).trans cD0
    have cD1 := (b.cell (p := ⟨w11.heap.size, 1, none⟩) sD).trans cD1
    have sD := Nat.lt_of_lt_of_le sD b.size
    clear b
    have b : Below w12.heap.size w12 (w12.alloc (.cells #[.int .i64 x1, .int .i64 y1] 35)) := (Below.refl _ _).alloc (Nat.le_refl _) _
    have bl := Below.on bl b
    have cA0 := (b.cell (p := ⟨w1.heap.size, 0, none⟩) sA).trans cA0
    have cA1 := (b.cell (p := ⟨w1.heap.size, 1, none⟩) sA).trans cA1
    have sA := Nat.lt_of_lt_of_le sA b.size
    have cB0 := (b.cell (p := ⟨w2.heap.size, 0, none⟩) sB).trans cB0
    have cB1 := (b.cell (p := ⟨w2.heap.size, 1, none⟩) sB).trans cB1
    have sB := Nat.lt_of_lt_of_le sB b.size
    have cC0 := (b.cell (p := ⟨w3.heap.size, 0, none⟩) sC).trans cC0
    have cC1 := (b.cell (p := ⟨w3.heap.size, 1, none⟩) sC).trans cC1
    have sC := Nat.lt_of_lt_of_le sC b.size
    have cS0 := (b.cell (p := ⟨w4.heap.size, 0, none⟩) sS).trans cS0
    have cS1 := (b.cell (p := ⟨w4.heap.size, 1, none⟩) sS).trans cS1
    have sS := Nat.lt_of_lt_of_le sS b.size
    have cP0 := (b.cell (p := ⟨w5.heap.size, 0, none⟩) sP).trans cP0
    have cP1 := (b.cell (p := ⟨w5.heap.size, 1, none⟩) sP).trans cP1
    have sP := Nat.lt_of_lt_of_le sP b.size
    have cU0 := (b.cell (p := ⟨w6.heap.size, 0, none⟩) sU).trans cU0
    have cU1 := (b.cell (p := ⟨w6.heap.size, 1, none⟩) sU).trans cU1
    have sU := Nat.lt_of_lt_of_le sU b.size
    have cV0 := (b.cell (p := ⟨w7.heap.size, 0, none⟩) sV).trans cV0
    have cV1 := (b.cell (p := ⟨w7.heap.size, 1, none⟩) sV).trans cV1
    have sV := Nat.lt_of_lt_of_le sV b.size
    have cQ0 := (b.cell (p := ⟨w8.heap.size, 0, none⟩) sQ).trans cQ0
    have cQ1 := (b.cell (p := ⟨w8.heap.size, 1, none⟩) sQ).trans cQ1
    have sQ := Nat.lt_of_lt_of_le sQ b.size
    have cT0 := (b.cell (p := ⟨w9.heap.size, 0, none⟩) sT).trans cT0
    have cT1 := (b.cell (p := ⟨w9.heap.size, 1, none⟩) sT).trans cT1
    have sT := Nat.lt_of_lt_of_le sT b.size
    have cD0 := (b.cell (p := ⟨w11.heap.size, 0, none⟩) sD).trans cD0
    have cD1 := (b.cell (p := ⟨w11.heap.size, 1, none⟩) sD).trans cD1
    have sD := Nat.lt_of_lt_of_le sD b.size
    clear b
    have cE0 : (w12.alloc (.cells #[.int .i64 x1, .int .i64 y1] 35)).cell? ⟨w12.heap.size, 0, none⟩ = some (.int .i64 x1) := by simp
    have cE1 : (w12.alloc (.cells #[.int .i64 x1, .int .i64 y1] 35)).cell? ⟨w12.heap.size, 1, none⟩ = some (.int .i64 y1) := by simp
    have sE : w12.heap.size < (w12.alloc (.cells #[.int .i64 x1, .int .i64 y1] 35)).heap.size := by simp
    go_wp2_with fail
    generalize w12.alloc (.cells #[.int .i64 x1, .int .i64 y1] 35) = WE at *
    refine (implCompare x1 y1 x2 y2 _).mono ?_; rintro e w13 ⟨rfl, b⟩
    rw [HCN.out]
    have bl := Below.on bl b
    have cA0 := (b.cell (p := ⟨w1.heap.size, 0, none⟩) sA).trans cA0
    have cA1 := (b.cell (p := ⟨w1.heap.size, 1, none⟩) sA).trans cA1
    have sA := Nat.lt_of_lt_of_le sA b.size
    have cB0 := (b.cell (p := ⟨w2.heap.size, 0, none⟩) sB).trans cB0
    have cB1 := (b.cell (p := ⟨w2.heap.size, 1, none⟩) sB).trans cB1
    have sB := Nat.lt_of_lt_of_le sB b.size
    have cC0 := (b.cell (p := ⟨w3.heap.size, 0, none⟩) sC).trans cC0
    have cC1 := (b.cell (p := ⟨w3.heap.size, 1, none⟩) sC).trans cC1
    have sC := Nat.lt_of_lt_of_le sC b.size
    have cS0 := (b.cell (p := ⟨w4.heap.size, 0, none⟩) sS).trans cS0
    have cS1 := (b.cell (p := ⟨w4.heap.size, 1, none⟩) sS).trans cS1
    have sS := Nat.lt_of_lt_of_le sS b.size
    have cP0 := (b.cell (p := ⟨w5.heap.size, 0, none⟩) sP).trans cP0
    have cP1 := (b.cell (p := ⟨w5.heap.size, 1, none⟩) sP).trans cP1
    have sP := Nat.lt_of_lt_of_le sP b.size
    have cU0 := (b.cell (p := ⟨w6.heap.size, 0, none⟩) sU).trans cU0
    have cU1 := (b.cell (p := ⟨w6.heap.size, 1, none⟩) sU).trans cU1
    have sU := Nat.lt_of_lt_of_le sU b.size
    have cV0 := (b.cell (p := ⟨w7.heap.size, 0, none⟩) sV).trans cV0
    have cV1 := (b.cell (p := ⟨w7.heap.size, 1, none⟩) sV).trans cV1
    have sV := Nat.lt_of_lt_of_le sV b.size
    have cQ0 := (b.cell (p := ⟨w8.heap.size, 0, none⟩) sQ).trans cQ0
    have cQ1 := (b.cell (p := ⟨w8.heap.size, 1, none⟩) sQ).trans cQ1
    have sQ := Nat.lt_of_lt_of_le sQ b.size
    have cT0 := (b.cell (p := ⟨w9.heap.size, 0, none⟩) sT).trans cT0
    have cT1 := (b.cell (p := ⟨w9.heap.size, 1, none⟩) sT).trans cT1
    have sT := Nat.lt_of_lt_of_le sT b.size
    have cD0 := (b.cell (p := ⟨w11.heap.size, 0, none⟩) sD).trans cD0
    have cD1 := (b.cell (p := ⟨w11.heap.size, 1, none⟩) sD).trans cD1
    have sD := Nat.lt_of_lt_of_le sD b.size
    have cE0 := (b.cell (p := ⟨w12.heap.size, 0, none⟩) sE).trans cE0
    have cE1 := (b.cell (p := ⟨w12.heap.size, 1, none⟩) sE).trans cE1
    have sE := Nat.lt_of_lt_of_le sE b.size
    clear b
    go_wp2_with fail
    refine (implFloorOf x1 y1 _).mono ?_; rintro e w14 ⟨rfl, b⟩
    rw [HFL.out]
    have bl := Below.on bl b
    have cA0 := (b.cell (p := ⟨w1.heap.size, 0, none⟩) sA).trans cA0
    have cA1 := (b.cell (p := ⟨w1.heap.size, 1, none⟩) sA).trans cA1
    have sA := Nat.lt_of_lt_of_le sA b.size
    have cB0 := (b.cell (p := ⟨w2.heap.size, 0, none⟩) sB).trans cB0
    have cB1 := (b.cell (p := ⟨w2.heap.size, 1, none⟩) sB).trans cB1
    have sB := Nat.lt_of_lt_of_le sB b.size
    have cC0 := (b.cell (p := ⟨w3.heap.size, 0, none⟩) sC).trans cC0
    have cC1 := (b.cell (p := ⟨w3.heap.size, 1, none⟩) sC).trans cC1
    have sC := Nat.lt_of_lt_of_le sC b.size
    have cS0 := (b.cell (p := ⟨w4.heap.size, 0, none⟩) sS).trans cS0
    have cS1 := (b.cell (p := ⟨w4.heap.size, 1, none⟩) sS).trans cS1
    have sS := Nat.lt_of_lt_of_le sS b.size
    have cP0 := (b.cell (p := ⟨w5.heap.size, 0, none⟩) sP).trans cP0
    have cP1 := (b.cell (p := ⟨w5.heap.size, 1, none⟩) sP).trans cP1
    have sP := Nat.lt_of_lt_of_le sP b.size
    have cU0 := (b.cell (p := ⟨w6.heap.size, 0, none⟩) sU).trans cU0
    have cU1 := (b.cell (p := ⟨w6.heap.size, 1, none⟩) sU).trans cU1
    have sU := Nat.lt_of_lt_of_le sU b.size
    have cV0 := (b.cell (p := ⟨w7.heap.size, 0, none⟩) sV).trans cV0
    have cV1 := (b.cell (p := ⟨w7.heap.size, 1, none⟩) sV).trans cV1
    have sV := Nat.lt_of_lt_of_le sV b.size
    have cQ0 := (b.cell (p := ⟨w8.heap.size, 0, none⟩) sQ).trans cQ0
    have cQ1 := (b.cell (p := ⟨w8.heap.size, 1, none⟩) sQ).trans cQ1
    have sQ := Nat.lt_of_lt_of_le sQ b.size
    have cT0 := (b.cell (p := ⟨w9.heap.size, 0, none⟩) sT).trans cT0
    have cT1 := (b.cell (p := ⟨w9.heap.size, 1, none⟩) sT).trans cT1
    have sT := Nat.lt_of_lt_of_le sT b.size
    have cD0 := (b.cell (p := ⟨w11.heap.size, 0, none⟩) sD).trans cD0
    have cD1 := (b.cell (p := ⟨w11.heap.size, 1, none⟩) sD).trans cD1
    have sD := Nat.lt_of_lt_of_le sD b.size
    have cE0 := (b.cell (p := ⟨w12.heap.size, 0, none⟩) sE).trans cE0
    have cE1 := (b.cell (p := ⟨w12.heap.size, 1, none⟩) sE).trans cE1
    have sE := Nat.lt_of_lt_of_le sE b.size
    clear b
    go_wp2_with fail
    refine (implCompare x2 y2 x1 y1 _).mono ?_; rintro e w15 ⟨rfl, b⟩
    rw [HCC.out]
    have bl := Below.on bl b
    have cA0 := (b.cell (p := ⟨w1.heap.size, 0, none⟩) sA).trans cA0
    have cA1 := (b.cell (p := ⟨w1.heap.size, 1, none⟩) sA).trans cA1
    have sA := Nat.lt_of_lt_of_le sA b.size
    have cB0 := (b.cell (p := ⟨w2.heap.size, 0, none⟩) sB).trans cB0
    have cB1 := (b.cell (p := ⟨w2.heap.size, 1, none⟩) sB).trans cB1
    have sB := Nat.lt_of_lt_of_le sB b.size
    have cC0 := (b.cell (p := ⟨w3.heap.size, 0, none⟩) sC).trans cC0
    have cC1 := (b.cell (p := ⟨w3.heap.size, 1, none⟩) sC).trans cC1
    have sC := Nat.lt_of_lt_of_le sC b.size
    have cS0 := (b.cell (p := ⟨w4.heap.size, 0, none⟩) sS).trans cS0
    have cS1 := (b.cell (p := ⟨w4.heap.size, 1, none⟩) sS).trans cS1
    have sS := Nat.lt_of_lt_of_le sS b.size
    have cP0 := (b.cell (p := ⟨w5.heap.size, 0, none⟩) sP).trans cP0
    have cP1 := (b.cell (p := ⟨w5.heap.size, 1, none⟩) sP).trans cP1
    have sP := Nat.lt_of_lt_of_le sP b.size
    have cU0 := (b.cell (p := ⟨w6.heap.size, 0, none⟩) sU).trans cU0
    have cU1 := (b.cell (p := ⟨w6.heap.size, 1, none⟩) sU).trans cU1
    have sU := Nat.lt_of_lt_of_le sU b.size
    have cV0 := (b.cell (p := ⟨w7.heap.size, 0, none⟩) sV).trans cV0
    have cV1 := (b.cell (p := ⟨w7.heap.size, 1, none⟩) sV).trans cV1
    have sV := Nat.lt_of_lt_of_le sV b.size
    have cQ0 := (b.cell (p := ⟨w8.heap.size, 0, none⟩) sQ).trans cQ0
    have cQ1 := (b.cell (p := ⟨w8.heap.size, 1, none⟩) sQ).trans cQ1
    have sQ := Nat.lt_of_lt_of_le sQ b.size
    have cT0 := (b.cell (p := ⟨w9.heap.size, 0, none⟩) sT).trans cT0
    have cT1 := (b.cell (p := ⟨w9.heap.size, 1, none⟩) sT).trans cT1
    have sT := Nat.lt_of_lt_of_le sT b.size
    have cD0 := (b.cell (p := ⟨w11.heap.size, 0, none⟩) sD).trans cD0
    have cD1 := (b.cell (p := ⟨w11.heap.size, 1, none⟩) sD).trans cD1
    have sD := Nat.lt_of_lt_of_le sD b.size
    have cE0 := (b.cell (p := ⟨w12.heap.size, 0, none⟩) sE).trans cE0
    have cE1 := (b.cell (p := ⟨w12.heap.size, 1, none⟩) sE).trans cE1
    have sE := Nat.lt_of_lt_of_le sE b.size
    clear b
    by_cases ex : x1 = x2
    · by_cases ey : y1 = y2
      · skip
        have g1 : (x1 == x2) = true := by simpa using ex
        have g2 : (y1 == y2) = true := by simpa using ey
        have g3 : (-cc == 0) = true := by have := TZ.out; rw [beq_iff_eq]; exact this.2 ⟨ex, ey⟩
        clear ex ey
        go_wp2_with fail
        go_ret
        exact ⟨rfl, bl⟩
      · skip
        have g1 : (x1 == x2) = true := by simpa using ex
        have g2 : (y1 == y2) = false := by simpa using ey
        have g3 : (-cc == 0) = false := by have := TZ.out; rw [beq_eq_false_iff_ne]; exact fun q => ey (this.1 q).2
        clear ex ey
        go_wp2_with fail
        go_ret
        exact ⟨rfl, bl⟩
    · skip
      have g1 : (x1 == x2) = false := by simpa using ex
      have g3 : (-cc == 0) = false := by have := TZ.out; rw [beq_eq_false_iff_ne]; exact fun q => ex (this.1 q).1
      clear ex
      go_wp2_with fail
      go_ret
      exact ⟨rfl, bl⟩

set_option maxRecDepth 100000 in
theorem lifted (os : Os) (started : os.Started) (H : Type) (enc : TypeId × Value → H) :
    ReturnsInHanded {} Try.checked os 8 .any (Rows.fnFractionsSpec.pre6 enc Try.prog Try.f8 Rows.fnFractionsRow.domain false) (Rows.fnFractionsSpec.post enc Try.prog Try.f8 false true false false) := by
  refine returnsInHanded_of_change (C := Try.checked) own started (by kernel_rfl) Try.func8
    (ChangeSpec.witness6 (enc := enc) (C := Try.checked) false ⟨#[], #[.slice none 0 0], []⟩ 8 (by kernel_rfl) (by kernel_rfl) (by kernel_rfl) (by kernel_rfl)) ?_
  intro W base args ds gs before hval0 hW hcnd _
  have hval : ∀ (j : Nat) t v, Try.f8.params[j]? = some t → args[j]? = some v → Value.okWide Try.prog W .any base t v := hval0
  have hW' := hW
  obtain ⟨p, q, hA0, hV, rfl, hfz, hnd⟩ := hW
  have hA : DataW.TrodAll enc Try.prog W 0 (fun _ => true) true Try.f8.params.toList args.toList ds p := hA0
  rw [Try.params8] at hA hval
  obtain ⟨v0, vs0, d0, ds0, p0, q0, hargs, rfl, rfl, h0, r0⟩ := trodAll_cons hA
  obtain ⟨rfl, rfl, rfl⟩ := trodAll_nil r0
  obtain rfl : args = #[v0] := by cases args; simp_all
  obtain ⟨rfl, rfl⟩ := trodVars_none hV
  have k0 := h0
  have lt0 : ∀ x ∈ p0, x.block < W.heap.size := by obtain ⟨m, hm⟩ := k0; exact DataW.trod_lt m _ _ _ hm
  obtain ⟨A0, n0, c0, z0, rfl, w0⟩ := open_bytes_arg (hval 0 45 v0 rfl rfl) h0
  clear hA0 hval0
  refine (walk A0 n0 c0 z0 W w0).mono fun e W' ⟨he, bel⟩ => ?_
  subst he
  exact ⟨_, rfl, _, _, _, [], _, [], hW', trodAll_mk1 (shut_bool Try.underlying4 _), (trodAll_cons_mk (Below.trod laidOut (by kernel_rfl) (of_decide_eq_true (by kernel_rfl)) k0 bel lt0) trodAll_mk0), rfl, bel.frame _, fun h => by cases h⟩

theorem over : Rows.fnFractionsRow.holds Try.pinned (OpenSpec.ofChange Rows.fnFractionsSpec) :=
  OpenClaim.holds_of_wide 8 Try.f8 rfl rfl rfl rfl rfl rfl rfl ⟨rfl, rfl, rfl, rfl, rfl⟩ rfl rfl rfl rfl rfl (by kernel_rfl) Try.func8
    (joined_by _ _ _ _ _ (by kernel_rfl) laidOut mapsRowedYes (by kernel_rfl) (by kernel_rfl) (by kernel_rfl) stopsNone (by kernel_rfl) knobsNone (by kernel_rfl) (by kernel_rfl) (by kernel_rfl) (by kernel_rfl) (by kernel_rfl) (by kernel_rfl) (by kernel_rfl) (by kernel_rfl) (by kernel_rfl) (by kernel_rfl) (by kernel_rfl) (by kernel_rfl) (by kernel_rfl)
      (keys_fit _ _ keysPlain rfl) rfl heard mayEnterYes (lifted_fits _ _ liftsNo rfl) (make_fits _ _ makeCut rfl) rfl rfl (by kernel_rfl) (by kernel_rfl) (by kernel_rfl))
    (of_decide_eq_true (by kernel_rfl)) (by unfold Func.isWrapper; first | (rw [if_pos (by decide +kernel)]; kernel_rfl) | (rw [if_neg (by decide +kernel)]; exact ⟨rfl, rfl⟩))
    (fun os started H enc _ => lifted os started H enc)

theorem proved : Rows.FnFractionsSaid := over
end Go.Proofs.Ytadacfammhianaa.fnFractions
