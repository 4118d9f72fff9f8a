/- The sum of a list of fractions: what the program's and the reference's functions compute. -/
import Derived.Test.YtadacfammhianaaFrac5
import Derived.Test.YtadacfammhianaaFracsS
namespace Go.Proofs.Ytadacfammhianaa
open Go.RowKit

/-- The sum of the first k, and whether all sums so far are valid. -/
def sumS (ps : List (Int × Int)) : Nat → Int × Int × Bool
  | 0 => (0, 1, true)
  | k + 1 => if (sumS ps k).2.2 then (addT (sumS ps k).1 (sumS ps k).2.1 (p1 ps k) (p2 ps k), addB (sumS ps k).1 (sumS ps k).2.1 (p1 ps k) (p2 ps k), addOk (sumS ps k).1 (sumS ps k).2.1 (p1 ps k) (p2 ps k)) else sumS ps k
def sT (ps : List (Int × Int)) (k : Nat) : Int := (sumS ps k).1
def sB (ps : List (Int × Int)) (k : Nat) : Int := (sumS ps k).2.1
def sO (ps : List (Int × Int)) (k : Nat) : Bool := (sumS ps k).2.2
theorem s_next {ps : List (Int × Int)} {k : Nat} (h : sO ps k = true) : sT ps (k + 1) = addT (sT ps k) (sB ps k) (p1 ps k) (p2 ps k) ∧ sB ps (k + 1) = addB (sT ps k) (sB ps k) (p1 ps k) (p2 ps k) ∧ sO ps (k + 1) = addOk (sT ps k) (sB ps k) (p1 ps k) (p2 ps k) := by
  unfold sO at h
  unfold sT sB sO
  rw [sumS, if_pos h]
  exact ⟨rfl, rfl, rfl⟩
theorem s_stays {ps : List (Int × Int)} {k : Nat} (h : sO ps k = false) : ∀ j, k ≤ j → sO ps j = false
  | 0, hj => by
    obtain rfl : k = 0 := by omega
    exact h
  | j + 1, hj => by
    by_cases e : k = j + 1
    · subst e; exact h
    · have := s_stays h j (by omega)
      unfold sO at this ⊢
      rw [sumS, if_neg (by simp [this]), this]
/-- The sum of all, at most 100. -/
def sumO (ps : List (Int × Int)) : Bool := decide (ps.length ≤ 100) && sO ps ps.length
def sumT (ps : List (Int × Int)) : Int := if sumO ps then sT ps ps.length else 0
def sumB (ps : List (Int × Int)) : Int := if sumO ps then sB ps ps.length else 0
theorem sum_no {ps : List (Int × Int)} (h : sumO ps = false) : sumT ps = 0 ∧ sumB ps = 0 := by simp [sumT, sumB, h]
theorem sum_no1 {n : Nat} {ps : List (Int × Int)} (hl : ps.length = n) (h : 100 < (n : Int)) : sumO ps = false := by
  have : ¬ ps.length ≤ 100 := by omega
  simp [sumO, this]
theorem sum_no2 {n k : Nat} {ps : List (Int × Int)} (hl : ps.length = n) (hk : k ≤ n) (h : sO ps k = false) : sumO ps = false := by
  have := s_stays h n hk
  simp [sumO, hl, this]
theorem sum_yes {n : Nat} {ps : List (Int × Int)} (hl : ps.length = n) (h1 : ¬ 100 < (n : Int)) (h : sO ps n = true) : sumO ps = true ∧ sumT ps = sT ps n ∧ sumB ps = sB ps n := by
  subst hl
  have e : sumO ps = true := by
    have : ps.length ≤ 100 := by omega
    simp [sumO, this, h]
  exact ⟨e, by simp [sumT, e], by simp [sumB, e]⟩
theorem ret_sum {a b c d : Int} {o p : Bool} (h : a = c ∧ b = d ∧ o = p) : Ending.returned (.tuple #[.agg #[.int .i64 a, .int .i64 b], .bool o]) = .returned (.tuple #[.agg #[.int .i64 c, .int .i64 d], .bool p]) := by
  obtain ⟨rfl, rfl, rfl⟩ := h; rfl

/-- The result's block and the sum's: what they hold. -/
structure Sum2 (w : World) (B : Nat) (x y : Int) : Prop where
  r0 : w.cell? ⟨B, 0, none⟩ = some (.int .i64 0)
  r1 : w.cell? ⟨B, 1, none⟩ = some (.int .i64 0)
  s0 : w.cell? ⟨B + 1, 0, none⟩ = some (.int .i64 x)
  s1 : w.cell? ⟨B + 1, 1, none⟩ = some (.int .i64 y)
  f0 : w.frozen? ⟨B, 0, none⟩ = false
  f1 : w.frozen? ⟨B, 1, none⟩ = false
  g0 : w.frozen? ⟨B + 1, 0, none⟩ = false
  g1 : w.frozen? ⟨B + 1, 1, none⟩ = false
  size : B + 1 < w.heap.size
theorem Sum2.keep {w w' : World} {B : Nat} {x y : Int} (h : Sum2 w B x y) (hb : Below w.heap.size w w') : Sum2 w' B x y :=
  have hs := h.size
  ⟨(hb.cell (p := ⟨B, 0, none⟩) (by simp; omega)).trans h.r0, (hb.cell (p := ⟨B, 1, none⟩) (by simp; omega)).trans h.r1,
   (hb.cell (p := ⟨B + 1, 0, none⟩) (by simp; omega)).trans h.s0, (hb.cell (p := ⟨B + 1, 1, none⟩) (by simp; omega)).trans h.s1,
   (hb.frozen (p := ⟨B, 0, none⟩) (by simp; omega)).trans h.f0, (hb.frozen (p := ⟨B, 1, none⟩) (by simp; omega)).trans h.f1,
   (hb.frozen (p := ⟨B + 1, 0, none⟩) (by simp; omega)).trans h.g0, (hb.frozen (p := ⟨B + 1, 1, none⟩) (by simp; omega)).trans h.g1, Nat.lt_of_lt_of_le hs hb.size⟩
theorem Sum2.put {w : World} {B : Nat} {x y : Int} (h : Sum2 w B x y) (x' y' : Int) : Sum2 ((w.setCell ⟨B + 1, 0, none⟩ (.int .i64 x')).setCell ⟨B + 1, 1, none⟩ (.int .i64 y')) B x' y' := by
  obtain ⟨r0, r1, s0, s1, f0, f1, g0, g1, hs⟩ := h
  constructor <;> first | (simp [go_sem, *]; done) | (simp; omega)

/-- The result's block and the sum's in block P: what they hold. -/
structure SumQ (w : World) (B P : Nat) (x y : Int) : Prop where
  r0 : w.cell? ⟨B, 0, none⟩ = some (.int .i64 0)
  r1 : w.cell? ⟨B, 1, none⟩ = some (.int .i64 0)
  s0 : w.cell? ⟨P, 0, none⟩ = some (.int .i64 x)
  s1 : w.cell? ⟨P, 1, none⟩ = some (.int .i64 y)
  f0 : w.frozen? ⟨B, 0, none⟩ = false
  f1 : w.frozen? ⟨B, 1, none⟩ = false
  g0 : w.frozen? ⟨P, 0, none⟩ = false
  g1 : w.frozen? ⟨P, 1, none⟩ = false
  far : B < P
  size : P < w.heap.size
theorem SumQ.keep {w w' : World} {B P : Nat} {x y : Int} (h : SumQ w B P x y) (hb : Below w.heap.size w w') : SumQ w' B P x y :=
  have hs := h.size
  have hf := h.far
  ⟨(hb.cell (p := ⟨B, 0, none⟩) (by simp; omega)).trans h.r0, (hb.cell (p := ⟨B, 1, none⟩) (by simp; omega)).trans h.r1,
   (hb.cell (p := ⟨P, 0, none⟩) (by simp; omega)).trans h.s0, (hb.cell (p := ⟨P, 1, none⟩) (by simp; omega)).trans h.s1,
   (hb.frozen (p := ⟨B, 0, none⟩) (by simp; omega)).trans h.f0, (hb.frozen (p := ⟨B, 1, none⟩) (by simp; omega)).trans h.f1,
   (hb.frozen (p := ⟨P, 0, none⟩) (by simp; omega)).trans h.g0, (hb.frozen (p := ⟨P, 1, none⟩) (by simp; omega)).trans h.g1, hf, Nat.lt_of_lt_of_le hs hb.size⟩
theorem SumQ.put {w : World} {B P : Nat} {x y : Int} (h : SumQ w B P x y) (x' y' : Int) : SumQ ((w.setCell ⟨P, 0, none⟩ (.int .i64 x')).setCell ⟨P, 1, none⟩ (.int .i64 y')) B P x' y' := by
  obtain ⟨r0, r1, s0, s1, f0, f1, g0, g1, hf, hs⟩ := h
  have n1 : P ≠ B := by omega
  have n2 : B ≠ P := by omega
  constructor <;> first | (simp [go_sem, *]; done) | (simp; omega)

set_option maxHeartbeats 1000000 in
theorem implWhole (x : Int) (w : World) :
    Calls Try.prog 41 #[.int .i64 x] w fun e w' => e = .returned (.agg #[.int .i64 x, .int .i64 1]) ∧ Below w.heap.size w w' := by
  have bl := (Below.refl w.heap.size w).alloc (Nat.le_refl _) (.cells #[.int .i64 x, .int .i64 1] 35)
  go_enter Try.func41, Try.ntmps41
  go_wp2
  exact bodyPost_ret (v := .agg #[.int .i64 x, .int .i64 1]) (by simp [results, Try.results41, go_sem]) rfl ⟨rfl, bl⟩

set_option maxHeartbeats 4000000 in
theorem specSum (A : Option Addr) (n c : Nat) (ps : List (Int × Int)) (w : World) (h : Pairs w A n ps) (hn : (n : Int) ≤ 1048576) :
    Calls Try.prog 21 #[.slice A n c] w fun e w' => e = .returned (.tuple #[.agg #[.int .i64 (sumT ps), .int .i64 (sumB ps)], .bool (sumO ps)]) ∧ Below w.heap.size w w' := by
  have hl := h.1
  have bl1 : Below w.heap.size w (w.alloc (.cells #[.int .i64 0, .int .i64 0] 35)) := (Below.refl _ _).alloc (Nat.le_refl _) _
  by_cases h1 : 100 < (n : Int)
  · have e1 := sum_no1 hl h1
    obtain ⟨e2, e3⟩ := sum_no e1
    have HF := Lib.hid (⟨e2.symm, e3.symm, e1.symm⟩ : (0 : Int) = sumT ps ∧ (0 : Int) = sumB ps ∧ false = sumO ps)
    clear e1 e2 e3 hl
    go_enter Try.func21, Try.ntmps21
    go_wp2_with fail
    refine bodyPost_ret (v := .tuple #[.agg #[.int .i64 0, .int .i64 0], .bool false]) (by simp [results, Try.results21, go_sem]) rfl ⟨ret_sum HF.out, ?_⟩
    first | exact bl1 | exact (bl1.setCell (by simp) _).setCell (by simp) _
  · have HL := Lib.hid hl; clear hl
    have bl2 : Below w.heap.size w ((w.alloc (.cells #[.int .i64 0, .int .i64 0] 35)).alloc (.cells #[.int .i64 0, .int .i64 1] 35)) := bl1.alloc (by simp) _
    have st : Sum2 ((w.alloc (.cells #[.int .i64 0, .int .i64 0] 35)).alloc (.cells #[.int .i64 0, .int .i64 1] 35)) w.heap.size (sT ps 0) (sB ps 0) := by
      show Sum2 _ _ 0 1
      constructor <;> simp [go_sem]
    have ST := Lib.hid st; clear st
    go_enter Try.func21, Try.ntmps21
    go_wp2_with fail
    go_loopw [16] (fun u wr => ∃ k : Nat, (k : Int) ≤ n ∧ u = .int .i64 k ∧ sO ps k = true ∧ Sum2 wr w.heap.size (sT ps k) (sB ps k) ∧ Below w.heap.size w wr) (fun u _ => n - (intOf u).toNat)
    case atStart => exact ⟨0, by omega, rfl, rfl, ST.out, bl2⟩
    case round =>
      obtain ⟨k, hk, rfl, hok, hs, hb⟩ := hrel
      have HO := Lib.hid hok; clear hok
      by_cases hlt : (k : Int) < n
      · obtain ⟨b, o, rfl, hbs, q1, q2⟩ := (h.on hb).at_ (k := k) (by omega)
        obtain ⟨r0, r1, s0, s1, f0, f1, g0, g1, hz⟩ := id hs
        have hz2 : w.heap.size < wr.heap.size := by omega
        have HN := Lib.hid (s_next HO.out)
        have bA : Below wr.heap.size wr (wr.alloc (.cells #[.int .i64 (p1 ps k), .int .i64 (p2 ps k)] 35)) := (Below.refl _ _).alloc (Nat.le_refl _) _
        have hsA := hs.keep bA
        clear hs r0 r1 f0 f1 g0 g1
        go_wp2_with fail
        refine (specAddFractions _ _ _ _ _).mono ?_; rintro e w1 ⟨rfl, b1⟩
        rw [addV_open]
        have hs1 := hsA.keep b1
        have hz1 := hs1.size
        have hz3 : w.heap.size < w1.heap.size := by omega
        have n1 : w1.heap.size ≠ w.heap.size := by omega
        have n2 : w.heap.size ≠ w1.heap.size := by omega
        have n3 : w1.heap.size ≠ w.heap.size + 1 := by omega
        have n4 : w.heap.size + 1 ≠ w1.heap.size := by omega
        have bw : Below wr.heap.size wr w1 := bA.trans (b1.mono (by simp))
        have bw2 := Below.on hb bw
        have hbz := hb.size
        have hbz1 := bw.size
        cases ho : addOk (sT ps k) (sB ps k) (p1 ps k) (p2 ps k) with
        | false =>
          have e1 := sum_no2 HL.out (show k + 1 ≤ n by omega) (HN.out.2.2.trans ho)
          obtain ⟨e2, e3⟩ := sum_no e1
          have HF := Lib.hid (⟨e2.symm, e3.symm, e1.symm⟩ : (0 : Int) = sumT ps ∧ (0 : Int) = sumB ps ∧ false = sumO ps)
          clear e1 e2 e3
          obtain ⟨r0, r1, s0, s1, f0, f1, g0, g1, hz⟩ := id hs1
          go_wp2_with fail
          refine bodyPost_ret (v := .tuple #[.agg #[.int .i64 0, .int .i64 0], .bool false]) (by simp [results, Try.results21, go_sem, r0, r1, hz3]) rfl ⟨ret_sum HF.out, ?_⟩
          first | exact ((bw2.setCell (by simp) _).setCell (by simp) _).alloc (by simp; omega) _ | exact bw2.alloc (by omega) _ | exact ((bw2.alloc (by omega) _).setCell (by simp) _).setCell (by simp) _
        | true =>
          have hso : sO ps (k + 1) = true := HN.out.2.2.trans ho
          have HSO := Lib.hid hso; clear hso
          have hsB := Sum2.put hs1 (addT (sT ps k) (sB ps k) (p1 ps k) (p2 ps k)) (addB (sT ps k) (sB ps k) (p1 ps k) (p2 ps k))
          have hsC := Lib.hid (hsB.keep ((Below.refl _ _).alloc (Nat.le_refl _) (.cells #[.int .i64 (addT (sT ps k) (sB ps k) (p1 ps k) (p2 ps k)), .int .i64 (addB (sT ps k) (sB ps k) (p1 ps k) (p2 ps k))] 35)))
          obtain ⟨r0, r1, s0, s1, f0, f1, g0, g1, hz⟩ := id hs1
          clear hs1 hsA hsB
          go_wp2_with fail
          go_roundw
          case rel => exact ⟨k + 1, by omega, by go_num, HSO.out, by rw [HN.out.1, HN.out.2.1]; exact hsC.out, ((bw2.setCell (by simp) _).setCell (by simp) _).alloc (by simp; omega) _⟩
          case measure => simp [intOf]; omega
      · obtain rfl : k = n := by omega
        obtain ⟨e1, e2, e3⟩ := sum_yes HL.out (by omega) HO.out
        have HF := Lib.hid (⟨e2.symm, e3.symm, e1.symm⟩ : sT ps k = sumT ps ∧ sB ps k = sumB ps ∧ true = sumO ps)
        clear e1 e2 e3
        obtain ⟨r0, r1, s0, s1, f0, f1, g0, g1, hz⟩ := id hs
        clear hs
        go_wp2_with fail
        refine bodyPost_ret (v := .tuple #[.agg #[.int .i64 (sT ps k), .int .i64 (sB ps k)], .bool true]) (by simp [results, Try.results21, go_sem, r0, r1]) rfl ⟨ret_sum HF.out, ?_⟩
        exact (hb.setCell (by simp) _).setCell (by simp) _

set_option maxHeartbeats 4000000 in
theorem implSum (A : Option Addr) (n c : Nat) (ps : List (Int × Int)) (w : World) (h : Pairs w A n ps) (hn : (n : Int) ≤ 1048576) :
    Calls Try.prog 23 #[.slice A n c] w fun e w' => e = .returned (.tuple #[.agg #[.int .i64 (sumT ps), .int .i64 (sumB ps)], .bool (sumO ps)]) ∧ Below w.heap.size w w' := by
  have hl := h.1
  have bl1 : Below w.heap.size w (w.alloc (.cells #[.int .i64 0, .int .i64 0] 35)) := (Below.refl _ _).alloc (Nat.le_refl _) _
  by_cases h1 : 100 < (n : Int)
  · have e1 := sum_no1 hl h1
    obtain ⟨e2, e3⟩ := sum_no e1
    have HF := Lib.hid (⟨e2.symm, e3.symm, e1.symm⟩ : (0 : Int) = sumT ps ∧ (0 : Int) = sumB ps ∧ false = sumO ps)
    clear e1 e2 e3 hl
    go_enter Try.func23, Try.ntmps23
    go_wp2_with fail
    refine bodyPost_ret (v := .tuple #[.agg #[.int .i64 0, .int .i64 0], .bool false]) (by simp [results, Try.results23, go_sem]) rfl ⟨ret_sum HF.out, ?_⟩
    first | exact bl1 | exact (bl1.setCell (by simp) _).setCell (by simp) _
  · have HL := Lib.hid hl; clear hl
    go_enter Try.func23, Try.ntmps23
    go_wp2_with fail
    refine (implWhole _ _).mono ?_; rintro e w0 ⟨rfl, b0⟩
    have s0 : w.heap.size < w0.heap.size := by have := b0.size; simp at this; omega
    have r0 : w0.cell? ⟨w.heap.size, 0, none⟩ = some (.int .i64 0) := (b0.cell (p := ⟨w.heap.size, 0, none⟩) (by simp)).trans (by simp [go_sem])
    have r1 : w0.cell? ⟨w.heap.size, 1, none⟩ = some (.int .i64 0) := (b0.cell (p := ⟨w.heap.size, 1, none⟩) (by simp)).trans (by simp [go_sem])
    have f0 : w0.frozen? ⟨w.heap.size, 0, none⟩ = false := (b0.frozen (p := ⟨w.heap.size, 0, none⟩) (by simp)).trans (by simp [go_sem])
    have f1 : w0.frozen? ⟨w.heap.size, 1, none⟩ = false := (b0.frozen (p := ⟨w.heap.size, 1, none⟩) (by simp)).trans (by simp [go_sem])
    have bl0 := Below.on bl1 b0
    have bl2 := bl0.alloc (by omega) (.cells #[.int .i64 0, .int .i64 1] 35)
    obtain ⟨P, hP⟩ : ∃ P, P = w0.heap.size := ⟨_, rfl⟩
    have st : SumQ (w0.alloc (.cells #[.int .i64 0, .int .i64 1] 35)) w.heap.size w0.heap.size (sT ps 0) (sB ps 0) := by
      show SumQ _ _ _ 0 1
      constructor <;> first | (simp [go_sem, r0, r1, f0, f1, s0]; done) | (simp; omega)
    have ST := Lib.hid st
    clear st r0 r1 f0 f1 bl0 b0
    go_wp2_with fail
    go_loopw [5, 15] (fun v u wr => ∃ k : Nat, (k : Int) ≤ n ∧ v = .bool true ∧ u = .int .i64 k ∧ sO ps k = true ∧ SumQ wr w.heap.size w0.heap.size (sT ps k) (sB ps k) ∧ Below w.heap.size w wr) (fun _ u _ => n - (intOf u).toNat)
    case atStart => exact ⟨0, by omega, rfl, rfl, rfl, ST.out, bl2⟩
    case round =>
      obtain ⟨k, hk, rfl, rfl, hok, hs, hb⟩ := hrel
      have HO := Lib.hid hok; clear hok
      by_cases hlt : (k : Int) < n
      · obtain ⟨b, o, rfl, hbs, q1, q2⟩ := (h.on hb).at_ (k := k) (by omega)
        obtain ⟨r0, r1, s0, s1, f0, f1, g0, g1, hz0, hz⟩ := id hs
        have hz2 : w.heap.size < wr.heap.size := by omega
        have HN := Lib.hid (s_next HO.out)
        have bA : Below wr.heap.size wr (wr.alloc (.cells #[.int .i64 (p1 ps k), .int .i64 (p2 ps k)] 35)) := (Below.refl _ _).alloc (Nat.le_refl _) _
        have hsA := hs.keep bA
        clear hs r0 r1 f0 f1 g0 g1
        go_wp2_with fail
        refine (implAddFractions _ _ _ _ _).mono ?_; rintro e w1 ⟨rfl, b1⟩
        rw [addV_open]
        have hs1 := hsA.keep b1
        have hz1 := hs1.size
        have hz3 := hs1.far
        have hz4 : w.heap.size < w1.heap.size := by omega
        have n1 : w0.heap.size ≠ w.heap.size := by omega
        have n2 : w.heap.size ≠ w0.heap.size := by omega
        have bw : Below wr.heap.size wr w1 := bA.trans (b1.mono (by simp))
        have bw2 := Below.on hb bw
        have hbz := hb.size
        have hbz1 := bw.size
        cases ho : addOk (sT ps k) (sB ps k) (p1 ps k) (p2 ps k) with
        | false =>
          have e1 := sum_no2 HL.out (show k + 1 ≤ n by omega) (HN.out.2.2.trans ho)
          obtain ⟨e2, e3⟩ := sum_no e1
          have HF := Lib.hid (⟨e2.symm, e3.symm, e1.symm⟩ : (0 : Int) = sumT ps ∧ (0 : Int) = sumB ps ∧ false = sumO ps)
          clear e1 e2 e3
          obtain ⟨r0, r1, s0, s1, f0, f1, g0, g1, _, hz⟩ := id hs1
          go_wp2_with fail
          refine bodyPost_ret (v := .tuple #[.agg #[.int .i64 0, .int .i64 0], .bool false]) (by simp [results, Try.results23, go_sem, r0, r1]) rfl ⟨ret_sum HF.out, ?_⟩
          first | exact (bw2.setCell (by simp; omega) _).setCell (by simp; omega) _ | exact (((bw2.setCell (by simp; omega) _).setCell (by simp; omega) _).setCell (by simp) _).setCell (by simp) _
        | true =>
          have hso : sO ps (k + 1) = true := HN.out.2.2.trans ho
          have HSO := Lib.hid hso; clear hso
          have hsC := Lib.hid (SumQ.put hs1 (addT (sT ps k) (sB ps k) (p1 ps k) (p2 ps k)) (addB (sT ps k) (sB ps k) (p1 ps k) (p2 ps k)))
          obtain ⟨r0, r1, s0, s1, f0, f1, g0, g1, _, hz⟩ := id hs1
          clear hs1 hsA
          go_wp2_with fail
          go_roundw
          case rel => exact ⟨k + 1, by omega, rfl, by go_num, HSO.out, by rw [HN.out.1, HN.out.2.1]; exact hsC.out, (bw2.setCell (by simp; omega) _).setCell (by simp; omega) _⟩
          case measure => simp [intOf]; omega
      · obtain rfl : k = n := by omega
        obtain ⟨e1, e2, e3⟩ := sum_yes HL.out (by omega) HO.out
        have HF := Lib.hid (⟨e2.symm, e3.symm, e1.symm⟩ : sT ps k = sumT ps ∧ sB ps k = sumB ps ∧ true = sumO ps)
        clear e1 e2 e3
        obtain ⟨r0, r1, s0, s1, f0, f1, g0, g1, hz0, hz⟩ := id hs
        clear hs
        go_wp2_with fail
        refine bodyPost_ret (v := .tuple #[.agg #[.int .i64 (sT ps k), .int .i64 (sB ps k)], .bool true]) (by simp [results, Try.results23, go_sem, r0, r1]) rfl ⟨ret_sum HF.out, ?_⟩
        exact (hb.setCell (by simp) _).setCell (by simp) _

end Go.Proofs.Ytadacfammhianaa
