/- A drawn fraction. -/
import Derived.Test.YtadacfammhianaaCursor
import Derived.Test.YtadacfammhianaaPlainFr
namespace Go.Proofs.Ytadacfammhianaa
open Go.RowKit
set_option maxRecDepth 100000

theorem New.grown {S n : Nat} {w w' : World} {row : Option Nat} (h : New S w n) (g : w.grownBy w' row) (hr : ∀ r, row = some r → r ≠ n) : New S w' n := by
  obtain ⟨h0, h1, h2, h3, h4, h5⟩ := h
  have hP : some n ≠ row := fun e => hr n e.symm rfl
  have k : ∀ o, w'.cell? ⟨n, o, none⟩ = w.cell? ⟨n, o, none⟩ := fun o => World.cell?_of_block (w := w) (a := ⟨n, o, none⟩) (g.block n h4 hP)
  have kf : ∀ o, w'.frozen? ⟨n, o, none⟩ = w.frozen? ⟨n, o, none⟩ := fun o => World.frozen?_of_block (w := w) (a := ⟨n, o, none⟩) (g.block n h4 hP)
  exact ⟨(k 0).trans h0, (k 1).trans h1, (kf 0).trans h2, (kf 1).trans h3, Nat.lt_of_lt_of_le h4 g.size, h5⟩
theorem new_made (w : World) (T : TypeId) : New w.heap.size (w.alloc (.cells #[.int .i64 0, .int .i64 0] T)) w.heap.size := ⟨by simp, by simp, by simp, by simp, by simp, Nat.le_refl _⟩
/-- What FractionOf gives for what is drawn. -/
theorem drawn_of {a b : Int} (ha : 0 ≤ a ∧ a < 21) (hb : 0 ≤ b ∧ b < 8) : foR (a - 6) (1 + b) = true ∧ ∃ x y, foT (a - 6) (1 + b) = x ∧ foB (a - 6) (1 + b) = y ∧ Drawn x y := by
  have hk : foOk (a - 6) (1 + b) = true := by
    simp only [foOk, inB, Bool.and_eq_true, decide_eq_true_eq, Bool.not_eq_true', beq_eq_false_iff_ne]
    omega
  obtain ⟨r, p, q, e1, e2, k1, k2, k3, k4⟩ := red_res (t := a - 6) (b := 1 + b) (by omega) (by omega) (by omega)
  have := k1.1
  exact ⟨by simp [foR, hk, r], p, q, by simp [foT, hk, e1], by simp [foB, hk, e2], k1, by omega, by omega⟩

set_option maxHeartbeats 4000000 in
theorem specDrawF (B P : Nat) (w : World) (h : Cur w B P) (hB : B ≤ w.heap.size) :
    Calls Try.prog 45 #[.pointer (some ⟨P, 0, none⟩)] w fun e w' => ∃ x y : Int, e = .returned (.agg #[.int .i64 x, .int .i64 y]) ∧ Drawn x y ∧ Below B w w' := by
  have hPw := h.2.1
  have hBP := h.1
  have N0 := new_made w 35
  have b0 : Below B w (w.alloc (.cells #[.int .i64 0, .int .i64 0] 35)) := (Below.refl _ _).alloc hB _
  have c0 := h.on ((Below.refl w.heap.size w).alloc (Nat.le_refl _) (.cells #[.int .i64 0, .int .i64 0] 35))
  go_enter Try.func45, Try.ntmps45
  go_wp2_with fail
  generalize w.alloc (.cells #[.int .i64 0, .int .i64 0] 35) = W at *
  refine (specBelow B P 21 _ c0 (by omega)).mono ?_; rintro e w1 ⟨r1, rfl, r1a, r1b, c1, g1⟩
  have r1c := r1b (by omega)
  have N1 := N0.grown g1 (fun r e => by injection e with e; omega)
  have b1 := b0.grown g1 (by have := b0.size; omega) (fun z hz => by injection hz with hz; omega)
  clear r1b N0 b0 c0 g1
  go_wp2_with fail
  refine (specBelow B P 8 _ c1 (by omega)).mono ?_; rintro e w2 ⟨r2, rfl, r2a, r2b, c2, g2⟩
  have r2c := r2b (by omega)
  have N2 := N1.grown g2 (fun r e => by injection e with e; omega)
  have b2 := b1.grown g2 (by have := b1.size; omega) (fun z hz => by injection hz with hz; omega)
  clear r2b N1 b1 c1 g2
  obtain ⟨HO, x, y, HX, HY, HDr⟩ := drawn_of (a := r1) (b := r2) ⟨r1a, r1c⟩ ⟨r2a, r2c⟩
  have HO := Lib.hid HO
  have HX := Lib.hid HX
  have HY := Lib.hid HY
  have HDr := Lib.hid HDr
  go_wp2_with fail
  refine (specFractionOfX (r1 - 6) (1 + r2) _).mono ?_; rintro e w3 ⟨rfl, b⟩
  rw [HO.out, HX.out, HY.out]
  have N3 := N2.on b
  have b3 := b2.trans (b.mono (by have := b2.size; omega))
  clear N2 b2 b
  obtain ⟨n0, n1, n2, n3, n4, n5⟩ := N3
  have a0 : (w3.alloc (.cells #[.int .i64 x, .int .i64 y] 35)).cell? ⟨w3.heap.size, 0, none⟩ = some (.int .i64 x) := by simp
  have a1 : (w3.alloc (.cells #[.int .i64 x, .int .i64 y] 35)).cell? ⟨w3.heap.size, 1, none⟩ = some (.int .i64 y) := by simp
  obtain ⟨V, hV⟩ : ∃ V, V = (w3.setCell ⟨w.heap.size, 0, none⟩ (.int .i64 x)).setCell ⟨w.heap.size, 1, none⟩ (.int .i64 y) := ⟨_, rfl⟩
  have q0 : V.cell? ⟨w.heap.size, 0, none⟩ = some (.int .i64 x) := by subst hV; simp [go_sem, n0]
  have q1 : V.cell? ⟨w.heap.size, 1, none⟩ = some (.int .i64 y) := by subst hV; simp [go_sem, n1]
  have qs : w.heap.size < V.heap.size := by subst hV; simpa using n4
  have qb : Below B w V := by subst hV; exact (b3.setCell hB _).setCell hB _
  have hbb : Below V.heap.size V (V.alloc (.cells #[.int .i64 x, .int .i64 y] 35)) := (Below.refl _ _).alloc (Nat.le_refl _) _
  have e0 := (hbb.cell (p := ⟨w.heap.size, 0, none⟩) qs).trans q0
  have e1 := (hbb.cell (p := ⟨w.heap.size, 1, none⟩) qs).trans q1
  have eb : Below B w (V.alloc (.cells #[.int .i64 x, .int .i64 y] 35)) := qb.alloc (by have := qb.size; omega) _
  clear hbb q0 q1 qs qb
  subst hV
  go_wp2_with fail
  exact bodyPost_ret (v := .agg #[.int .i64 x, .int .i64 y]) (by simp only [results, Try.results45]; simp [go_sem, e0, e1]) rfl ⟨x, y, rfl, HDr.out, eb⟩

set_option maxHeartbeats 1000000 in
theorem specMakeF (A : Option Addr) (n c : Nat) (q : Int) (w : World) (h : Byts w w.heap.size A n) (hn : (n : Int) ≤ 1048576) (hq : 0 ≤ q ∧ q ≤ 1000) :
    Calls Try.prog 28 #[.slice A n c, .int .i64 q] w fun e w' => ∃ x y : Int, e = .returned (.agg #[.int .i64 x, .int .i64 y]) ∧ Drawn x y ∧ Below w.heap.size w w' := by
  have N0 := new_made w 35
  have b0 : Below w.heap.size w (w.alloc (.cells #[.int .i64 0, .int .i64 0] 35)) := (Below.refl _ _).alloc (Nat.le_refl _) _
  have h := h.on b0
  go_enter Try.func28, Try.ntmps28
  go_wp2_with fail
  generalize w.alloc (.cells #[.int .i64 0, .int .i64 0] 35) = W at *
  refine (specNewN A n c q _ h hn hq).mono ?_; rintro e w1 ⟨rfl, c1, b1⟩
  have N1 := N0.on b1
  have b2 := b0.trans (b1.mono b0.size)
  have hz := N0.2.2.2.2.1
  clear N0 b0
  go_wp2_with fail
  refine (specDrawF _ _ _ c1 b1.size).mono ?_; rintro e w2 ⟨x, y, rfl, hD, b3⟩
  have HDr := Lib.hid hD; clear hD
  obtain ⟨n0, n1, n2, n3, n4, n5⟩ := N1
  have bl := b2.trans (b3.mono (by have := b2.size; have := b1.size; omega))
  clear b2
  have n0 := (b3.cell (p := ⟨w.heap.size, 0, none⟩) hz).trans n0
  have n1 := (b3.cell (p := ⟨w.heap.size, 1, none⟩) hz).trans n1
  have n2 := (b3.frozen (p := ⟨w.heap.size, 0, none⟩) hz).trans n2
  have n3 := (b3.frozen (p := ⟨w.heap.size, 1, none⟩) hz).trans n3
  go_wp2_with fail
  refine bodyPost_ret (v := .agg #[.int .i64 x, .int .i64 y]) (by simp [results, Try.results28, go_sem, n0, n1]) rfl ⟨x, y, rfl, HDr.out, ?_⟩
  exact (bl.setCell (Nat.le_refl _) _).setCell (Nat.le_refl _) _
theorem pairs_two (w : World) (T : TypeId) (a b c d : Int) : Pairs (w.alloc (.cells #[.int .i64 a, .int .i64 b, .int .i64 c, .int .i64 d] T)) (some ⟨w.heap.size, 0, none⟩) 2 [(a, b), (c, d)] := by
  refine ⟨rfl, fun _ => ⟨w.heap.size, 0, rfl, by simp, fun j hj => ?_⟩⟩
  have : j = 0 ∨ j = 1 := by omega
  rcases this with rfl | rfl <;> simp [p1, p2, pnth]
theorem pairs_two' {w : World} {T : TypeId} {B : Nat} (h : w.heap.size = B) (a b c d : Int) : Pairs (w.alloc (.cells #[.int .i64 a, .int .i64 b, .int .i64 c, .int .i64 d] T)) (some ⟨B, 0, none⟩) 2 [(a, b), (c, d)] := by
  subst h; exact pairs_two w T a b c d
end Go.Proofs.Ytadacfammhianaa
