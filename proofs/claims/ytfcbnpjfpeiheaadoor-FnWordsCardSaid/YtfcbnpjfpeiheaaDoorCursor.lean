/- The draws of the laws: a cursor over the code's bytes: what it yields lies in its range. -/
import Derived.Test.YtfcbnpjfpeiheaaDoorInts
import Derived.Deep.QuietTactic
import Derived.BigQuiet
namespace Go.Proofs.YtfcbnpjfpeiheaaDoor
open Go.RowKit
set_option maxRecDepth 100000

theorem and255 (x : Int) : 0 ≤ bits .and .i64 x 255 ∧ bits .and .i64 x 255 ≤ 255 := by
  have e : bits .and .i64 x 255 = IntKind.i64.wrap ((BitVec.ofInt 64 x &&& BitVec.ofInt 64 255).toNat : Int) := rfl
  rw [e, BitVec.toNat_and, show (BitVec.ofInt 64 255).toNat = 255 by decide, IntKind.wrap_i64]
  have := Nat.and_le_right (n := (BitVec.ofInt 64 x).toNat) (m := 255)
  omega
/-- The slice's bytes are bytes, and lie below block B. -/
def Byts (w : World) (B : Nat) (A : Option Addr) (n : Nat) : Prop := 0 < n → ∃ b o, A = some ⟨b, o, none⟩ ∧ b < B ∧ b < w.heap.size ∧ ∀ j, j < n → ∃ x : Int, w.cell? ⟨b, o + j, none⟩ = some (.int .u8 x) ∧ 0 ≤ x ∧ x ≤ 255
theorem Byts.keep {w w' : World} {B : Nat} {A : Option Addr} {n : Nat} (h : Byts w B A n) (hs : w.heap.size ≤ w'.heap.size) (hk : ∀ b o, b < B → b < w.heap.size → w'.cell? ⟨b, o, none⟩ = w.cell? ⟨b, o, none⟩) : Byts w' B A n := fun hn => by
  obtain ⟨b, o, e, h1, h2, h3⟩ := h hn
  exact ⟨b, o, e, h1, by omega, fun j hj => by obtain ⟨x, hx⟩ := h3 j hj; exact ⟨x, (hk b _ h1 h2).trans hx.1, hx.2⟩⟩
theorem Byts.at_ {w : World} {B : Nat} {A : Option Addr} {n k : Nat} (h : Byts w B A n) (hk : k < n) : ∃ b o, A = some ⟨b, o, none⟩ ∧ b < B ∧ b < w.heap.size ∧ ∃ x : Int, w.cell? ⟨b, o + k, none⟩ = some (.int .u8 x) ∧ 0 ≤ x ∧ x ≤ 255 := by
  obtain ⟨b, o, e, h1, h2, h3⟩ := h (by omega)
  exact ⟨b, o, e, h1, h2, h3 k hk⟩
/-- A cursor in block P, over bytes that lie below block B. -/
def Cur (w : World) (B P : Nat) : Prop := B ≤ P ∧ P < w.heap.size ∧ ∃ (A : Option Addr) (n c : Nat) (i h : Int), w.cell? ⟨P, 0, none⟩ = some (.slice A n c) ∧ (n : Int) ≤ 1048576 ∧ Byts w B A n ∧ w.cell? ⟨P, 1, none⟩ = some (.int .i64 i) ∧ 0 ≤ i ∧ w.cell? ⟨P, 2, none⟩ = some (.int .i64 h) ∧ w.frozen? ⟨P, 1, none⟩ = false ∧ w.frozen? ⟨P, 2, none⟩ = false
theorem Cur.on {w w' : World} {B P : Nat} (h : Cur w B P) (hb : Below w.heap.size w w') : Cur w' B P := by
  obtain ⟨h1, h2, A, n, c, i, q, c0, hn, hB, c1, hi, c2, f1, f2⟩ := h
  exact ⟨h1, Nat.lt_of_lt_of_le h2 hb.size, A, n, c, i, q, (hb.cell (p := ⟨P, 0, none⟩) h2).trans c0, hn, hB.keep hb.size (fun b o _ hlt => hb.cell (p := ⟨b, o, none⟩) hlt), (hb.cell (p := ⟨P, 1, none⟩) h2).trans c1, hi, (hb.cell (p := ⟨P, 2, none⟩) h2).trans c2, (hb.frozen (p := ⟨P, 1, none⟩) h2).trans f1, (hb.frozen (p := ⟨P, 2, none⟩) h2).trans f2⟩
/-- Another row grows or is written. -/
theorem Cur.grown {w w' : World} {B P : Nat} {row : Option Nat} (h : Cur w B P) (hg : w.grownBy w' row) (hr : ∀ r, row = some r → B ≤ r ∧ r ≠ P) : Cur w' B P := by
  obtain ⟨h1, h2, A, n, c, i, q, c0, hn, hB, c1, hi, c2, f1, f2⟩ := h
  have hP : some P ≠ row := fun e => (hr P e.symm).2 rfl
  have k : ∀ o, w'.cell? ⟨P, o, none⟩ = w.cell? ⟨P, o, none⟩ := fun o => World.cell?_of_block (w := w) (a := ⟨P, o, none⟩) (hg.block P h2 hP)
  have kf : ∀ o, w'.frozen? ⟨P, o, none⟩ = w.frozen? ⟨P, o, none⟩ := fun o => World.frozen?_of_block (w := w) (a := ⟨P, o, none⟩) (hg.block P h2 hP)
  exact ⟨h1, Nat.lt_of_lt_of_le h2 hg.size, A, n, c, i, q, (k 0).trans c0, hn, hB.keep hg.size (fun b o hlt hlt2 => World.cell?_of_block (w := w) (a := ⟨b, o, none⟩) (hg.block b hlt2 (fun e => by have := (hr b e.symm).1; omega))), (k 1).trans c1, hi, (k 2).trans c2, (kf 1).trans f1, (kf 2).trans f2⟩
theorem grown_of_set {w : World} {P o : Nat} (v : Value) : w.grownBy (w.setCell ⟨P, o, none⟩ v) (some P) :=
  ⟨rfl, rfl, rfl, by simp, fun k hk hne => Below.heap_setCell _ _ _ _ (by intro e; exact hne (by rw [e]))⟩
theorem grown_drewN {a w : World} {row : Option Nat} (h : a.grownBy w row) (k : Nat) : a.grownBy (w.drewN k) row := ⟨h.os, h.tape, h.output, h.size, h.block⟩

/-- The cursor moved on. -/
theorem Cur.put {W : World} {B P : Nat} {A : Option Addr} {n c : Nat} {i h : Int} (h1 : B ≤ P) (h2 : P < W.heap.size) (c0 : W.cell? ⟨P, 0, none⟩ = some (.slice A n c)) (hn : (n : Int) ≤ 1048576) (hB : Byts W B A n) (c1 : W.cell? ⟨P, 1, none⟩ = some (.int .i64 i)) (c2 : W.cell? ⟨P, 2, none⟩ = some (.int .i64 h)) (f1 : W.frozen? ⟨P, 1, none⟩ = false) (f2 : W.frozen? ⟨P, 2, none⟩ = false) {j : Int} (hj : 0 ≤ j) : Cur (W.setCell ⟨P, 1, none⟩ (.int .i64 j)) B P :=
  ⟨h1, by simpa using h2, A, n, c, j, h, (World.cell?_setCell_other _ _ _ _ (by simp)).trans c0, hn, hB.keep (by simp) (fun b o hlt _ => World.cell?_setCell_other _ _ _ _ (by simp; try omega)), World.cell?_setCell_same _ _ _ c1, hj, (World.cell?_setCell_other _ _ _ _ (by simp)).trans c2, by simp [go_sem, f1], by simp [go_sem, f2]⟩
theorem Cur.mk' {W : World} {B P : Nat} {A : Option Addr} {n c : Nat} {i h : Int} (h1 : B ≤ P) (h2 : P < W.heap.size) (c0 : W.cell? ⟨P, 0, none⟩ = some (.slice A n c)) (hn : (n : Int) ≤ 1048576) (hB : Byts W B A n) (c1 : W.cell? ⟨P, 1, none⟩ = some (.int .i64 i)) (c2 : W.cell? ⟨P, 2, none⟩ = some (.int .i64 h)) (f1 : W.frozen? ⟨P, 1, none⟩ = false) (f2 : W.frozen? ⟨P, 2, none⟩ = false) (hj : 0 ≤ i) : Cur W B P := ⟨h1, h2, A, n, c, i, h, c0, hn, hB, c1, hj, c2, f1, f2⟩
theorem Cur.drewN {W : World} {B P : Nat} (h : Cur W B P) (k : Nat) : Cur (W.drewN k) B P := h

set_option maxHeartbeats 4000000 in
theorem specByte (B P : Nat) (w : World) (h : Cur w B P) :
    Calls Tryd.prog 32 #[.pointer (some ⟨P, 0, none⟩)] w fun e w' => ∃ r : Int, e = .returned (.int .i64 r) ∧ 0 ≤ r ∧ r ≤ 255 ∧ Cur w' B P ∧ w.grownBy w' (some P) := by
  obtain ⟨h1, h2, A, n, c, i, q, c0, hn, hB, c1, hi, c2, f1, f2⟩ := h
  obtain ⟨k, rfl⟩ : ∃ k : Nat, i = (k : Int) := ⟨i.toNat, by omega⟩
  have HA := Lib.hid and255
  go_enter Tryd.func32, Tryd.ntmps32
  go_wp2
  generalize wrap64 (wrap64 (q * 6364136223846793005) + 1442695040888963407) = v
  have gr : w.grownBy (w.setCell ⟨P, 2, none⟩ (.int .i64 v)) (some P) := grown_of_set _
  have e0 : (w.setCell ⟨P, 2, none⟩ (.int .i64 v)).cell? ⟨P, 0, none⟩ = some (.slice A n c) := (World.cell?_setCell_other _ _ _ _ (by simp)).trans c0
  have e1 : (w.setCell ⟨P, 2, none⟩ (.int .i64 v)).cell? ⟨P, 1, none⟩ = some (.int .i64 k) := (World.cell?_setCell_other _ _ _ _ (by simp)).trans c1
  have e2 : (w.setCell ⟨P, 2, none⟩ (.int .i64 v)).cell? ⟨P, 2, none⟩ = some (.int .i64 v) := World.cell?_setCell_same _ _ _ c2
  have z1 : (w.setCell ⟨P, 2, none⟩ (.int .i64 v)).frozen? ⟨P, 1, none⟩ = false := by simp [go_sem, f1]
  have z2 : (w.setCell ⟨P, 2, none⟩ (.int .i64 v)).frozen? ⟨P, 2, none⟩ = false := by simp [go_sem, f2]
  have hB2 : Byts (w.setCell ⟨P, 2, none⟩ (.int .i64 v)) B A n := hB.keep (by simp) (fun b o hlt _ => World.cell?_setCell_other _ _ _ _ (by simp; try omega))
  have h3 : P < (w.setCell ⟨P, 2, none⟩ (.int .i64 v)).heap.size := by simpa using h2
  clear c0 c1 c2 f1 f2 hB h2
  generalize w.setCell ⟨P, 2, none⟩ (.int .i64 v) = W at *
  by_cases hlt : (k : Int) < n
  · obtain ⟨b, o, rfl, hb1, hb2, x, hc, hx0, hx1⟩ := hB2.at_ (k := k) (by omega)
    go_quiet (fail)
    go_wp2
    go_quiet (fail)
    go_wp2
    go_quiet (fail)
    go_wp2
    go_ret
    exact ⟨_, rfl, (HA.out _).1, (HA.out _).2, Cur.put (W := W.drewN _) h1 h3 e0 hn hB2 e1 e2 z1 z2 (by omega), grown_trans (grown_drewN gr _) (grown_of_set _)⟩
  · go_quiet (fail)
    go_wp2
    go_quiet (fail)
    go_wp2
    go_ret
    exact ⟨_, rfl, (HA.out _).1, (HA.out _).2, ((Cur.mk' h1 h3 e0 hn hB2 e1 e2 z1 z2 (by omega)).drewN _).drewN _, grown_drewN (grown_drewN gr _) _⟩

set_option maxHeartbeats 2000000 in
theorem specBelow (B P : Nat) (n : Int) (w : World) (h : Cur w B P) (hn : n ≤ 9223372036854775807) :
    Calls Tryd.prog 36 #[.pointer (some ⟨P, 0, none⟩), .int .i64 n] w fun e w' => ∃ r : Int, e = .returned (.int .i64 r) ∧ 0 ≤ r ∧ (1 ≤ n → r < n) ∧ Cur w' B P ∧ w.grownBy w' (some P) := by
  by_cases h0 : n ≤ 0
  · go_enter Tryd.func36, Tryd.ntmps36
    go_wp2_with fail
    go_ret
    exact ⟨0, rfl, by omega, by omega, h, World.grownBy.refl _ _⟩
  · by_cases h1 : n ≤ 256
    · go_enter Tryd.func36, Tryd.ntmps36
      go_wp2_with fail
      refine (specByte B P _ h).mono ?_; rintro e w1 ⟨r, rfl, r1, r2, c1, g1⟩
      have hm := Int.emod_nonneg r (show n ≠ 0 by omega)
      have hl := Int.emod_lt_of_pos r (show 0 < n by omega)
      go_wp2_with fail
      go_ret
      exact ⟨r % n, rfl, hm, fun _ => hl, c1, g1⟩
    · go_enter Tryd.func36, Tryd.ntmps36
      go_wp2_with fail
      refine (specByte B P _ h).mono ?_; rintro e w1 ⟨a, rfl, a1, a2, c1, g1⟩
      go_wp2_with fail
      refine (specByte B P _ c1).mono ?_; rintro e w2 ⟨b, rfl, b1, b2, c2, g2⟩
      go_wp2_with fail
      refine (specByte B P _ c2).mono ?_; rintro e w3 ⟨c, rfl, d1, d2, c3, g3⟩
      go_wp2_with fail
      refine (specByte B P _ c3).mono ?_; rintro e w4 ⟨d, rfl, e1, e2, c4, g4⟩
      have hm := Int.emod_nonneg (a * 16777216 + b * 65536 + c * 256 + d) (show n ≠ 0 by omega)
      have hl := Int.emod_lt_of_pos (a * 16777216 + b * 65536 + c * 256 + d) (show 0 < n by omega)
      go_wp2_with fail
      go_ret
      exact ⟨(a * 16777216 + b * 65536 + c * 256 + d) % n, rfl, hm, fun _ => hl, c4, grown_trans g1 (grown_trans g2 (grown_trans g3 g4))⟩

theorem cur_new {w : World} {A : Option Addr} {n c : Nat} {q : Int} {T : TypeId} (h : Byts w w.heap.size A n) (hn : (n : Int) ≤ 1048576) : Cur (w.alloc (.cells #[.slice A n c, .int .i64 0, .int .i64 q] T)) w.heap.size w.heap.size :=
  have hb : Below w.heap.size w (w.alloc (.cells #[.slice A n c, .int .i64 0, .int .i64 q] T)) := (Below.refl _ _).alloc (Nat.le_refl _) _
  ⟨Nat.le_refl _, by simp, A, n, c, 0, q, by simp, hn, h.keep hb.size (fun b o _ hlt => hb.cell (p := ⟨b, o, none⟩) hlt), by simp, by omega, by simp, by simp, by simp⟩

set_option maxHeartbeats 2000000 in
theorem specNew (A : Option Addr) (n c : Nat) (w : World) (h : Byts w w.heap.size A n) (hn : (n : Int) ≤ 1048576) :
    Calls Tryd.prog 35 #[.slice A n c] w fun e w' => e = .returned (.pointer (some ⟨w.heap.size, 0, none⟩)) ∧ Cur w' w.heap.size w.heap.size ∧ Below w.heap.size w w' := by
  go_enter Tryd.func35, Tryd.ntmps35
  go_wp2_with fail
  go_loop [3, 4] (fun u v => ∃ (k : Nat) (q : Int), (k : Int) ≤ n ∧ u = .int .i64 q ∧ v = .int .i64 k) (fun _ v => n - (intOf v).toNat)
  case atStart => exact ⟨0, 2139 + n, by omega, rfl, rfl⟩
  case round =>
    obtain ⟨k, q, hk, rfl, rfl⟩ := hrel
    by_cases hlt : (k : Int) < n
    · obtain ⟨b, o, rfl, hb1, hb2, x, hc, hx0, hx1⟩ := h.at_ (k := k) (by omega)
      by_cases hlt2 : (k : Int) < 4000
      · go_wp2
        go_round
        case rel => exact ⟨k + 1, _, by omega, rfl, by go_num⟩
        case measure => simp [intOf]; omega
      · go_wp2
        go_ret
        exact ⟨rfl, cur_new h hn, (Below.refl _ _).alloc (Nat.le_refl _) _⟩
    · go_wp2
      go_ret
      exact ⟨rfl, cur_new h hn, (Below.refl _ _).alloc (Nat.le_refl _) _⟩

set_option maxHeartbeats 2000000 in
theorem specNewN (A : Option Addr) (n c : Nat) (m : Int) (w : World) (h : Byts w w.heap.size A n) (hn : (n : Int) ≤ 1048576) (hm : 0 ≤ m ∧ m ≤ 1000) :
    Calls Tryd.prog 31 #[.slice A n c, .int .i64 m] w fun e w' => e = .returned (.pointer (some ⟨w.heap.size, 0, none⟩)) ∧ Cur w' w.heap.size w.heap.size ∧ Below w.heap.size w w' := by
  obtain ⟨q, rfl⟩ : ∃ q : Nat, m = (q : Int) := ⟨m.toNat, by omega⟩
  go_enter Tryd.func31, Tryd.ntmps31
  go_wp2_with fail
  refine (specNew A n c _ h hn).mono ?_; rintro e w1 ⟨rfl, c1, b1⟩
  go_wp2_with fail
  go_loopw [6] (fun u wr => ∃ k : Nat, (k : Int) ≤ q ∧ u = .int .i64 k ∧ Cur wr w.heap.size w.heap.size ∧ Below w.heap.size w wr) (fun u _ => q - (intOf u).toNat)
  case atStart => exact ⟨0, by omega, rfl, c1, b1⟩
  case round =>
    obtain ⟨k, hk, rfl, hc, hb⟩ := hrel
    have hbz := hb.size
    by_cases hlt : (k : Int) < q
    · go_wp2_with fail
      refine (specByte _ _ _ hc).mono ?_; rintro e w2 ⟨r, rfl, r1, r2, c2, g2⟩
      go_wp2_with fail
      go_roundw
      case rel => exact ⟨k + 1, by omega, by go_num, c2, hb.grown g2 hbz (fun j hj => by injection hj with hj; omega)⟩
      case measure => simp [intOf]; omega
    · go_wp2
      go_ret
      exact ⟨rfl, hc, hb⟩

set_option maxHeartbeats 1000000 in
theorem specMakeNum (A : Option Addr) (n c : Nat) (m : Int) (w : World) (h : Byts w w.heap.size A n) (hn : (n : Int) ≤ 1048576) (hm : 0 ≤ m ∧ m ≤ 1000) :
    Calls Tryd.prog 12 #[.slice A n c, .int .i64 m] w fun e w' => ∃ r : Int, e = .returned (.int .i64 r) ∧ 0 ≤ r ∧ r ≤ 65535 ∧ Below w.heap.size w w' := by
  go_enter Tryd.func12, Tryd.ntmps12
  go_wp2_with fail
  refine (specNewN A n c m _ h hn hm).mono ?_; rintro e w1 ⟨rfl, c1, b1⟩
  go_wp2_with fail
  refine (specByte _ _ _ c1).mono ?_; rintro e w2 ⟨x, rfl, x1, x2, c2, g2⟩
  go_wp2_with fail
  refine (specByte _ _ _ c2).mono ?_; rintro e w3 ⟨y, rfl, y1, y2, c3, g3⟩
  go_wp2_with fail
  go_ret
  exact ⟨x * 256 + y, rfl, by omega, by omega, (b1.grown g2 b1.size (fun j hj => by injection hj with hj; omega)).grown g3 (Nat.le_trans b1.size g2.size) (fun j hj => by injection hj with hj; omega)⟩
theorem Byts.on {w w' : World} {A : Option Addr} {n : Nat} (h : Byts w w.heap.size A n) (hb : Below w.heap.size w w') : Byts w' w'.heap.size A n := fun hn => by
  obtain ⟨b, o, e, h1, h2, h3⟩ := h hn
  exact ⟨b, o, e, Nat.lt_of_lt_of_le h1 hb.size, Nat.lt_of_lt_of_le h2 hb.size, fun j hj => by obtain ⟨x, hx⟩ := h3 j hj; exact ⟨x, (hb.cell (p := ⟨b, o + j, none⟩) h2).trans hx.1, hx.2⟩⟩
end Go.Proofs.YtfcbnpjfpeiheaaDoor
