/- Whether approvals are valid: what the laws' helpers, the program's and the reference's functions compute. -/
import Derived.Test.YtaclpilehlednaaApprS
import Derived.Test.YtaclpilehlednaaRank2
namespace Go.Proofs.Ytaclpilehlednaa
open Go.RowKit

/-- The greatest set of m candidates. -/
def topSet (m : Int) : Int := (2 : Int) ^ m.toNat - 1
def apOk (m : Int) (ps : List (Int × Int)) (k : Nat) : Bool := inB (p1 ps k) 0 (topSet m) && inB (p2 ps k) 1 1000
def apsOk (m : Int) (ps : List (Int × Int)) : Bool := (List.range ps.length).all fun k => apOk m ps k
def apprP (m : Int) (ps : List (Int × Int)) : Bool := inB m 1 6 && decide (ps.length ≤ 12) && apsOk m ps
theorem aps_yes {m : Int} {ps : List (Int × Int)} (h : ∀ k, k < ps.length → apOk m ps k = true) : apsOk m ps = true := by
  unfold apsOk
  rw [List.all_eq_true]
  intro k hk
  exact h k (List.mem_range.1 hk)
theorem aps_no {m : Int} {ps : List (Int × Int)} {k : Nat} (hk : k < ps.length) (h : apOk m ps k = false) : apsOk m ps = false := by
  unfold apsOk
  rw [List.all_eq_false]
  exact ⟨k, List.mem_range.2 hk, by simp [h]⟩
theorem appr_no1 {m : Int} {ps : List (Int × Int)} (h : inB m 1 6 = false) : apprP m ps = false := by simp [apprP, h]
theorem appr_no2 {m : Int} {n : Nat} {ps : List (Int × Int)} (hl : ps.length = n) (h : 12 < (n : Int)) : apprP m ps = false := by
  have : ¬ ps.length ≤ 12 := by omega
  simp [apprP, this]
theorem appr_yes {m : Int} {n : Nat} {ps : List (Int × Int)} (h1 : inB m 1 6 = true) (hl : ps.length = n) (h : ¬ 12 < (n : Int)) : apprP m ps = apsOk m ps := by
  have : ps.length ≤ 12 := by omega
  simp [apprP, h1, this]
theorem top_bd {m : Int} (h : 1 ≤ m ∧ m ≤ 6) : 2 ≤ (2 : Int) ^ m.toNat ∧ (2 : Int) ^ m.toNat ≤ 64 := by
  have : m = 1 ∨ m = 2 ∨ m = 3 ∨ m = 4 ∨ m = 5 ∨ m = 6 := by omega
  rcases this with rfl | rfl | rfl | rfl | rfl | rfl <;> decide

/-! ### The laws' helpers -/
set_option maxHeartbeats 400000 in
theorem szApprovalS (A : Option Addr) (n c : Nat) (left : Int) (w : World) (hn : n ≤ maxLen) (hl : 0 ≤ left ∧ left ≤ 1048576) :
    Calls Try.prog 62 #[.slice A n c, .int .i64 left] w fun e w' => (∃ r : Int, e = .returned (.int .i64 r) ∧ -1 ≤ r ∧ r ≤ left ∧ (0 ≤ r → (n : Int) ≤ 1048576)) ∧ w = w' := by
  have hn' : (n : Int) ≤ 9223372036854775807 := by have : maxLen = 9223372036854775807 := rfl; omega
  by_cases h : left - n < 0
  · go_enter Try.func62, Try.ntmps62
    go_wp2
    go_ret
    exact ⟨⟨-1, rfl, by omega, by omega, by omega⟩, rfl⟩
  · go_enter Try.func62, Try.ntmps62
    go_wp2
    go_ret
    exact ⟨⟨left - n, rfl, by omega, by omega, by omega⟩, rfl⟩

set_option maxHeartbeats 1000000 in
theorem szApprovals (m : Int) (A : Option Addr) (n c : Nat) (w : World) (hn : n ≤ maxLen) :
    Calls Try.prog 27 #[.agg #[.int .i64 m, .slice A n c], .int .i64 1048576] w fun e w' => ∃ r : Int, e = .returned (.int .i64 r) ∧ -1 ≤ r ∧ r ≤ 1048576 ∧ (0 ≤ r → (n : Int) ≤ 1048576) ∧ Below w.heap.size w w' := by
  have bl : Below w.heap.size w (w.alloc (.cells #[.int .i64 m, .slice A n c] 41)) := (Below.refl _ _).alloc (Nat.le_refl _) _
  go_enter Try.func27, Try.ntmps27
  go_wp2_with fail
  refine (szApprovalS A n c _ _ hn (by omega)).mono ?_; rintro e w1 ⟨⟨r, rfl, r1, r2, r3⟩, rfl⟩
  have R3 := Lib.hid r3; clear r3
  by_cases h : r < 0
  · go_wp2_with fail
    go_ret
    exact ⟨-1, rfl, by omega, by omega, fun h => absurd h (by omega), bl⟩
  · go_wp2_with fail
    go_ret
    exact ⟨r, rfl, r1, r2, R3.out, bl⟩

set_option maxHeartbeats 2000000 in
theorem toApprovals (m : Int) (A : Option Addr) (n c : Nat) (ps : List (Int × Int)) (w : World) (h : Pairs w A n ps) (hn : (n : Int) ≤ 1048576) :
    Calls Try.prog 29 #[.agg #[.int .i64 m, .slice A n c]] w fun e w' => ∃ g, e = .returned (.agg #[.int .i64 m, .slice (some ⟨g, 0, none⟩) n n]) ∧ w.heap.size ≤ g ∧ Pairs w' (some ⟨g, 0, none⟩) n ps ∧ Below w.heap.size w w' := by
  have bl2 : Below w.heap.size w (((w.alloc (.cells #[.int .i64 m, .slice A n c] 41)).alloc (.cells #[.int .i64 0, .slice none 0 0] 46)).alloc (.cells #[.int .i64 m, .slice none 0 0] 46)) := (((Below.refl _ _).alloc (Nat.le_refl _) _).alloc (by simp) _).alloc (by simp; omega) _
  have HL := Lib.hid h.1
  go_enter Try.func29, Try.ntmps29
  go_wp2_with fail
  refine (toApprovalS A n c ps _ (h.on bl2) hn).mono ?_; rintro e w1 ⟨rfl, hrow, b1⟩
  have s1 : w.heap.size + 3 ≤ w1.heap.size := by have := b1.size; simp at this; omega
  have r0 : w1.cell? ⟨w.heap.size + 1, 0, none⟩ = some (.int .i64 0) := (b1.cell (p := ⟨w.heap.size + 1, 0, none⟩) (by simp)).trans (by simp [go_sem])
  have r1 : w1.cell? ⟨w.heap.size + 1, 1, none⟩ = some (.slice none 0 0) := (b1.cell (p := ⟨w.heap.size + 1, 1, none⟩) (by simp)).trans (by simp [go_sem])
  have t0 : w1.cell? ⟨w.heap.size + 1 + 1, 0, none⟩ = some (.int .i64 m) := (b1.cell (p := ⟨w.heap.size + 1 + 1, 0, none⟩) (by simp)).trans (by simp [go_sem])
  have t1 : w1.cell? ⟨w.heap.size + 1 + 1, 1, none⟩ = some (.slice none 0 0) := (b1.cell (p := ⟨w.heap.size + 1 + 1, 1, none⟩) (by simp)).trans (by simp [go_sem])
  have f0 : w1.frozen? ⟨w.heap.size + 1, 0, none⟩ = false := (b1.frozen (p := ⟨w.heap.size + 1, 0, none⟩) (by simp)).trans (by simp [go_sem])
  have f1 : w1.frozen? ⟨w.heap.size + 1, 1, none⟩ = false := (b1.frozen (p := ⟨w.heap.size + 1, 1, none⟩) (by simp)).trans (by simp [go_sem])
  have z0 : w1.frozen? ⟨w.heap.size + 1 + 1, 0, none⟩ = false := (b1.frozen (p := ⟨w.heap.size + 1 + 1, 0, none⟩) (by simp)).trans (by simp [go_sem])
  have z1 : w1.frozen? ⟨w.heap.size + 1 + 1, 1, none⟩ = false := (b1.frozen (p := ⟨w.heap.size + 1 + 1, 1, none⟩) (by simp)).trans (by simp [go_sem])
  have bl1 := Below.on bl2 b1
  have hrow' : w1.rowIs (w.heap.size + 1 + 1 + 1) 80 (n * 2) (pcell ps n) := by simpa using hrow
  have HR := Lib.hid hrow'
  clear hrow hrow'
  go_wp2_with fail
  refine bodyPost_ret (v := .agg #[.int .i64 m, .slice (some ⟨w.heap.size + 1 + 1 + 1, 0, none⟩) n n]) (by simp [results, Try.results29, go_sem, r0, r1]) rfl ⟨_, rfl, by omega, ?_, ?_⟩
  · refine pairs_of_row (((HR.out.setOther ?_ _).setOther ?_ _).setOther ?_ _) HL.out
    all_goals (simp; try omega)
  · exact ((bl1.setCell (by simp; omega) _).setCell (by simp) _).setCell (by simp) _

set_option maxHeartbeats 1000000 in
theorem eqApprovals (m : Int) (A B : Option Addr) (n c d : Nat) (ps : List (Int × Int)) (w : World) (h : Pairs w A n ps) (h' : Pairs w B n ps) (hn : (n : Int) ≤ 1048576) :
    Calls Try.prog 31 #[.agg #[.int .i64 m, .slice A n c], .agg #[.int .i64 m, .slice B n d]] w fun e w' => e = .returned (.bool true) ∧ Below w.heap.size w w' := by
  have bl : Below w.heap.size w ((w.alloc (.cells #[.int .i64 m, .slice A n c] 46)).alloc (.cells #[.int .i64 m, .slice B n d] 46)) := ((Below.refl _ _).alloc (Nat.le_refl _) _).alloc (by simp) _
  have hne : (m != m) = false := by simp
  go_enter Try.func31, Try.ntmps31
  go_wp2_with fail
  refine (eqApprovalS A B n c d ps _ (h.on bl) (h'.on bl) hn).mono ?_; rintro e w1 ⟨rfl, b1⟩
  have bl1 := Below.on bl b1
  go_wp2_with fail
  go_ret
  exact ⟨rfl, bl1⟩

/-! ### The program -/
set_option maxHeartbeats 1000000 in
theorem implHas (m : Int) (A : Option Addr) (n c : Nat) (x : Int) (w : World) (hm : 1 ≤ m ∧ m ≤ 6) :
    Calls Try.prog 67 #[.agg #[.int .i64 m, .slice A n c], .int .i64 x] w fun e w' => e = .returned (.bool (inB x 0 (topSet m))) ∧ Below w.heap.size w w' := by
  have bl : Below w.heap.size w (w.alloc (.cells #[.int .i64 m, .slice A n c] 46)) := (Below.refl _ _).alloc (Nat.le_refl _) _
  have tb := top_bd hm
  have HT : Hid (topSet m = (2 : Int) ^ m.toNat - 1) := rfl
  rw [HT.out]
  go_enter Try.func67, Try.ntmps67
  go_wp2_with fail
  refine (implWithin _ _ _ _).mono ?_; rintro e w1 ⟨rfl, rfl⟩
  go_wp2_with fail
  go_ret
  exact ⟨rfl, bl⟩

set_option maxHeartbeats 1000000 in
theorem aokClo (m : Int) (A : Option Addr) (n c : Nat) (ps : List (Int × Int)) (k : Nat) (p : Nat) (w : World) (hm : 1 ≤ m ∧ m ≤ 6) (hp : w.cell? ⟨p, 0, none⟩ = some (.int .i64 m)) (hp1 : w.cell? ⟨p, 1, none⟩ = some (.slice A n c)) (hps : p < w.heap.size) :
    Calls Try.prog 66 #[.agg #[.int .i64 (p1 ps k), .int .i64 (p2 ps k)], .pointer (some ⟨p, 0, none⟩)] w fun e w' => e = .returned (.bool (!apOk m ps k)) ∧ Below w.heap.size w w' := by
  have bl : Below w.heap.size w (w.alloc (.cells #[.int .i64 (p1 ps k), .int .i64 (p2 ps k)] 80)) := (Below.refl _ _).alloc (Nat.le_refl _) _
  cases h1 : inB (p1 ps k) 0 (topSet m) with
  | false =>
    have HF : Hid ((!apOk m ps k) = true) := by simp [Hid, apOk, h1]
    go_enter Try.func66, Try.ntmps66
    go_wp2_with fail
    refine (implHas m A n c (p1 ps k) _ hm).mono ?_; rintro e w1 ⟨rfl, b1⟩
    rw [h1]
    have bl1 := Below.on bl b1
    go_wp2_with fail
    go_ret
    exact ⟨ret_bool HF.out.symm, bl1⟩
  | true =>
    have HF : Hid ((!apOk m ps k) = !inB (p2 ps k) 1 1000) := by simp [Hid, apOk, h1]
    go_enter Try.func66, Try.ntmps66
    go_wp2_with fail
    refine (implHas m A n c (p1 ps k) _ hm).mono ?_; rintro e w1 ⟨rfl, b1⟩
    rw [h1]
    have c5 : w1.cell? ⟨w.heap.size, 1, none⟩ = some (.int .i64 (p2 ps k)) := (b1.cell (p := ⟨w.heap.size, 1, none⟩) (by simp)).trans (by simp)
    have bl1 := Below.on bl b1
    go_wp2_with fail
    refine (implWithin _ _ _ _).mono ?_; rintro e w2 ⟨rfl, rfl⟩
    go_wp2_with fail
    go_ret
    exact ⟨ret_bool HF.out.symm, bl1⟩

set_option maxHeartbeats 2000000 in
theorem aokIdx (m : Int) (A : Option Addr) (n c : Nat) (ps : List (Int × Int)) (p : Nat) (w : World) (hm : 1 ≤ m ∧ m ≤ 6) (hp : w.cell? ⟨p, 0, none⟩ = some (.int .i64 m)) (hp1 : w.cell? ⟨p, 1, none⟩ = some (.slice A n c)) (hps : p < w.heap.size) (h : Pairs w A n ps) (hn : (n : Int) ≤ 1048576) :
    Calls Try.prog 90 #[.slice A n c, .func (.func 66) #[] #[.pointer (some ⟨p, 0, none⟩)]] w fun e w' => ∃ r : Int, e = .returned (.int .i64 r) ∧ ((r < 0 ∧ apsOk m ps = true) ∨ (0 ≤ r ∧ apsOk m ps = false)) ∧ Below w.heap.size w w' := by
  have HL := Lib.hid h.1
  have HP := Lib.hid hp
  have HP1 := Lib.hid hp1
  clear hp hp1
  go_enter Try.func90, Try.ntmps90
  go_wp2
  go_loopw [8] (fun u wr => ∃ k : Nat, (k : Int) ≤ n ∧ u = .int .i64 k ∧ (∀ j, j < k → apOk m ps j = true) ∧ Below w.heap.size w wr) (fun u _ => n - (intOf u).toNat)
  case atStart => exact ⟨0, by omega, rfl, fun j hj => absurd hj (by omega), Below.refl _ _⟩
  case round =>
    obtain ⟨k, hk, rfl, hno, hb⟩ := hrel
    have HN := Lib.hid hno; clear hno
    by_cases hlt : (k : Int) < n
    · obtain ⟨b, ob, hA, hbs, q1, q2⟩ := (h.on hb).at_ (k := k) (by omega)
      have hps2 : p < wr.heap.size := Nat.lt_of_lt_of_le hps hb.size
      have HPW : Hid (wr.cell? ⟨p, 0, none⟩ = some (.int .i64 m)) := (hb.cell (p := ⟨p, 0, none⟩) hps).trans HP.out
      have HPX : Hid (wr.cell? ⟨p, 1, none⟩ = some (.slice A n c)) := (hb.cell (p := ⟨p, 1, none⟩) hps).trans HP1.out
      subst hA
      cases hx : apOk m ps k with
      | false =>
        have HF := Lib.hid (aps_no (m := m) (ps := ps) (k := k) (by rw [HL.out]; omega) hx)
        go_wp2_with fail
        refine (aokClo m _ n c ps k p _ hm HPW.out HPX.out hps2).mono ?_; rintro e w1 ⟨rfl, b1⟩
        rw [hx]
        have hb1 := Below.on hb b1
        go_wp2_with fail
        go_ret
        exact ⟨k, rfl, .inr ⟨by omega, HF.out⟩, hb1⟩
      | true =>
        have HX := Lib.hid hx
        go_wp2_with fail
        refine (aokClo m _ n c ps k p _ hm HPW.out HPX.out hps2).mono ?_; rintro e w1 ⟨rfl, b1⟩
        rw [HX.out]
        have hb1 := Below.on hb b1
        go_wp2_with fail
        go_roundw
        case rel =>
          refine ⟨k + 1, by omega, by go_num, fun j hj => ?_, hb1⟩
          by_cases hjk : j = k
          · subst hjk; exact HX.out
          · exact HN.out j (by omega)
        case measure => simp [intOf]; omega
    · have HF := Lib.hid (aps_yes (m := m) (ps := ps) (fun j hj => HN.out j (by rw [HL.out] at hj; omega)))
      go_wp2
      go_ret
      exact ⟨-1, rfl, .inl ⟨by omega, HF.out⟩, hb⟩

set_option maxHeartbeats 2000000 in
theorem implApprovalsOk (m : Int) (A : Option Addr) (n c : Nat) (ps : List (Int × Int)) (w : World) (h : Pairs w A n ps) (hn : (n : Int) ≤ 1048576) :
    Calls Try.prog 30 #[.agg #[.int .i64 m, .slice A n c]] w fun e w' => e = .returned (.bool (apprP m ps)) ∧ Below w.heap.size w w' := by
  have bl : Below w.heap.size w (w.alloc (.cells #[.int .i64 m, .slice A n c] 46)) := (Below.refl _ _).alloc (Nat.le_refl _) _
  have hl := h.1
  cases h1 : inB m 1 6 with
  | false =>
    have HF := Lib.hid (appr_no1 (ps := ps) h1)
    clear hl
    go_enter Try.func30, Try.ntmps30
    go_wp2_with fail
    refine (implWithin _ _ _ _).mono ?_; rintro e w1 ⟨rfl, rfl⟩
    go_wp2_with fail
    go_ret
    exact ⟨ret_bool HF.out.symm, bl⟩
  | true =>
    by_cases h2 : 12 < (n : Int)
    · have HF := Lib.hid (appr_no2 (m := m) hl h2)
      clear hl
      go_enter Try.func30, Try.ntmps30
      go_wp2_with fail
      refine (implWithin _ _ _ _).mono ?_; rintro e w1 ⟨rfl, rfl⟩
      go_wp2_with fail
      go_ret
      exact ⟨ret_bool HF.out.symm, bl⟩
    · have HF := Lib.hid (appr_yes h1 hl h2)
      have hm := of_inB h1
      have K0 : Hid ((w.alloc (.cells #[.int .i64 m, .slice A n c] 46)).cell? ⟨w.heap.size, 0, none⟩ = some (.int .i64 m)) := by simp [Hid]
      have K1 : Hid ((w.alloc (.cells #[.int .i64 m, .slice A n c] 46)).cell? ⟨w.heap.size, 1, none⟩ = some (.slice A n c)) := by simp [Hid]
      have hW := h.on bl
      clear hl
      go_enter Try.func30, Try.ntmps30
      go_wp2_with fail
      refine (implWithin _ _ _ _).mono ?_; rintro e w1 ⟨rfl, rfl⟩
      go_wp2_with fail
      go_in
      go_wp2_with fail
      refine (aokIdx m A n c ps w.heap.size _ hm K0.out K1.out (by simp) hW hn).mono ?_
      rintro e w1 ⟨r, rfl, hr, b1⟩
      have bl1 := Below.on bl b1
      rcases hr with ⟨r1, r2⟩ | ⟨r1, r2⟩
      · have R := Lib.hid r2; clear r2
        go_wp2_with fail
        go_ret
        exact ⟨ret_bool (by rw [HF.out]; first | exact R.out.symm | (rw [R.out]; simp; omega)), bl1⟩
      · have R := Lib.hid r2; clear r2
        go_wp2_with fail
        go_ret
        exact ⟨ret_bool (by rw [HF.out]; first | exact R.out.symm | (rw [R.out]; simp; omega)), bl1⟩

/-! ### The reference -/
set_option maxHeartbeats 4000000 in
theorem specApprovalsOk (m : Int) (A : Option Addr) (n c : Nat) (ps : List (Int × Int)) (w : World) (h : Pairs w A n ps) (hn : (n : Int) ≤ 1048576) :
    Calls Try.prog 28 #[.agg #[.int .i64 m, .slice A n c]] w fun e w' => e = .returned (.bool (apprP m ps)) ∧ Below w.heap.size w w' := by
  have bl : Below w.heap.size w (w.alloc (.cells #[.int .i64 m, .slice A n c] 46)) := (Below.refl _ _).alloc (Nat.le_refl _) _
  have hl := h.1
  cases h1 : inB m 1 6 with
  | false =>
    have HF := Lib.hid (appr_no1 (ps := ps) h1)
    clear hl
    go_enter Try.func28, Try.ntmps28
    go_wp2_with fail
    refine (specIn _ _ _ _).mono ?_; rintro e w1 ⟨rfl, rfl⟩
    go_wp2_with fail
    go_ret
    exact ⟨ret_bool HF.out.symm, bl⟩
  | true =>
    by_cases h2 : 12 < (n : Int)
    · have HF := Lib.hid (appr_no2 (m := m) hl h2)
      clear hl
      go_enter Try.func28, Try.ntmps28
      go_wp2_with fail
      refine (specIn _ _ _ _).mono ?_; rintro e w1 ⟨rfl, rfl⟩
      go_wp2_with fail
      go_ret
      exact ⟨ret_bool HF.out.symm, bl⟩
    · have HF := Lib.hid (appr_yes h1 hl h2)
      have HL := Lib.hid hl
      have hm := of_inB h1
      have tb := top_bd hm
      have HT : Hid (topSet m = (2 : Int) ^ m.toNat - 1) := rfl
      have K0 : Hid ((w.alloc (.cells #[.int .i64 m, .slice A n c] 46)).cell? ⟨w.heap.size, 0, none⟩ = some (.int .i64 m)) := by simp [Hid]
      clear hl
      go_enter Try.func28, Try.ntmps28
      go_wp2_with fail
      refine (specIn _ _ _ _).mono ?_; rintro e w1 ⟨rfl, rfl⟩
      go_wp2_with fail
      have hW := h.on bl
      have hsW : w.heap.size < (w.alloc (.cells #[.int .i64 m, .slice A n c] 46)).heap.size := by simp
      generalize w.alloc (.cells #[.int .i64 m, .slice A n c] 46) = W at *
      go_loopw [18] (fun u wr => ∃ k : Nat, (k : Int) ≤ n ∧ u = .int .i64 k ∧ (∀ j, j < k → apOk m ps j = true) ∧ Below W.heap.size W wr) (fun u _ => n - (intOf u).toNat)
      case atStart => exact ⟨0, by omega, rfl, fun j hj => absurd hj (by omega), Below.refl _ _⟩
      case round =>
        obtain ⟨k, hk, rfl, hno, hb⟩ := hrel
        have HN := Lib.hid hno; clear hno
        by_cases hlt : (k : Int) < n
        · obtain ⟨b, ob, rfl, hbs, q1, q2⟩ := (hW.on hb).at_ (k := k) (by omega)
          have k0 := (hb.cell (p := ⟨w.heap.size, 0, none⟩) hsW).trans K0.out
          have hs2 := hb.size
          have hs3 : w.heap.size < wr.heap.size := by omega
          have bA : Below wr.heap.size wr (wr.alloc (.cells #[.int .i64 (p1 ps k), .int .i64 (p2 ps k)] 80)) := (Below.refl _ _).alloc (Nat.le_refl _) _
          have hb1 := Below.on hb bA
          have hw1 : IntKind.i64.wrap ((2 : Int) ^ m.toNat) = (2 : Int) ^ m.toNat := by rw [IntKind.wrap_i64]; omega
          have hw2 : IntKind.i64.wrap ((2 : Int) ^ m.toNat - 1) = (2 : Int) ^ m.toNat - 1 := by rw [IntKind.wrap_i64]; omega
          cases hr : inB (p1 ps k) 0 ((2 : Int) ^ m.toNat - 1) with
          | false =>
            have HV := Lib.hid (aps_no (m := m) (ps := ps) (k := k) (by rw [HL.out]; omega) (by rw [apOk, HT.out, hr]; rfl))
            go_wp2_with fail
            go_quiet ((go_at_call 63; exact Calls.quiet_of_same ((specIn _ _ _ _).mono fun _ _ h => ⟨h.1, h.2.symm⟩)))
            go_wp2_with fail
            go_ret
            exact ⟨ret_bool (by rw [HF.out, HV.out]), bl.trans ((below_drewN hb1 _).mono (by omega))⟩
          | true =>
            cases hx : inB (p2 ps k) 1 1000 with
            | false =>
              have HV := Lib.hid (aps_no (m := m) (ps := ps) (k := k) (by rw [HL.out]; omega) (by rw [apOk, hx, Bool.and_false]))
              go_wp2_with fail
              go_quiet ((go_at_call 63; exact Calls.quiet_of_same ((specIn _ _ _ _).mono fun _ _ h => ⟨h.1, h.2.symm⟩)))
              go_wp2_with fail
              go_ret
              exact ⟨ret_bool (by rw [HF.out, HV.out]), bl.trans ((below_drewN hb1 _).mono (by omega))⟩
            | true =>
              have HV : Hid (apOk m ps k = true) := by rw [Hid, apOk, HT.out, hr, hx]; rfl
              go_wp2_with fail
              go_quiet ((go_at_call 63; exact Calls.quiet_of_same ((specIn _ _ _ _).mono fun _ _ h => ⟨h.1, h.2.symm⟩)))
              go_wp2_with fail
              go_roundw
              case rel =>
                refine ⟨k + 1, by omega, by go_num, fun j hj => ?_, below_drewN hb1 _⟩
                by_cases hjk : j = k
                · subst hjk; exact HV.out
                · exact HN.out j (by omega)
              case measure => simp [intOf]; omega
        · have HV := Lib.hid (aps_yes (m := m) (ps := ps) (fun j hj => HN.out j (by rw [HL.out] at hj; omega)))
          have hs2 := hb.size
          go_wp2
          go_ret
          exact ⟨ret_bool (by rw [HF.out, HV.out]), bl.trans (hb.mono (by omega))⟩
end Go.Proofs.Ytaclpilehlednaa
