/- The size of a profile, where something less is left. -/
import Derived.Test.YtaclpilehlednaaProf
import Derived.Test.YtaclpilehlednaaMergeI
import Derived.Test.YtaclpilehlednaaFmtProfS
import Derived.Deep.RegionHeld3
import Derived.Deep.RegionHeldLaw
/-! The size of a profile, where something less is left. -/
namespace Go.Proofs.Ytaclpilehlednaa
open Go.RowKit

set_option maxHeartbeats 2000000 in
theorem szVoteSL (A : Option Addr) (n c : Nat) (vs : List (List Int × Int)) (w : World) (h : Votes w A n vs) (hn : n ≤ maxLen) (lf : Int) (hlf : 0 ≤ lf ∧ lf ≤ 1048576) :
    Calls Try.prog 69 #[.slice A n c, .int .i64 lf] w fun e w' => ∃ r : Int, e = .returned (.int .i64 r) ∧ -1 ≤ r ∧ r ≤ 1048576 ∧ (0 ≤ r → (n : Int) ≤ 1048576 ∧ ∀ j, j < n → (rl vs j : Int) ≤ 1048576) ∧ Below w.heap.size w w' := by
  have hn' : (n : Int) ≤ 9223372036854775807 := by rw [maxLen_eq] at hn; omega
  by_cases h0 : lf - (n : Int) < 0
  · go_enter Try.func69, Try.ntmps69
    go_wp2
    go_ret
    exact ⟨-1, rfl, by omega, by omega, fun h => absurd h (by omega), Below.refl _ _⟩
  · go_enter Try.func69, Try.ntmps69
    go_wp2
    go_loopw [1, 5] (fun u v wr => ∃ (k : Nat) (left : Int), (k : Int) ≤ n ∧ 0 ≤ left ∧ left ≤ 1048576 ∧ u = .int .i64 left ∧ v = .int .i64 k ∧ (∀ j, j < k → (rl vs j : Int) ≤ 1048576) ∧ Below w.heap.size w wr) (fun _ v _ => n - (intOf v).toNat)
    case atStart => exact ⟨0, lf - n, by omega, by omega, by omega, rfl, rfl, fun j hj => absurd hj (by omega), Below.refl _ _⟩
    case round =>
      obtain ⟨k, left, hk, l1, l2, rfl, rfl, hall, hb⟩ := hrel
      have HA := Lib.hid hall; clear hall
      by_cases hlt : (k : Int) < n
      · obtain ⟨b, ob, rfl, hbs, ⟨B, d, q1, q2, q3, q4, q5⟩⟩ := (h.on hb).at_ (k := k) (by omega)
        go_wp2_with fail
        refine (szVote B (rl vs k) d (ct vs k) left _ (Nat.le_trans q2 q3) ⟨l1, l2⟩).mono ?_; rintro e w1 ⟨r, rfl, r1, r2, r3, b1⟩
        have R3 := Lib.hid r3; clear r3
        have hb1 := Below.on hb b1
        by_cases hr : r < 0
        · go_wp2_with fail
          go_ret
          exact ⟨-1, rfl, by omega, by omega, fun h => absurd h (by omega), hb1⟩
        · go_wp2_with fail
          go_roundw
          case rel =>
            refine ⟨k + 1, r, by omega, by omega, by omega, rfl, by go_num, fun j hj => ?_, hb1⟩
            by_cases e : j = k
            · subst e; exact R3.out (by omega)
            · exact HA.out j (by omega)
          case measure => simp [intOf]; omega
      · obtain rfl : k = n := by omega
        go_wp2
        go_ret
        exact ⟨left, rfl, by omega, by omega, fun _ => ⟨by omega, HA.out⟩, hb⟩

set_option maxHeartbeats 1000000 in
theorem szProfileL (m : Int) (A : Option Addr) (n c : Nat) (vs : List (List Int × Int)) (w : World) (h : Votes w A n vs) (hn : n ≤ maxLen) (lf : Int) (hlf : 0 ≤ lf ∧ lf ≤ 1048576) :
    Calls Try.prog 32 #[.agg #[.int .i64 m, .slice A n c], .int .i64 lf] w fun e w' => ∃ r : Int, e = .returned (.int .i64 r) ∧ -1 ≤ r ∧ r ≤ 1048576 ∧ (0 ≤ r → (n : Int) ≤ 1048576 ∧ ∀ j, j < n → (rl vs j : Int) ≤ 1048576) ∧ Below w.heap.size w w' := by
  have bl : Below w.heap.size w (w.alloc (.cells #[.int .i64 m, .slice A n c] 52)) := (Below.refl _ _).alloc (Nat.le_refl _) _
  go_enter Try.func32, Try.ntmps32
  go_wp2_with fail
  refine (szVoteSL A n c vs _ (h.on bl) hn lf hlf).mono ?_; rintro e w1 ⟨r, rfl, r1, r2, r3, b1⟩
  have R3 := Lib.hid r3; clear r3
  have bl1 := Below.on bl b1
  by_cases h : r < 0
  · go_wp2_with fail
    go_ret
    exact ⟨-1, rfl, by omega, by omega, fun h => absurd h (by omega), bl1⟩
  · go_wp2_with fail
    go_ret
    exact ⟨r, rfl, r1, r2, R3.out, bl1⟩

end Go.Proofs.Ytaclpilehlednaa

/-! Whether two profiles are the same: what the program's and the reference's functions compute. -/
namespace Go.Proofs.Ytaclpilehlednaa
open Go.RowKit
set_option maxRecDepth 100000

theorem ret_boolS {a b : Bool} (h : a = b) : Ending.returned (.bool a) = .returned (.bool b) := by rw [h]
theorem veq_len {vs us : List (List Int × Int)} (h : vs.length ≠ us.length) : decide (vs = us) = false := decide_eq_false fun e => h (by rw [e])
theorem veq_no {vs us : List (List Int × Int)} {k : Nat} (h : vnth vs k ≠ vnth us k) : decide (vs = us) = false := decide_eq_false fun e => h (by rw [e])
theorem veq_yes {vs us : List (List Int × Int)} (h : vs.length = us.length) (h2 : ∀ j, j < vs.length → vnth vs j = vnth us j) : decide (vs = us) = true := by
  apply decide_eq_true
  apply List.ext_getElem h
  intro i h3 h4
  have := h2 i h3
  simpa [vnth, List.getD, h3, h4] using this
theorem vnth_ne {vs us : List (List Int × Int)} {k : Nat} (h : (decide (ct vs k = ct us k) && decide (rk vs k = rk us k)) = false) : vnth vs k ≠ vnth us k := fun e => by
  simp [ct, rk, e] at h
theorem vnth_eq {vs us : List (List Int × Int)} {k : Nat} (h : (decide (ct vs k = ct us k) && decide (rk vs k = rk us k)) = true) : vnth vs k = vnth us k := by
  rw [Bool.and_eq_true, decide_eq_true_eq, decide_eq_true_eq] at h
  exact Prod.ext h.2 h.1

set_option maxHeartbeats 1000000 in
theorem eqClo (B B' : Option Addr) (n d n' d' : Nat) (xs ys : List Int) (p q : Int) (w : World) (h : Ints w B n xs) (h' : Ints w B' n' ys) (hn : (n : Int) ≤ 1048576) (hn' : (n' : Int) ≤ 1048576) :
    Calls Try.prog 104 #[.agg #[.slice B n d, .int .i64 p], .agg #[.slice B' n' d', .int .i64 q]] w fun e w' => e = .returned (.bool (decide (p = q) && decide (xs = ys))) ∧ Below w.heap.size w w' := by
  have bl : Below w.heap.size w ((w.alloc (.cells #[.slice B n d, .int .i64 p] 89)).alloc (.cells #[.slice B' n' d', .int .i64 q] 89)) := ((Below.refl _ _).alloc (Nat.le_refl _) _).alloc (by simp) _
  by_cases hpq : p = q
  · have hb : (p == q) = true := by rw [beq_iff_eq]; exact hpq
    have HF : Hid ((decide (p = q) && decide (xs = ys)) = decide (xs = ys)) := by rw [Hid, decide_eq_true hpq, Bool.true_and]
    have h1 := h.on bl
    have h2 := h'.on bl
    clear hpq
    go_enter Try.func104, Try.ntmps104
    go_wp2_with fail
    refine (libEqual B B' n d n' d' xs ys _ h1 h2 hn hn').mono ?_; rintro e w1 ⟨rfl, b1⟩
    go_wp2_with fail
    go_ret
    exact ⟨ret_boolS HF.out.symm, Below.on bl b1⟩
  · have hb : (p == q) = false := by rw [beq_eq_false_iff_ne]; exact hpq
    have HF : Hid ((decide (p = q) && decide (xs = ys)) = false) := by rw [Hid, decide_eq_false hpq, Bool.false_and]
    clear hpq
    go_enter Try.func104, Try.ntmps104
    go_wp2_with fail
    go_ret
    exact ⟨ret_boolS HF.out.symm, bl⟩

set_option maxHeartbeats 4000000 in
theorem libEqualFunc (A A' : Option Addr) (n c n' c' : Nat) (vs us : List (List Int × Int)) (w : World) (h : Votes w A n vs) (h' : Votes w A' n' us) (hn : (n : Int) ≤ 1048576) (hn' : (n' : Int) ≤ 1048576) (hm : ∀ j, j < n → (rl vs j : Int) ≤ 1048576) (hm' : ∀ j, j < n' → (rl us j : Int) ≤ 1048576) :
    Calls Try.prog 105 #[.slice A n c, .slice A' n' c', .func (.func 104) #[] #[]] w fun e w' => e = .returned (.bool (decide (vs = us))) ∧ Below w.heap.size w w' := by
  have HL := Lib.hid h.1
  have HL' := Lib.hid h'.1
  have HM := Lib.hid hm; clear hm
  have HM' := Lib.hid hm'; clear hm'
  cases hnm : ((n : Int) != (n' : Int)) with
  | true =>
    have HF := Lib.hid (veq_len (vs := vs) (us := us) (by rw [HL.out, HL'.out]; simp at hnm; omega))
    go_enter Try.func105, Try.ntmps105
    go_wp2_with fail
    go_ret
    exact ⟨ret_boolS HF.out.symm, Below.refl _ _⟩
  | false =>
    obtain rfl : n' = n := by simp at hnm; omega
    go_enter Try.func105, Try.ntmps105
    go_wp2_with fail
    go_loopw [17] (fun u wr => ∃ k : Nat, (k : Int) ≤ n' ∧ u = .int .i64 k ∧ (∀ j, j < k → vnth vs j = vnth us j) ∧ Below w.heap.size w wr) (fun u _ => n' - (intOf u).toNat)
    case atStart => exact ⟨0, by omega, rfl, fun j hj => absurd hj (by omega), Below.refl _ _⟩
    case round =>
      obtain ⟨k, hk, rfl, hall, hb⟩ := hrel
      obtain ⟨wi, rfl⟩ : ∃ wi : World, wi = wr := ⟨_, rfl⟩
      have HA := Lib.hid hall; clear hall
      by_cases hlt : (k : Int) < n'
      · obtain ⟨b, ob, rfl, hbs, ⟨B, d, q1, q2, q3, q4, q5⟩⟩ := (h.on hb).at_ (k := k) (by omega)
        obtain ⟨b', ob', rfl, hbs', ⟨B', d', p1, p2, p3, p4, p5⟩⟩ := (h'.on hb).at_ (k := k) (by omega)
        have hlb := HM.out k (by omega)
        have hlb' := HM'.out k (by omega)
        have ba : Below wi.heap.size wi (wi.alloc (.cells #[.slice B (rl vs k) d, .int .i64 (ct vs k)] 89)) := (Below.refl _ _).alloc (Nat.le_refl _) _
        have ba2 : Below wi.heap.size wi ((wi.alloc (.cells #[.slice B (rl vs k) d, .int .i64 (ct vs k)] 89)).alloc (.cells #[.slice B' (rl us k) d', .int .i64 (ct us k)] 89)) := ba.alloc (by simp) _
        have z1 := (ba.cell (p := ⟨b', ob' + k * 2, none⟩) hbs').trans p1
        have i1 := q4.on ba2
        have i2 := p4.on ba2
        have hb2 := Below.on hb ba2
        cases hx : (decide (ct vs k = ct us k) && decide (rk vs k = rk us k)) with
        | false =>
          have HF := Lib.hid (veq_no (vnth_ne hx))
          go_wp2_with fail
          refine (eqClo B B' (rl vs k) d (rl us k) d' (rk vs k) (rk us k) (ct vs k) (ct us k) _ i1 i2 hlb hlb').mono ?_; rintro e w1 ⟨rfl, b1⟩
          rw [hx]
          have hb1 := Below.on hb2 b1
          go_wp2_with fail
          go_ret
          exact ⟨ret_boolS HF.out.symm, hb1⟩
        | true =>
          have HX := Lib.hid (vnth_eq hx)
          go_wp2_with fail
          refine (eqClo B B' (rl vs k) d (rl us k) d' (rk vs k) (rk us k) (ct vs k) (ct us k) _ i1 i2 hlb hlb').mono ?_; rintro e w1 ⟨rfl, b1⟩
          rw [hx]
          have hb1 := Below.on hb2 b1
          go_wp2_with fail
          go_roundw
          case rel =>
            refine ⟨k + 1, by omega, by go_num, fun j hj => ?_, hb1⟩
            by_cases e : j = k
            · subst e; exact HX.out
            · exact HA.out j (by omega)
          case measure => simp [intOf]; omega
      · have HF := Lib.hid (veq_yes (vs := vs) (us := us) (by rw [HL.out, HL'.out]) (fun j hj => HA.out j (by rw [HL.out] at hj; omega)))
        go_wp2_with fail
        go_ret
        exact ⟨ret_boolS HF.out.symm, hb⟩

set_option maxHeartbeats 1000000 in
theorem implEquals (m m' : Int) (A A' : Option Addr) (n c n' c' : Nat) (vs us : List (List Int × Int)) (w : World) (h : Votes w A n vs) (h' : Votes w A' n' us) (hn : (n : Int) ≤ 1048576) (hn' : (n' : Int) ≤ 1048576) (hm : ∀ j, j < n → (rl vs j : Int) ≤ 1048576) (hm' : ∀ j, j < n' → (rl us j : Int) ≤ 1048576) :
    Calls Try.prog 85 #[.agg #[.int .i64 m, .slice A n c], .agg #[.int .i64 m', .slice A' n' c']] w fun e w' => e = .returned (.bool (decide (m = m') && decide (vs = us))) ∧ Below w.heap.size w w' := by
  have HM := Lib.hid hm; clear hm
  have HM' := Lib.hid hm'; clear hm'
  have bl : Below w.heap.size w ((w.alloc (.cells #[.int .i64 m, .slice A n c] 56)).alloc (.cells #[.int .i64 m', .slice A' n' c'] 56)) := ((Below.refl _ _).alloc (Nat.le_refl _) _).alloc (by simp) _
  by_cases hpq : m = m'
  · have hb : (m == m') = true := by rw [beq_iff_eq]; exact hpq
    have HF : Hid ((decide (m = m') && decide (vs = us)) = decide (vs = us)) := by rw [Hid, decide_eq_true hpq, Bool.true_and]
    have h1 := h.on bl
    have h2 := h'.on bl
    clear hpq
    go_enter Try.func85, Try.ntmps85
    go_wp2_with fail
    refine (libEqualFunc A A' n c n' c' vs us _ h1 h2 hn hn' HM.out HM'.out).mono ?_; rintro e w1 ⟨rfl, b1⟩
    go_wp2_with fail
    go_ret
    exact ⟨ret_boolS HF.out.symm, Below.on bl b1⟩
  · have hb : (m == m') = false := by rw [beq_eq_false_iff_ne]; exact hpq
    have HF : Hid ((decide (m = m') && decide (vs = us)) = false) := by rw [Hid, decide_eq_false hpq, Bool.false_and]
    clear hpq
    go_enter Try.func85, Try.ntmps85
    go_wp2_with fail
    go_ret
    exact ⟨ret_boolS HF.out.symm, bl⟩
end Go.Proofs.Ytaclpilehlednaa

/-! SameProfile: what the program's and the reference's functions compute, for every two profiles. -/
namespace Go.Proofs.Ytaclpilehlednaa
open Go.RowKit
set_option maxRecDepth 100000

def sameP (m : Int) (vs : List (List Int × Int)) (m' : Int) (us : List (List Int × Int)) : Bool := mgB m vs && mgB m' us && (decide (mgM m vs = mgM m' us) && decide (mgV m vs = mgV m' us))
theorem beq_dec (a b : ByteArray) : (a.toList == b.toList) = decide (a = b) := by
  rw [ByteArray.toList_eq, ByteArray.toList_eq]
  by_cases h : a = b
  · subst h; simp
  · rw [decide_eq_false h, beq_eq_false_iff_ne]
    intro e
    exact h (ByteArray.ext (Array.toList_inj.1 e))

set_option maxHeartbeats 4000000 in
theorem implSameProfile (m m' : Int) (A A' : Option Addr) (n c n' c' : Nat) (vs us : List (List Int × Int)) (w : World) (h : Votes w A n vs) (h' : Votes w A' n' us) (hn : (n : Int) ≤ 1048576) (hn' : (n' : Int) ≤ 1048576) (hm : ∀ j, j < n → (rl vs j : Int) ≤ 1048576) (hm' : ∀ j, j < n' → (rl us j : Int) ≤ 1048576) :
    Calls Try.prog 42 #[.agg #[.int .i64 m, .slice A n c], .agg #[.int .i64 m', .slice A' n' c']] w fun e w' => e = .returned (.bool (sameP m vs m' us)) ∧ Below w.heap.size w w' := by
  have HM := Lib.hid hm; clear hm
  have HM' := Lib.hid hm'; clear hm'
  have ba : Below w.heap.size w (w.alloc (.cells #[.int .i64 m, .slice A n c] 56)) := (Below.refl _ _).alloc (Nat.le_refl _) _
  have bl : Below w.heap.size w ((w.alloc (.cells #[.int .i64 m, .slice A n c] 56)).alloc (.cells #[.int .i64 m', .slice A' n' c'] 56)) := ba.alloc (by simp) _
  have k0 : ((w.alloc (.cells #[.int .i64 m, .slice A n c] 56)).alloc (.cells #[.int .i64 m', .slice A' n' c'] 56)).cell? ⟨w.heap.size, 0, none⟩ = some (.int .i64 m) := by simp [go_sem]
  have k1 : ((w.alloc (.cells #[.int .i64 m, .slice A n c] 56)).alloc (.cells #[.int .i64 m', .slice A' n' c'] 56)).cell? ⟨w.heap.size, 1, none⟩ = some (.slice A n c) := by simp [go_sem]
  have j0 : ((w.alloc (.cells #[.int .i64 m, .slice A n c] 56)).alloc (.cells #[.int .i64 m', .slice A' n' c'] 56)).cell? ⟨w.heap.size + 1, 0, none⟩ = some (.int .i64 m') := by simp [go_sem]
  have j1 : ((w.alloc (.cells #[.int .i64 m, .slice A n c] 56)).alloc (.cells #[.int .i64 m', .slice A' n' c'] 56)).cell? ⟨w.heap.size + 1, 1, none⟩ = some (.slice A' n' c') := by simp [go_sem]
  have sj : w.heap.size + 1 < ((w.alloc (.cells #[.int .i64 m, .slice A n c] 56)).alloc (.cells #[.int .i64 m', .slice A' n' c'] 56)).heap.size := by simp
  have h1 := h.on bl
  clear ba
  go_enter Try.func42, Try.ntmps42
  go_wp2_with fail
  generalize ((w.alloc (.cells #[.int .i64 m, .slice A n c] 56)).alloc (.cells #[.int .i64 m', .slice A' n' c'] 56)) = W at *
  refine (implMergeProfile m A n c vs _ h1 hn HM.out).mono ?_; rintro e w1 ⟨A1, c1, G1, C1, rfl, o1, b1⟩
  have bl1 := Below.on bl b1
  replace j0 := (b1.cell (p := ⟨w.heap.size + 1, 0, none⟩) sj).trans j0
  replace j1 := (b1.cell (p := ⟨w.heap.size + 1, 1, none⟩) sj).trans j1
  replace sj := Nat.lt_of_lt_of_le sj b1.size
  clear b1 h1 bl k0 k1
  have ba : Below w1.heap.size w1 (w1.alloc (.cells #[.int .i64 (mgM m vs), .slice A1 (mgV m vs).length c1] 56)) := (Below.refl _ _).alloc (Nat.le_refl _) _
  have x0 : (w1.alloc (.cells #[.int .i64 (mgM m vs), .slice A1 (mgV m vs).length c1] 56)).cell? ⟨w1.heap.size, 0, none⟩ = some (.int .i64 (mgM m vs)) := by simp
  have x1 : (w1.alloc (.cells #[.int .i64 (mgM m vs), .slice A1 (mgV m vs).length c1] 56)).cell? ⟨w1.heap.size, 1, none⟩ = some (.slice A1 (mgV m vs).length c1) := by simp
  have sx : w1.heap.size < (w1.alloc (.cells #[.int .i64 (mgM m vs), .slice A1 (mgV m vs).length c1] 56)).heap.size := by simp
  have v1 := (o1.on ba).votes rfl (fun _ _ => rfl) (fun _ _ => rfl)
  clear o1
  have bl2 := Below.on bl1 ba
  replace j0 := (ba.cell (p := ⟨w.heap.size + 1, 0, none⟩) sj).trans j0
  replace j1 := (ba.cell (p := ⟨w.heap.size + 1, 1, none⟩) sj).trans j1
  replace sj := Nat.lt_of_lt_of_le sj ba.size
  have h2 := h'.on bl2
  clear ba
  go_wp2_with fail
  generalize (w1.alloc (.cells #[.int .i64 (mgM m vs), .slice A1 (mgV m vs).length c1] 56)) = W2 at *
  generalize w1.heap.size = x at *
  refine (implMergeProfile m' A' n' c' us _ h2 hn' HM'.out).mono ?_; rintro e w2 ⟨A2, c2, G2, C2, rfl, o2, b2⟩
  have bl3 := Below.on bl2 b2
  replace x0 := (b2.cell (p := ⟨x, 0, none⟩) sx).trans x0
  replace x1 := (b2.cell (p := ⟨x, 1, none⟩) sx).trans x1
  replace sx := Nat.lt_of_lt_of_le sx b2.size
  replace v1 := v1.on b2
  clear b2 h2 j0 j1
  have ba : Below w2.heap.size w2 (w2.alloc (.cells #[.int .i64 (mgM m' us), .slice A2 (mgV m' us).length c2] 56)) := (Below.refl _ _).alloc (Nat.le_refl _) _
  have y0 : (w2.alloc (.cells #[.int .i64 (mgM m' us), .slice A2 (mgV m' us).length c2] 56)).cell? ⟨w2.heap.size, 0, none⟩ = some (.int .i64 (mgM m' us)) := by simp
  have y1 : (w2.alloc (.cells #[.int .i64 (mgM m' us), .slice A2 (mgV m' us).length c2] 56)).cell? ⟨w2.heap.size, 1, none⟩ = some (.slice A2 (mgV m' us).length c2) := by simp
  have sy : w2.heap.size < (w2.alloc (.cells #[.int .i64 (mgM m' us), .slice A2 (mgV m' us).length c2] 56)).heap.size := by simp
  have v2 := (o2.on ba).votes rfl (fun _ _ => rfl) (fun _ _ => rfl)
  replace v1 := v1.on ba
  clear o2
  have bl4 := Below.on bl3 ba
  have x0r := x0
  have x1r := x1
  replace x0 := (ba.cell (p := ⟨x, 0, none⟩) sx).trans x0
  replace x1 := (ba.cell (p := ⟨x, 1, none⟩) sx).trans x1
  replace sx := Nat.lt_of_lt_of_le sx ba.size
  clear ba x0r x1r
  obtain ⟨hs1, hs2⟩ := mg_small m vs
  obtain ⟨ht1, ht2⟩ := mg_small m' us
  have HS2 := Lib.hid hs2; clear hs2
  have HT2 := Lib.hid ht2; clear ht2
  cases hb1 : mgB m vs with
  | false =>
    have HF : Hid (sameP m vs m' us = false) := by rw [Hid, sameP, hb1]; rfl
    clear hb1
    go_wp2_with fail
    go_ret
    exact ⟨ret_boolS HF.out.symm, bl4⟩
  | true =>
    cases hb2 : mgB m' us with
    | false =>
      have HF : Hid (sameP m vs m' us = false) := by rw [Hid, sameP, hb1, hb2]; rfl
      clear hb1 hb2
      go_wp2_with fail
      go_ret
      exact ⟨ret_boolS HF.out.symm, bl4⟩
    | true =>
      have HF : Hid (sameP m vs m' us = (decide (mgM m vs = mgM m' us) && decide (mgV m vs = mgV m' us))) := by rw [Hid, sameP, hb1, hb2]; rfl
      clear hb1 hb2
      go_wp2_with fail
      refine (implEquals (mgM m vs) (mgM m' us) A1 A2 _ c1 _ c2 (mgV m vs) (mgV m' us) _ v1 v2 hs1 ht1 HS2.out HT2.out).mono ?_; rintro e w3 ⟨rfl, b3⟩
      go_wp2_with fail
      go_ret
      exact ⟨ret_boolS HF.out.symm, Below.on bl4 b3⟩

set_option maxHeartbeats 4000000 in
theorem specSameProfile (m m' : Int) (A A' : Option Addr) (n c n' c' : Nat) (vs us : List (List Int × Int)) (w : World) (h : Votes w A n vs) (h' : Votes w A' n' us) (hn : (n : Int) ≤ 1048576) (hn' : (n' : Int) ≤ 1048576) (hm : ∀ j, j < n → (rl vs j : Int) ≤ 1048576) (hm' : ∀ j, j < n' → (rl us j : Int) ≤ 1048576) :
    Calls Try.prog 41 #[.agg #[.int .i64 m, .slice A n c], .agg #[.int .i64 m', .slice A' n' c']] w fun e w' => e = .returned (.bool (sameP m vs m' us)) ∧ Below w.heap.size w w' := by
  have HM := Lib.hid hm; clear hm
  have HM' := Lib.hid hm'; clear hm'
  have ba : Below w.heap.size w (w.alloc (.cells #[.int .i64 m, .slice A n c] 56)) := (Below.refl _ _).alloc (Nat.le_refl _) _
  have bl : Below w.heap.size w ((w.alloc (.cells #[.int .i64 m, .slice A n c] 56)).alloc (.cells #[.int .i64 m', .slice A' n' c'] 56)) := ba.alloc (by simp) _
  have k0 : ((w.alloc (.cells #[.int .i64 m, .slice A n c] 56)).alloc (.cells #[.int .i64 m', .slice A' n' c'] 56)).cell? ⟨w.heap.size, 0, none⟩ = some (.int .i64 m) := by simp [go_sem]
  have k1 : ((w.alloc (.cells #[.int .i64 m, .slice A n c] 56)).alloc (.cells #[.int .i64 m', .slice A' n' c'] 56)).cell? ⟨w.heap.size, 1, none⟩ = some (.slice A n c) := by simp [go_sem]
  have j0 : ((w.alloc (.cells #[.int .i64 m, .slice A n c] 56)).alloc (.cells #[.int .i64 m', .slice A' n' c'] 56)).cell? ⟨w.heap.size + 1, 0, none⟩ = some (.int .i64 m') := by simp [go_sem]
  have j1 : ((w.alloc (.cells #[.int .i64 m, .slice A n c] 56)).alloc (.cells #[.int .i64 m', .slice A' n' c'] 56)).cell? ⟨w.heap.size + 1, 1, none⟩ = some (.slice A' n' c') := by simp [go_sem]
  have sj : w.heap.size + 1 < ((w.alloc (.cells #[.int .i64 m, .slice A n c] 56)).alloc (.cells #[.int .i64 m', .slice A' n' c'] 56)).heap.size := by simp
  have h1 := h.on bl
  clear ba
  go_enter Try.func41, Try.ntmps41
  go_wp2_with fail
  generalize ((w.alloc (.cells #[.int .i64 m, .slice A n c] 56)).alloc (.cells #[.int .i64 m', .slice A' n' c'] 56)) = W at *
  refine (specMergeProfile m A n c vs _ h1 hn HM.out).mono ?_; rintro e w1 ⟨A1, c1, G1, C1, rfl, o1, b1⟩
  have bl1 := Below.on bl b1
  replace j0 := (b1.cell (p := ⟨w.heap.size + 1, 0, none⟩) sj).trans j0
  replace j1 := (b1.cell (p := ⟨w.heap.size + 1, 1, none⟩) sj).trans j1
  replace sj := Nat.lt_of_lt_of_le sj b1.size
  clear b1 h1 bl k0 k1
  have ba : Below w1.heap.size w1 (w1.alloc (.cells #[.int .i64 (mgM m vs), .slice A1 (mgV m vs).length c1] 56)) := (Below.refl _ _).alloc (Nat.le_refl _) _
  have x0 : (w1.alloc (.cells #[.int .i64 (mgM m vs), .slice A1 (mgV m vs).length c1] 56)).cell? ⟨w1.heap.size, 0, none⟩ = some (.int .i64 (mgM m vs)) := by simp
  have x1 : (w1.alloc (.cells #[.int .i64 (mgM m vs), .slice A1 (mgV m vs).length c1] 56)).cell? ⟨w1.heap.size, 1, none⟩ = some (.slice A1 (mgV m vs).length c1) := by simp
  have sx : w1.heap.size < (w1.alloc (.cells #[.int .i64 (mgM m vs), .slice A1 (mgV m vs).length c1] 56)).heap.size := by simp
  have v1 := (o1.on ba).votes rfl (fun _ _ => rfl) (fun _ _ => rfl)
  clear o1
  have bl2 := Below.on bl1 ba
  replace j0 := (ba.cell (p := ⟨w.heap.size + 1, 0, none⟩) sj).trans j0
  replace j1 := (ba.cell (p := ⟨w.heap.size + 1, 1, none⟩) sj).trans j1
  replace sj := Nat.lt_of_lt_of_le sj ba.size
  have h2 := h'.on bl2
  clear ba
  go_wp2_with fail
  generalize (w1.alloc (.cells #[.int .i64 (mgM m vs), .slice A1 (mgV m vs).length c1] 56)) = W2 at *
  generalize w1.heap.size = x at *
  refine (specMergeProfile m' A' n' c' us _ h2 hn' HM'.out).mono ?_; rintro e w2 ⟨A2, c2, G2, C2, rfl, o2, b2⟩
  have bl3 := Below.on bl2 b2
  replace x0 := (b2.cell (p := ⟨x, 0, none⟩) sx).trans x0
  replace x1 := (b2.cell (p := ⟨x, 1, none⟩) sx).trans x1
  replace sx := Nat.lt_of_lt_of_le sx b2.size
  replace v1 := v1.on b2
  clear b2 h2 j0 j1
  have ba : Below w2.heap.size w2 (w2.alloc (.cells #[.int .i64 (mgM m' us), .slice A2 (mgV m' us).length c2] 56)) := (Below.refl _ _).alloc (Nat.le_refl _) _
  have y0 : (w2.alloc (.cells #[.int .i64 (mgM m' us), .slice A2 (mgV m' us).length c2] 56)).cell? ⟨w2.heap.size, 0, none⟩ = some (.int .i64 (mgM m' us)) := by simp
  have y1 : (w2.alloc (.cells #[.int .i64 (mgM m' us), .slice A2 (mgV m' us).length c2] 56)).cell? ⟨w2.heap.size, 1, none⟩ = some (.slice A2 (mgV m' us).length c2) := by simp
  have sy : w2.heap.size < (w2.alloc (.cells #[.int .i64 (mgM m' us), .slice A2 (mgV m' us).length c2] 56)).heap.size := by simp
  have v2 := (o2.on ba).votes rfl (fun _ _ => rfl) (fun _ _ => rfl)
  replace v1 := v1.on ba
  clear o2
  have bl4 := Below.on bl3 ba
  have x0r := x0
  have x1r := x1
  replace x0 := (ba.cell (p := ⟨x, 0, none⟩) sx).trans x0
  replace x1 := (ba.cell (p := ⟨x, 1, none⟩) sx).trans x1
  replace sx := Nat.lt_of_lt_of_le sx ba.size
  clear ba x0r x1r
  obtain ⟨hs1, hs2⟩ := mg_small m vs
  obtain ⟨ht1, ht2⟩ := mg_small m' us
  have HS2 := Lib.hid hs2; clear hs2
  have HT2 := Lib.hid ht2; clear ht2
  cases hb1 : mgB m vs with
  | false =>
    have HF : Hid (sameP m vs m' us = false) := by rw [Hid, sameP, hb1]; rfl
    clear hb1
    go_wp2_with fail
    go_quiet (fail)
    go_wp2_with fail
    go_ret
    exact ⟨ret_boolS HF.out.symm, below_drewN bl4 _⟩
  | true =>
    cases hb2 : mgB m' us with
    | false =>
      have HF : Hid (sameP m vs m' us = false) := by rw [Hid, sameP, hb1, hb2]; rfl
      clear hb1 hb2
      go_wp2_with fail
      go_quiet (fail)
      go_wp2_with fail
      go_ret
      exact ⟨ret_boolS HF.out.symm, below_drewN bl4 _⟩
    | true =>
      have HF : Hid (sameP m vs m' us = decide (textB (mgM m vs) (mgV m vs) = textB (mgM m' us) (mgV m' us))) := by rw [Hid, sameP, hb1, hb2, text_eq (mg_prof hb1) (mg_prof hb2)]; rfl
      clear hb1 hb2
      go_wp2_with fail
      generalize (w2.alloc (.cells #[.int .i64 (mgM m' us), .slice A2 (mgV m' us).length c2] 56)) = V at *
      have bd := Below.drew (Below.refl V.heap.size V)
      refine wp_region_held_drew (S := (fun w' => w'.cell? ⟨x, 0, none⟩ = some (.int .i64 (mgM m vs)) ∧ w'.cell? ⟨x, 1, none⟩ = some (.slice A1 (mgV m vs).length c1) ∧ w'.cell? ⟨w2.heap.size, 0, none⟩ = some (.int .i64 (mgM m' us)) ∧ w'.cell? ⟨w2.heap.size, 1, none⟩ = some (.slice A2 (mgV m' us).length c2))) (by kernel_rfl) ?_ (fun hHeld => ?_)
      · (try dsimp only); go_keep
      refine wpAnyH_take (i := 0) (v := ?_) rfl (by kernel_rfl) (by kernel_rfl) (by kernel_rfl) (fun _ _ _ h => h) (Or.inl ⟨by rfl, ?_⟩) (by assumption) ?_
      rotate_left
      · intro wq hSw; (try dsimp only at hSw); go_simp; (try with_reducible rfl)
      simp only [Act.put]
      refine wpAnyH_take (i := 1) (v := ?_) rfl (by kernel_rfl) (by kernel_rfl) (by kernel_rfl) (fun _ _ _ h => h) (Or.inl ⟨by rfl, ?_⟩) (by assumption) ?_
      rotate_left
      · intro wq hSw; (try dsimp only at hSw); go_simp; (try with_reducible rfl)
      simp only [Act.put]
      refine wpAnyH_take (i := 2) (v := ?_) rfl (by kernel_rfl) (by kernel_rfl) (by kernel_rfl) (fun _ _ _ h => h) (Or.inl ⟨by rfl, ?_⟩) (by assumption) ?_
      rotate_left
      · intro wq hSw; (try dsimp only at hSw); go_simp; (try with_reducible rfl)
      simp only [Act.put]
      refine wpAnyH_take (i := 3) (v := ?_) rfl (by kernel_rfl) (by kernel_rfl) (by kernel_rfl) (fun _ _ _ h => h) (Or.inl ⟨by rfl, ?_⟩) (by assumption) ?_
      rotate_left
      · intro wq hSw; (try dsimp only at hSw); go_simp; (try with_reducible rfl)
      simp only [Act.put]
      refine wpAnyH_take (i := 4) (v := ?_) rfl (by kernel_rfl) (by kernel_rfl) (by kernel_rfl) (fun _ _ _ h => h) (Or.inl ⟨by rfl, ?_⟩) (by assumption) ?_
      rotate_left
      · intro wq hSw; (try dsimp only at hSw); go_simp; (try with_reducible rfl)
      simp only [Act.put]
      refine wpAnyH_take (i := 5) (v := ?_) rfl (by kernel_rfl) (by kernel_rfl) (by kernel_rfl) (fun _ _ _ h => h) (Or.inl ⟨by rfl, ?_⟩) (by assumption) ?_
      rotate_left
      · intro wq hSw; (try dsimp only at hSw); go_simp; (try with_reducible rfl)
      simp only [Act.put]
      refine wpAnyH_take (i := 7) (v := ?_) rfl (by kernel_rfl) (by kernel_rfl) (by kernel_rfl) (fun _ _ _ h => h) (Or.inl ⟨by rfl, ?_⟩) (by assumption) ?_
      rotate_left
      · intro wq hSw; (try dsimp only at hSw); go_simp; (try with_reducible rfl)
      simp only [Act.put]
      refine wpAnyH_ready (rs := [6]) (by kernel_rfl) (by simp) ?_
      refine AllReadyH.cons rfl (fun K hK => ?_) ?_
      · skip
        go_simp
        go_at_call 84; refine (specFormatProfile (mgM m vs) A1 _ c1 (mgV m vs) _ (v1.on bd) hs1 HS2.out).mono ?_; rintro e w3 ⟨rfl, b3⟩
        have bt := bd.trans b3
        have x0r := (bt.cell (p := ⟨x, 0, none⟩) sx).trans x0
        have x1r := (bt.cell (p := ⟨x, 1, none⟩) sx).trans x1
        have y0r := (bt.cell (p := ⟨w2.heap.size, 0, none⟩) sy).trans y0
        have y1r := (bt.cell (p := ⟨w2.heap.size, 1, none⟩) sy).trans y1
        refine hK.out _ _ ?_ (fun hHeld => ?_)
        · (try dsimp only); go_keep
        clear hK K
        refine wpAnyH_ready (rs := [8]) (by kernel_rfl) (by simp) ?_
        refine AllReadyH.cons rfl (fun K hK => ?_) ?_
        · skip
          go_simp
          go_at_call 84; refine (specFormatProfile (mgM m' us) A2 _ c2 (mgV m' us) _ (v2.on bt) ht1 HT2.out).mono ?_; rintro e w4 ⟨rfl, b4⟩
          have bt2 := Below.on bt b4
          have x0q := (bt2.cell (p := ⟨x, 0, none⟩) sx).trans x0
          have x1q := (bt2.cell (p := ⟨x, 1, none⟩) sx).trans x1
          have y0q := (bt2.cell (p := ⟨w2.heap.size, 0, none⟩) sy).trans y0
          have y1q := (bt2.cell (p := ⟨w2.heap.size, 1, none⟩) sy).trans y1
          refine hK.out _ _ ?_ (fun hHeld => ?_)
          · (try dsimp only); go_keep
          clear hK K
          refine wpAnyH_ready (rs := [9]) (by kernel_rfl) (by simp) ?_
          refine AllReadyH.cons rfl (fun K hK => ?_) ?_
          · skip
            go_simp
            refine hK.out _ _ ?_ (fun hHeld => ?_)
            · (try dsimp only); go_keep
            clear hK K
            refine wpAnyH_ready (rs := [10]) (by kernel_rfl) (by simp) ?_
            refine AllReadyH.cons rfl (fun K hK => ?_) ?_
            · skip
              go_simp
              refine hK.out _ _ ?_ (fun hHeld => ?_)
              · (try dsimp only); go_keep
              clear hK K
              refine wpAnyH_ready (rs := [11]) (by kernel_rfl) (by simp) ?_
              refine AllReadyH.cons rfl (fun K hK => ?_) ?_
              · skip
                go_simp
                refine hK.out _ _ ?_ (fun hHeld => ?_)
                · (try dsimp only); go_keep
                clear hK K
                refine wpAnyH_done (by kernel_rfl) ?_ _
                go_simp
                go_wp2_with fail
                go_ret
                exact ⟨ret_boolS (by rw [HF.out]; first | rfl | exact beq_dec _ _), Below.on bl4 bt2⟩
              exact AllReadyH.nil
            exact AllReadyH.nil
          exact AllReadyH.nil
        exact AllReadyH.nil
      exact AllReadyH.nil
end Go.Proofs.Ytaclpilehlednaa
