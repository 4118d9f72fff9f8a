/- Whether a profile is peaked on an axis: what the program's and the reference's functions compute. -/
import Derived.Test.YtblofiimfhbkdabPok
import Derived.Test.YtblofiimfhbkdabPeakS
namespace Go.Proofs.Ytblofiimfhbkdab
open Go.RowKit

def allPk (vs : List (List Int × Int)) (ax : List Int) : Bool := (List.range vs.length).all fun k => peakedP (rk vs k) ax
def ppkP (m : Int) (vs : List (List Int × Int)) (ax : List Int) : Bool := profP m vs && rankOkP m ax && allPk vs ax
theorem allPk_yes {vs : List (List Int × Int)} {ax : List Int} (h : ∀ k, k < vs.length → peakedP (rk vs k) ax = true) : allPk vs ax = true := by
  unfold allPk
  rw [List.all_eq_true]
  intro k hk
  exact h k (List.mem_range.1 hk)
theorem allPk_no {vs : List (List Int × Int)} {ax : List Int} {k : Nat} (hk : k < vs.length) (h : peakedP (rk vs k) ax = false) : allPk vs ax = false := by
  unfold allPk
  rw [List.all_eq_false]
  exact ⟨k, List.mem_range.2 hk, by simp [h]⟩
theorem ppk_no1 {m : Int} {vs : List (List Int × Int)} {ax : List Int} (h : profP m vs = false) : ppkP m vs ax = false := by simp [ppkP, h]
theorem ppk_no2 {m : Int} {vs : List (List Int × Int)} {ax : List Int} (h : rankOkP m ax = false) : ppkP m vs ax = false := by simp [ppkP, h]
theorem ppk_yes {m : Int} {vs : List (List Int × Int)} {ax : List Int} (h : profP m vs = true) (h' : rankOkP m ax = true) : ppkP m vs ax = allPk vs ax := by simp [ppkP, h, h']
theorem peaked_ok {m : Int} {xs ax : List Int} (h1 : rankOkP m xs = true) (h2 : rankOkP m ax = true) : peakedP xs ax = peakS (places ax xs) := by
  have e := (of_rank h2).2.1
  subst e
  simp [peakedP, h1, h2]

set_option maxHeartbeats 1000000 in
theorem ppkClo (B C : Option Addr) (d n1 c1 : Nat) (vs : List (List Int × Int)) (ax : List Int) (k p : Nat) (w : World) (hp : w.cell? ⟨p, 0, none⟩ = some (.slice C n1 c1)) (hps : p < w.heap.size) (h : Ints w B (rl vs k) (rk vs k)) (hl : (rl vs k : Int) ≤ 1048576) (hd : (rl vs k : Int) ≤ d) (h' : Ints w C n1 ax) (hn1 : (n1 : Int) ≤ 1048576) (hc1 : (n1 : Int) ≤ c1) :
    Calls Try.prog 87 #[.agg #[.slice B (rl vs k) d, .int .i64 (ct vs k)], .pointer (some ⟨p, 0, none⟩)] w fun e w' => e = .returned (.bool (!peakedP (rk vs k) ax)) ∧ Below w.heap.size w w' := by
  have bl : Below w.heap.size w (w.alloc (.cells #[.slice B (rl vs k) d, .int .i64 (ct vs k)] 63)) := (Below.refl _ _).alloc (Nat.le_refl _) _
  go_enter Try.func87, Try.ntmps87
  go_wp2_with fail
  refine (implIsPeaked B (rl vs k) d (rk vs k) C n1 c1 ax _ (h.on bl) hl (h'.on bl) hn1 hd hc1).mono ?_; rintro e w1 ⟨rfl, rfl⟩
  go_wp2_with fail
  go_ret
  exact ⟨rfl, bl⟩

set_option maxHeartbeats 2000000 in
theorem ppkIdx (A C : Option Addr) (n c n1 c1 : Nat) (vs : List (List Int × Int)) (ax : List Int) (p : Nat) (w : World) (hp : w.cell? ⟨p, 0, none⟩ = some (.slice C n1 c1)) (hps : p < w.heap.size) (h : Votes w A n vs) (hn : (n : Int) ≤ 1048576) (hm : ∀ j, j < n → (rl vs j : Int) ≤ 1048576) (h' : Ints w C n1 ax) (hn1 : (n1 : Int) ≤ 1048576) (hc1 : (n1 : Int) ≤ c1) :
    Calls Try.prog 105 #[.slice A n c, .func (.func 87) #[] #[.pointer (some ⟨p, 0, none⟩)]] w fun e w' => ∃ r : Int, e = .returned (.int .i64 r) ∧ ((r < 0 ∧ allPk vs ax = true) ∨ (0 ≤ r ∧ allPk vs ax = false)) ∧ Below w.heap.size w w' := by
  have HL := Lib.hid h.1
  have HM := Lib.hid hm
  have HP := Lib.hid hp
  clear hm hp
  go_enter Try.func105, Try.ntmps105
  go_wp2
  go_loopw [8] (fun u wr => ∃ k : Nat, (k : Int) ≤ n ∧ u = .int .i64 k ∧ (∀ j, j < k → peakedP (rk vs j) ax = true) ∧ Below w.heap.size w wr) (fun u _ => n - (intOf u).toNat)
  case atStart => exact ⟨0, by omega, rfl, fun j hj => absurd hj (by omega), Below.refl _ _⟩
  case round =>
    obtain ⟨k, hk, rfl, hno, hb⟩ := hrel
    have HN := Lib.hid hno; clear hno
    by_cases hlt : (k : Int) < n
    · obtain ⟨b, ob, rfl, hbs, ⟨B, d, q1, q2, q3, q4, q5⟩⟩ := (h.on hb).at_ (k := k) (by omega)
      have hlb := HM.out k (by omega)
      have hps2 : p < wr.heap.size := Nat.lt_of_lt_of_le hps hb.size
      have HPW : Hid (wr.cell? ⟨p, 0, none⟩ = some (.slice C n1 c1)) := (hb.cell (p := ⟨p, 0, none⟩) hps).trans HP.out
      have q2' : (rl vs k : Int) ≤ d := by omega
      have hax := h'.on hb
      cases hx : peakedP (rk vs k) ax with
      | false =>
        have HF := Lib.hid (allPk_no (vs := vs) (ax := ax) (k := k) (by rw [HL.out]; omega) hx)
        go_wp2_with fail
        refine (ppkClo B C d n1 c1 vs ax k p _ HPW.out hps2 q4 hlb q2' hax hn1 hc1).mono ?_; rintro e w1 ⟨rfl, b1⟩
        have hb1 := Below.on hb b1
        go_wp2_with fail
        go_ret
        exact ⟨k, rfl, .inr ⟨by omega, HF.out⟩, hb1⟩
      | true =>
        have HX := Lib.hid hx
        go_wp2_with fail
        refine (ppkClo B C d n1 c1 vs ax k p _ HPW.out hps2 q4 hlb q2' hax hn1 hc1).mono ?_; rintro e w1 ⟨rfl, b1⟩
        have hb1 := Below.on hb b1
        go_wp2_with fail
        go_roundw
        case rel =>
          refine ⟨k + 1, by omega, by go_num, fun j hj => ?_, hb1⟩
          by_cases hjk : j = k
          · subst hjk; exact HX.out
          · exact HN.out j (by omega)
        case measure => simp [intOf]; omega
    · have HF := Lib.hid (allPk_yes (vs := vs) (ax := ax) (fun j hj => HN.out j (by rw [HL.out] at hj; omega)))
      go_wp2
      go_ret
      exact ⟨-1, rfl, .inl ⟨by omega, HF.out⟩, hb⟩

set_option maxHeartbeats 2000000 in
theorem implIsPeakedProfile (m : Int) (A : Option Addr) (n c : Nat) (vs : List (List Int × Int)) (C : Option Addr) (n1 c1 : Nat) (ax : List Int) (w : World) (h : Votes w A n vs) (hn : (n : Int) ≤ 1048576) (hm : ∀ j, j < n → (rl vs j : Int) ≤ 1048576) (h' : Ints w C n1 ax) (hn1 : (n1 : Int) ≤ 1048576) (hc1 : (n1 : Int) ≤ c1) :
    Calls Try.prog 54 #[.agg #[.int .i64 m, .slice A n c], .slice C n1 c1] w fun e w' => e = .returned (.bool (ppkP m vs ax)) ∧ Below w.heap.size w w' := by
  have bl : Below w.heap.size w ((w.alloc (.cells #[.int .i64 m, .slice A n c] 30)).alloc (.cells #[.slice C n1 c1] 26)) := ((Below.refl _ _).alloc (Nat.le_refl _) _).alloc (by simp) _
  have k0 : ((w.alloc (.cells #[.int .i64 m, .slice A n c] 30)).alloc (.cells #[.slice C n1 c1] 26)).cell? ⟨w.heap.size, 0, none⟩ = some (.int .i64 m) := by simp [go_sem]
  have k1 : ((w.alloc (.cells #[.int .i64 m, .slice A n c] 30)).alloc (.cells #[.slice C n1 c1] 26)).cell? ⟨w.heap.size, 1, none⟩ = some (.slice A n c) := by simp [go_sem]
  have k2 : ((w.alloc (.cells #[.int .i64 m, .slice A n c] 30)).alloc (.cells #[.slice C n1 c1] 26)).cell? ⟨w.heap.size + 1, 0, none⟩ = some (.slice C n1 c1) := by simp [go_sem]
  have sW : w.heap.size + 1 < ((w.alloc (.cells #[.int .i64 m, .slice A n c] 30)).alloc (.cells #[.slice C n1 c1] 26)).heap.size := by simp
  have hV := h.on bl
  have hI := h'.on bl
  have HM := Lib.hid hm; clear hm
  cases h1 : profP m vs with
  | false =>
    have HF := Lib.hid (ppk_no1 (ax := ax) h1)
    go_enter Try.func54, Try.ntmps54
    go_wp2_with fail
    refine (implProfileOk m A n c vs _ hV hn HM.out).mono ?_; rintro e w1 ⟨rfl, b1⟩
    have bl1 := Below.on bl b1
    go_wp2_with fail
    go_ret
    exact ⟨ret_bool HF.out.symm, bl1⟩
  | true =>
    cases h2 : rankOkP m ax with
    | false =>
      have HF := Lib.hid (ppk_no2 (vs := vs) h2)
      go_enter Try.func54, Try.ntmps54
      go_wp2_with fail
      refine (implProfileOk m A n c vs _ hV hn HM.out).mono ?_; rintro e w1 ⟨rfl, b1⟩
      have bl1 := Below.on bl b1
      have hI := hI.on b1
      have k0 := (b1.cell (p := ⟨w.heap.size, 0, none⟩) (Nat.lt_of_succ_lt sW)).trans k0
      have k2 := (b1.cell (p := ⟨w.heap.size + 1, 0, none⟩) sW).trans k2
      go_wp2_with fail
      refine (implRankingOk m C n1 c1 ax _ hI hn1 hc1).mono ?_; rintro e w2 ⟨rfl, rfl⟩
      go_wp2_with fail
      go_ret
      exact ⟨ret_bool HF.out.symm, bl1⟩
    | true =>
      have HF := Lib.hid (ppk_yes h1 h2)
      go_enter Try.func54, Try.ntmps54
      go_wp2_with fail
      refine (implProfileOk m A n c vs _ hV hn HM.out).mono ?_; rintro e w1 ⟨rfl, b1⟩
      have bl1 := Below.on bl b1
      have hI := hI.on b1
      have hV := hV.on b1
      have k0 := (b1.cell (p := ⟨w.heap.size, 0, none⟩) (Nat.lt_of_succ_lt sW)).trans k0
      have k1 := (b1.cell (p := ⟨w.heap.size, 1, none⟩) (Nat.lt_of_succ_lt sW)).trans k1
      have k2 := (b1.cell (p := ⟨w.heap.size + 1, 0, none⟩) sW).trans k2
      have s1 : w.heap.size + 1 < w1.heap.size := Nat.lt_of_lt_of_le sW b1.size
      have K2 := Lib.hid k2
      go_wp2_with fail
      refine (implRankingOk m C n1 c1 ax _ hI hn1 hc1).mono ?_; rintro e w2 ⟨rfl, rfl⟩
      go_wp2_with fail
      go_in
      go_wp2_with fail
      refine (ppkIdx A C n c n1 c1 vs ax (w.heap.size + 1) _ K2.out s1 hV hn HM.out hI hn1 hc1).mono ?_
      rintro e w3 ⟨r, rfl, hr, b3⟩
      have bl3 := Below.on bl1 b3
      rcases hr with ⟨r1, r2⟩ | ⟨r1, r2⟩
      · have R := Lib.hid r2; clear r2
        go_wp2_with fail
        go_ret
        exact ⟨ret_bool (by rw [HF.out]; first | exact R.out.symm | (rw [R.out]; simp; omega)), bl3⟩
      · have R := Lib.hid r2; clear r2
        go_wp2_with fail
        go_ret
        exact ⟨ret_bool (by rw [HF.out]; first | exact R.out.symm | (rw [R.out]; simp; omega)), bl3⟩

set_option maxHeartbeats 4000000 in
theorem specIsPeakedProfile (m : Int) (A : Option Addr) (n c : Nat) (vs : List (List Int × Int)) (C : Option Addr) (n1 c1 : Nat) (ax : List Int) (w : World) (h : Votes w A n vs) (hn : (n : Int) ≤ 1048576) (hm : ∀ j, j < n → (rl vs j : Int) ≤ 1048576) (h' : Ints w C n1 ax) (hn1 : (n1 : Int) ≤ 1048576) :
    Calls Try.prog 51 #[.agg #[.int .i64 m, .slice A n c], .slice C n1 c1] w fun e w' => e = .returned (.bool (ppkP m vs ax)) ∧ Below w.heap.size w w' := by
  have bl : Below w.heap.size w (w.alloc (.cells #[.int .i64 m, .slice A n c] 30)) := (Below.refl _ _).alloc (Nat.le_refl _) _
  have k0 : (w.alloc (.cells #[.int .i64 m, .slice A n c] 30)).cell? ⟨w.heap.size, 0, none⟩ = some (.int .i64 m) := by simp
  have k1 : (w.alloc (.cells #[.int .i64 m, .slice A n c] 30)).cell? ⟨w.heap.size, 1, none⟩ = some (.slice A n c) := by simp
  have sW : w.heap.size < (w.alloc (.cells #[.int .i64 m, .slice A n c] 30)).heap.size := by simp
  have hV := h.on bl
  have hI := h'.on bl
  have HM := Lib.hid hm; clear hm
  have HL := Lib.hid h.1
  cases h1 : profP m vs with
  | false =>
    have HF := Lib.hid (ppk_no1 (ax := ax) h1)
    go_enter Try.func51, Try.ntmps51
    go_wp2_with fail
    refine (specProfileOk m A n c vs _ hV hn HM.out).mono ?_; rintro e w1 ⟨rfl, b1⟩
    have bl1 := Below.on bl b1
    go_wp2_with fail
    go_ret
    exact ⟨ret_bool HF.out.symm, bl1⟩
  | true =>
    cases h2 : rankOkP m ax with
    | false =>
      have HF := Lib.hid (ppk_no2 (vs := vs) h2)
      go_enter Try.func51, Try.ntmps51
      go_wp2_with fail
      refine (specProfileOk m A n c vs _ hV hn HM.out).mono ?_; rintro e w1 ⟨rfl, b1⟩
      have bl1 := Below.on bl b1
      have hI := hI.on b1
      have k0 := (b1.cell (p := ⟨w.heap.size, 0, none⟩) sW).trans k0
      go_wp2_with fail
      refine (specRankingOk m C n1 c1 ax _ hI hn1).mono ?_; rintro e w2 ⟨rfl, b2⟩
      have bl2 := Below.on bl1 b2
      go_wp2_with fail
      go_ret
      exact ⟨ret_bool HF.out.symm, bl2⟩
    | true =>
      have HF := Lib.hid (ppk_yes h1 h2)
      have hall := (of_prof h1).2.2
      have HRK : Hid (∀ k, k < n → rankOkP m (rk vs k) = true) := fun k hk => (of_votes hall (by rw [HL.out]; exact hk)).1
      have H2 := Lib.hid h2
      clear hall
      go_enter Try.func51, Try.ntmps51
      go_wp2_with fail
      refine (specProfileOk m A n c vs _ hV hn HM.out).mono ?_; rintro e w1 ⟨rfl, b1⟩
      have bl1 := Below.on bl b1
      have hI := hI.on b1
      have hV := hV.on b1
      have k0 := (b1.cell (p := ⟨w.heap.size, 0, none⟩) sW).trans k0
      have k1 := (b1.cell (p := ⟨w.heap.size, 1, none⟩) sW).trans k1
      have s1 : w.heap.size < w1.heap.size := Nat.lt_of_lt_of_le sW b1.size
      go_wp2_with fail
      refine (specRankingOk m C n1 c1 ax _ hI hn1).mono ?_; rintro e w2 ⟨rfl, b2⟩
      have bl2 := Below.on bl1 b2
      have hJ := hI.on b2
      have hV := hV.on b2
      have k1 := (b2.cell (p := ⟨w.heap.size, 1, none⟩) s1).trans k1
      go_wp2_with fail
      go_loopw [20] (fun u wr => ∃ k : Nat, (k : Int) ≤ n ∧ u = .int .i64 k ∧ (∀ j, j < k → peakedP (rk vs j) ax = true) ∧ Below w2.heap.size w2 wr) (fun u _ => n - (intOf u).toNat)
      case atStart => exact ⟨0, by omega, rfl, fun j hj => absurd hj (by omega), Below.refl _ _⟩
      case round =>
        obtain ⟨k, hk, rfl, hno, hb⟩ := hrel
        have HN := Lib.hid hno; clear hno
        have hbw := Below.on bl2 hb
        by_cases hlt : (k : Int) < n
        · obtain ⟨b, ob, rfl, hbs, ⟨B, d, q1, q2, q3, q4, q5⟩⟩ := (hV.on hb).at_ (k := k) (by omega)
          have hlb := HM.out k (by omega)
          have q2' : (rl vs k : Int) ≤ d := by omega
          have hax := hJ.on hb
          have bA : Below wr.heap.size wr (wr.alloc (.cells #[.slice B (rl vs k) d, .int .i64 (ct vs k)] 63)) := (Below.refl _ _).alloc (Nat.le_refl _) _
          have hrk := HRK.out k (by omega)
          have p0 : 1 ≤ (rl vs k : Int) := by have := of_rank hrk; unfold rl; omega
          have HPK := Lib.hid (peaked_ok hrk H2.out)
          have hbA := Below.on hbw bA
          cases hx : peakS (places ax (rk vs k)) with
          | false =>
            have HX := Lib.hid (allPk_no (vs := vs) (ax := ax) (k := k) (by rw [HL.out]; omega) (by rw [HPK.out]; exact hx))
            go_wp2_with fail
            refine (specPeakedL (rl vs k) B C d c1 n1 (rk vs k) ax _ (q4.on bA) (hax.on bA) hlb p0 hn1 q2').mono ?_; rintro e w3 ⟨rfl, rfl⟩
            go_wp2_with fail
            go_ret
            exact ⟨ret_bool (by rw [HF.out, HX.out]), hbA⟩
          | true =>
            have HX : Hid (peakedP (rk vs k) ax = true) := HPK.out.trans hx
            go_wp2_with fail
            refine (specPeakedL (rl vs k) B C d c1 n1 (rk vs k) ax _ (q4.on bA) (hax.on bA) hlb p0 hn1 q2').mono ?_; rintro e w3 ⟨rfl, rfl⟩
            go_wp2_with fail
            go_roundw
            case rel =>
              refine ⟨k + 1, by omega, by go_num, fun j hj => ?_, Below.on hb bA⟩
              by_cases hjk : j = k
              · subst hjk; exact HX.out
              · exact HN.out j (by omega)
            case measure => simp [intOf]; omega
        · have HX := Lib.hid (allPk_yes (vs := vs) (ax := ax) (fun j hj => HN.out j (by rw [HL.out] at hj; omega)))
          go_wp2
          go_ret
          exact ⟨ret_bool (by rw [HF.out, HX.out]), hbw⟩
end Go.Proofs.Ytblofiimfhbkdab
