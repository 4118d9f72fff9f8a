/- Whether a profile is valid: what the program's and the reference's functions compute. -/
import Derived.Test.YtkofjdddmpebmaaGreatDoorProf
import Derived.Test.YtkofjdddmpebmaaGreatDoorRank2
namespace Go.Proofs.YtkofjdddmpebmaaGreatDoor
open Go.RowKit

def voteOk (m : Int) (vs : List (List Int × Int)) (k : Nat) : Bool := rankOkP m (rk vs k) && inB (ct vs k) 1 1000
def votesOk (m : Int) (vs : List (List Int × Int)) : Bool := (List.range vs.length).all fun k => voteOk m vs k
def profP (m : Int) (vs : List (List Int × Int)) : Bool := inB m 1 5 && decide (vs.length ≤ 24) && votesOk m vs
theorem votes_yes {m : Int} {vs : List (List Int × Int)} (h : ∀ k, k < vs.length → voteOk m vs k = true) : votesOk m vs = true := by
  unfold votesOk
  rw [List.all_eq_true]
  intro k hk
  exact h k (List.mem_range.1 hk)
theorem votes_no {m : Int} {vs : List (List Int × Int)} {k : Nat} (hk : k < vs.length) (h : voteOk m vs k = false) : votesOk m vs = false := by
  unfold votesOk
  rw [List.all_eq_false]
  exact ⟨k, List.mem_range.2 hk, by simp [h]⟩
theorem of_votes {m : Int} {vs : List (List Int × Int)} (h : votesOk m vs = true) {k : Nat} (hk : k < vs.length) : rankOkP m (rk vs k) = true ∧ (1 ≤ ct vs k ∧ ct vs k ≤ 1000) := by
  unfold votesOk at h
  rw [List.all_eq_true] at h
  have := h k (List.mem_range.2 hk)
  unfold voteOk at this
  rw [Bool.and_eq_true] at this
  exact ⟨this.1, of_inB this.2⟩
theorem prof_no1 {m : Int} {vs : List (List Int × Int)} (h : inB m 1 5 = false) : profP m vs = false := by simp [profP, h]
theorem prof_no2 {m : Int} {n : Nat} {vs : List (List Int × Int)} (hl : vs.length = n) (h : 24 < (n : Int)) : profP m vs = false := by
  have : ¬ vs.length ≤ 24 := by omega
  simp [profP, this]
theorem prof_no3 {m : Int} {vs : List (List Int × Int)} (h : votesOk m vs = false) : profP m vs = false := by simp [profP, h]
theorem prof_yes {m : Int} {n : Nat} {vs : List (List Int × Int)} (h1 : inB m 1 5 = true) (hl : vs.length = n) (h : ¬ 24 < (n : Int)) : profP m vs = votesOk m vs := by
  have : vs.length ≤ 24 := by omega
  simp [profP, h1, this]
theorem of_prof {m : Int} {vs : List (List Int × Int)} (h : profP m vs = true) : (1 ≤ m ∧ m ≤ 5) ∧ vs.length ≤ 24 ∧ votesOk m vs = true := by
  simp only [profP, Bool.and_eq_true, decide_eq_true_eq] at h
  exact ⟨of_inB h.1.1, h.1.2, h.2⟩

set_option maxHeartbeats 1000000 in
theorem pokClo (m : Int) (B : Option Addr) (d : Nat) (vs : List (List Int × Int)) (k : Nat) (p : Nat) (w : World) (hp : w.cell? ⟨p, 0, none⟩ = some (.int .i64 m)) (hps : p < w.heap.size) (h : Ints w B (rl vs k) (rk vs k)) (hl : (rl vs k : Int) ≤ 1048576) (hd : (rl vs k : Int) ≤ d) :
    Calls Tryz.prog 48 #[.agg #[.slice B (rl vs k) d, .int .i64 (ct vs k)], .pointer (some ⟨p, 0, none⟩)] w fun e w' => e = .returned (.bool (!voteOk m vs k)) ∧ Below w.heap.size w w' := by
  have bl : Below w.heap.size w (w.alloc (.cells #[.slice B (rl vs k) d, .int .i64 (ct vs k)] 36)) := (Below.refl _ _).alloc (Nat.le_refl _) _
  cases h1 : rankOkP m (rk vs k) with
  | false =>
    have HF : Hid ((!voteOk m vs k) = true) := by simp [Hid, voteOk, h1]
    go_enter Tryz.func48, Tryz.ntmps48
    go_wp2_with fail
    refine (implRankingOk m B (rl vs k) d (rk vs k) _ (h.on bl) hl hd).mono ?_; rintro e w1 ⟨rfl, rfl⟩
    go_wp2_with fail
    go_ret
    exact ⟨ret_bool HF.out.symm, bl⟩
  | true =>
    have HF : Hid ((!voteOk m vs k) = !inB (ct vs k) 1 1000) := by simp [Hid, voteOk, h1]
    go_enter Tryz.func48, Tryz.ntmps48
    go_wp2_with fail
    refine (implRankingOk m B (rl vs k) d (rk vs k) _ (h.on bl) hl hd).mono ?_; rintro e w1 ⟨rfl, rfl⟩
    go_wp2_with fail
    refine (implWithin _ _ _ _).mono ?_; rintro e w1 ⟨rfl, rfl⟩
    go_wp2_with fail
    go_ret
    exact ⟨ret_bool HF.out.symm, bl⟩

set_option maxHeartbeats 2000000 in
theorem pokIdx (m : Int) (A : Option Addr) (n c : Nat) (vs : List (List Int × Int)) (p : Nat) (w : World) (hp : w.cell? ⟨p, 0, none⟩ = some (.int .i64 m)) (hps : p < w.heap.size) (h : Votes w A n vs) (hn : (n : Int) ≤ 1048576) (hm : ∀ j, j < n → (rl vs j : Int) ≤ 1048576) :
    Calls Tryz.prog 63 #[.slice A n c, .func (.func 48) #[] #[.pointer (some ⟨p, 0, none⟩)]] w fun e w' => ∃ r : Int, e = .returned (.int .i64 r) ∧ ((r < 0 ∧ votesOk m vs = true) ∨ (0 ≤ r ∧ votesOk m vs = false)) ∧ Below w.heap.size w w' := by
  have HL := Lib.hid h.1
  have HM := Lib.hid hm
  have HP := Lib.hid hp
  clear hm hp
  go_enter Tryz.func63, Tryz.ntmps63
  go_wp2
  go_loopw [8] (fun u wr => ∃ k : Nat, (k : Int) ≤ n ∧ u = .int .i64 k ∧ (∀ j, j < k → voteOk m vs j = true) ∧ Below w.heap.size w wr) (fun u _ => n - (intOf u).toNat)
  case atStart => exact ⟨0, by omega, rfl, fun j hj => absurd hj (by omega), Below.refl _ _⟩
  case round =>
    obtain ⟨k, hk, rfl, hno, hb⟩ := hrel
    have HN := Lib.hid hno; clear hno
    by_cases hlt : (k : Int) < n
    · obtain ⟨b, ob, rfl, hbs, ⟨B, d, q1, q2, q3, q4, q5⟩⟩ := (h.on hb).at_ (k := k) (by omega)
      have hlb := HM.out k (by omega)
      have hps2 : p < wr.heap.size := Nat.lt_of_lt_of_le hps hb.size
      have HPW : Hid (wr.cell? ⟨p, 0, none⟩ = some (.int .i64 m)) := (hb.cell (p := ⟨p, 0, none⟩) hps).trans HP.out
      have q2' : (rl vs k : Int) ≤ d := by omega
      cases hx : voteOk m vs k with
      | false =>
        have HF := Lib.hid (votes_no (m := m) (vs := vs) (k := k) (by rw [HL.out]; omega) hx)
        go_wp2_with fail
        refine (pokClo m B d vs k p _ HPW.out hps2 q4 hlb q2').mono ?_; rintro e w1 ⟨rfl, b1⟩
        have hb1 := Below.on hb b1
        go_wp2_with fail
        go_ret
        exact ⟨k, rfl, .inr ⟨by omega, HF.out⟩, hb1⟩
      | true =>
        have HX := Lib.hid hx
        go_wp2_with fail
        refine (pokClo m B d vs k p _ HPW.out hps2 q4 hlb q2').mono ?_; rintro e w1 ⟨rfl, b1⟩
        have hb1 := Below.on hb b1
        go_wp2_with fail
        go_roundw
        case rel =>
          refine ⟨k + 1, by omega, by go_num, fun j hj => ?_, hb1⟩
          by_cases hjk : j = k
          · subst hjk; exact HX.out
          · exact HN.out j (by omega)
        case measure => simp [intOf]; omega
    · have HF := Lib.hid (votes_yes (m := m) (vs := vs) (fun j hj => HN.out j (by rw [HL.out] at hj; omega)))
      go_wp2
      go_ret
      exact ⟨-1, rfl, .inl ⟨by omega, HF.out⟩, hb⟩

set_option maxHeartbeats 2000000 in
theorem implProfileOk (m : Int) (A : Option Addr) (n c : Nat) (vs : List (List Int × Int)) (w : World) (h : Votes w A n vs) (hn : (n : Int) ≤ 1048576) (hm : ∀ j, j < n → (rl vs j : Int) ≤ 1048576) :
    Calls Tryz.prog 33 #[.agg #[.int .i64 m, .slice A n c]] w fun e w' => e = .returned (.bool (profP m vs)) ∧ Below w.heap.size w w' := by
  have bl : Below w.heap.size w (w.alloc (.cells #[.int .i64 m, .slice A n c] 24)) := (Below.refl _ _).alloc (Nat.le_refl _) _
  have hl := h.1
  cases h1 : inB m 1 5 with
  | false =>
    have HF := Lib.hid (prof_no1 (vs := vs) h1)
    clear hl
    go_enter Tryz.func33, Tryz.ntmps33
    go_wp2_with fail
    refine (implWithin _ _ _ _).mono ?_; rintro e w1 ⟨rfl, rfl⟩
    go_wp2_with fail
    go_ret
    exact ⟨ret_bool HF.out.symm, bl⟩
  | true =>
    by_cases h2 : 24 < (n : Int)
    · have HF := Lib.hid (prof_no2 (m := m) hl h2)
      clear hl
      go_enter Tryz.func33, Tryz.ntmps33
      go_wp2_with fail
      refine (implWithin _ _ _ _).mono ?_; rintro e w1 ⟨rfl, rfl⟩
      go_wp2_with fail
      go_ret
      exact ⟨ret_bool HF.out.symm, bl⟩
    · have HF := Lib.hid (prof_yes h1 hl h2)
      have k0 : (w.alloc (.cells #[.int .i64 m, .slice A n c] 24)).cell? ⟨w.heap.size, 0, none⟩ = some (.int .i64 m) := by simp
      have K0 := Lib.hid k0; clear k0
      have hW := h.on bl
      have HM := Lib.hid hm; clear hm
      clear hl
      go_enter Tryz.func33, Tryz.ntmps33
      go_wp2_with fail
      refine (implWithin _ _ _ _).mono ?_; rintro e w1 ⟨rfl, rfl⟩
      go_wp2_with fail
      go_in
      go_wp2_with fail
      refine (pokIdx m A n c vs w.heap.size _ K0.out (by simp) hW hn HM.out).mono ?_
      rintro e w1 ⟨r, rfl, hr, b1⟩
      have bl1 := Below.on bl b1
      rcases hr with ⟨r1, r2⟩ | ⟨r1, r2⟩
      · have R := Lib.hid r2; clear r2
        go_wp2_with fail
        go_ret
        exact ⟨ret_bool (by rw [HF.out]; first | exact R.out.symm | (rw [R.out]; simp; omega)), bl1⟩
      · have R := Lib.hid r2; clear r2
        go_wp2_with fail
        go_ret
        exact ⟨ret_bool (by rw [HF.out]; first | exact R.out.symm | (rw [R.out]; simp; omega)), bl1⟩

set_option maxHeartbeats 4000000 in
theorem specProfileOk (m : Int) (A : Option Addr) (n c : Nat) (vs : List (List Int × Int)) (w : World) (h : Votes w A n vs) (hn : (n : Int) ≤ 1048576) (hm : ∀ j, j < n → (rl vs j : Int) ≤ 1048576) :
    Calls Tryz.prog 12 #[.agg #[.int .i64 m, .slice A n c]] w fun e w' => e = .returned (.bool (profP m vs)) ∧ Below w.heap.size w w' := by
  have bl : Below w.heap.size w (w.alloc (.cells #[.int .i64 m, .slice A n c] 24)) := (Below.refl _ _).alloc (Nat.le_refl _) _
  have hl := h.1
  cases h1 : inB m 1 5 with
  | false =>
    have HF := Lib.hid (prof_no1 (vs := vs) h1)
    clear hl
    go_enter Tryz.func12, Tryz.ntmps12
    go_wp2_with fail
    refine (specIn _ _ _ _).mono ?_; rintro e w1 ⟨rfl, rfl⟩
    go_wp2_with fail
    go_ret
    exact ⟨ret_bool HF.out.symm, bl⟩
  | true =>
    by_cases h2 : 24 < (n : Int)
    · have HF := Lib.hid (prof_no2 (m := m) hl h2)
      clear hl
      go_enter Tryz.func12, Tryz.ntmps12
      go_wp2_with fail
      refine (specIn _ _ _ _).mono ?_; rintro e w1 ⟨rfl, rfl⟩
      go_wp2_with fail
      go_ret
      exact ⟨ret_bool HF.out.symm, bl⟩
    · have HF := Lib.hid (prof_yes h1 hl h2)
      have HL := Lib.hid hl
      have HM := Lib.hid hm; clear hm
      have K0 : Hid ((w.alloc (.cells #[.int .i64 m, .slice A n c] 24)).cell? ⟨w.heap.size, 0, none⟩ = some (.int .i64 m)) := by simp [Hid]
      clear hl
      go_enter Tryz.func12, Tryz.ntmps12
      go_wp2_with fail
      refine (specIn _ _ _ _).mono ?_; rintro e w1 ⟨rfl, rfl⟩
      go_wp2_with fail
      have hW := h.on bl
      have hsW : w.heap.size < (w.alloc (.cells #[.int .i64 m, .slice A n c] 24)).heap.size := by simp
      generalize w.alloc (.cells #[.int .i64 m, .slice A n c] 24) = W at *
      go_loopw [18] (fun u wr => ∃ k : Nat, (k : Int) ≤ n ∧ u = .int .i64 k ∧ (∀ j, j < k → voteOk m vs j = true) ∧ Below W.heap.size W wr) (fun u _ => n - (intOf u).toNat)
      case atStart => exact ⟨0, by omega, rfl, fun j hj => absurd hj (by omega), Below.refl _ _⟩
      case round =>
        obtain ⟨k, hk, rfl, hno, hb⟩ := hrel
        have HN := Lib.hid hno; clear hno
        by_cases hlt : (k : Int) < n
        · obtain ⟨b, ob, rfl, hbs, ⟨B, d, q1, q2, q3, q4, q5⟩⟩ := (hW.on hb).at_ (k := k) (by omega)
          have hlb := HM.out k (by omega)
          have k0 := (hb.cell (p := ⟨w.heap.size, 0, none⟩) hsW).trans K0.out
          have hs2 := hb.size
          have hs3 : w.heap.size < wr.heap.size := by omega
          have bA : Below wr.heap.size wr (wr.alloc (.cells #[.slice B (rl vs k) d, .int .i64 (ct vs k)] 36)) := (Below.refl _ _).alloc (Nat.le_refl _) _
          cases hr : rankOkP m (rk vs k) with
          | false =>
            have HV := Lib.hid (votes_no (m := m) (vs := vs) (k := k) (by rw [HL.out]; omega) (by simp [voteOk, hr]))
            go_wp2_with fail
            refine (specRankingOk m B (rl vs k) d (rk vs k) _ (q4.on bA) hlb).mono ?_; rintro e w1 ⟨rfl, b1⟩
            have hb1 := Below.on hb (Below.on bA b1)
            go_wp2_with fail
            go_ret
            exact ⟨ret_bool (by rw [HF.out, HV.out]), bl.trans (hb1.mono (by omega))⟩
          | true =>
            cases hx : inB (ct vs k) 1 1000 with
            | false =>
              have HV := Lib.hid (votes_no (m := m) (vs := vs) (k := k) (by rw [HL.out]; omega) (by simp [voteOk, hx]))
              go_wp2_with fail
              refine (specRankingOk m B (rl vs k) d (rk vs k) _ (q4.on bA) hlb).mono ?_; rintro e w1 ⟨rfl, b1⟩
              have c5 : w1.cell? ⟨wr.heap.size, 1, none⟩ = some (.int .i64 (ct vs k)) := (b1.cell (p := ⟨wr.heap.size, 1, none⟩) (by simp)).trans (by simp)
              have hb1 := Below.on hb (Below.on bA b1)
              go_wp2_with fail
              refine (specIn _ _ _ _).mono ?_; rintro e w2 ⟨rfl, rfl⟩
              go_wp2_with fail
              go_ret
              exact ⟨ret_bool (by rw [HF.out, HV.out]), bl.trans (hb1.mono (by omega))⟩
            | true =>
              have HV : Hid (voteOk m vs k = true) := by simp [Hid, voteOk, hr, hx]
              go_wp2_with fail
              refine (specRankingOk m B (rl vs k) d (rk vs k) _ (q4.on bA) hlb).mono ?_; rintro e w1 ⟨rfl, b1⟩
              have c5 : w1.cell? ⟨wr.heap.size, 1, none⟩ = some (.int .i64 (ct vs k)) := (b1.cell (p := ⟨wr.heap.size, 1, none⟩) (by simp)).trans (by simp)
              have hb1 := Below.on hb (Below.on bA b1)
              go_wp2_with fail
              refine (specIn _ _ _ _).mono ?_; rintro e w2 ⟨rfl, rfl⟩
              go_wp2_with fail
              go_roundw
              case rel =>
                refine ⟨k + 1, by omega, by go_num, fun j hj => ?_, hb1⟩
                by_cases hjk : j = k
                · subst hjk; exact HV.out
                · exact HN.out j (by omega)
              case measure => simp [intOf]; omega
        · have HV := Lib.hid (votes_yes (m := m) (vs := vs) (fun j hj => HN.out j (by rw [HL.out] at hj; omega)))
          have hs2 := hb.size
          go_wp2
          go_ret
          exact ⟨ret_bool (by rw [HF.out, HV.out]), bl.trans (hb.mono (by omega))⟩
end Go.Proofs.YtkofjdddmpebmaaGreatDoor
