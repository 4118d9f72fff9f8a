/- Whether a ranking is peaked on an axis: what the reference computes. -/
import Derived.Test.YtgonkppphaoapaaPeakS
namespace Go.Proofs.Ytgonkppphaoapaa
open Go.RowKit
set_option maxHeartbeats 2000000 in
theorem specIsPeaked (A : Option Addr) (n c : Nat) (xs : List Int) (B : Option Addr) (m d : Nat) (ax : List Int) (w : World) (h : Ints w A n xs) (hn : (n : Int) ≤ 1048576) (h' : Ints w B m ax) (hm : (m : Int) ≤ 1048576) (hcap : (n : Int) ≤ c) :
    Calls Try.prog 48 #[.slice A n c, .slice B m d] w fun e w' => e = .returned (.bool (peakedP xs ax)) ∧ Below w.heap.size w w' := by
  have hl' := h'.1
  cases h1 : rankOkP m ax with
  | false =>
    have HF := Lib.hid (peaked_no2 (xs := xs) hl' h1)
    clear hl'
    go_enter Try.func48, Try.ntmps48
    go_wp2_with fail
    refine (specRankingOk _ _ _ _ ax _ h' hm).mono ?_; rintro e w1 ⟨rfl, b1⟩
    go_wp2_with fail
    go_ret
    exact ⟨ret_bool HF.out.symm, b1⟩
  | true =>
    cases h2 : rankOkP m xs with
    | false =>
      have HF : Hid (peakedP xs ax = false) := by simp [Hid, peakedP, hl', h1, h2]
      clear hl'
      go_enter Try.func48, Try.ntmps48
      go_wp2_with fail
      refine (specRankingOk _ _ _ _ ax _ h' hm).mono ?_; rintro e w1 ⟨rfl, b1⟩
      have h := h.on b1
      go_wp2_with fail
      refine (specRankingOk _ _ _ _ xs _ h hn).mono ?_; rintro e w2 ⟨rfl, b2⟩
      go_wp2_with fail
      go_ret
      exact ⟨ret_bool HF.out.symm, Below.on b1 b2⟩
    | true =>
      have HF : Hid (peakedP xs ax = peakS (places ax xs)) := by simp [Hid, peakedP, hl', h1, h2]
      have hl := h.1
      have p0 : 1 ≤ (n : Int) := by have := of_rank h2; omega
      clear hl' hl
      go_enter Try.func48, Try.ntmps48
      go_wp2_with fail
      refine (specRankingOk _ _ _ _ ax _ h' hm).mono ?_; rintro e w1 ⟨rfl, b1⟩
      have h := h.on b1
      have h' := h'.on b1
      go_wp2_with fail
      refine (specRankingOk _ _ _ _ xs _ h hn).mono ?_; rintro e w2 ⟨rfl, b2⟩
      have h := h.on b2
      have h' := h'.on b2
      go_wp2_with fail
      refine (specPeakedL _ _ _ _ _ _ xs ax _ h h' hn p0 hm hcap).mono ?_; rintro e w3 ⟨rfl, rfl⟩
      go_wp2_with fail
      go_ret
      exact ⟨ret_bool HF.out.symm, Below.on b1 b2⟩
end Go.Proofs.Ytgonkppphaoapaa
