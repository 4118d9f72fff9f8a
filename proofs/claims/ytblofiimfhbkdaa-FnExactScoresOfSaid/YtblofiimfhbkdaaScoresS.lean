/- Scores of candidates: what the reference's function computes. -/
import Derived.Test.YtblofiimfhbkdaaScores
namespace Go.Proofs.Ytblofiimfhbkdaa
open Go.RowKit
set_option maxRecDepth 100000

set_option maxHeartbeats 2000000 in
theorem specScoresOf (m : Int) (A : Option Addr) (n c : Nat) (vs : List (List Int × Int)) (C : Option Addr) (n1 c1 : Nat) (ws : List Int) (w : World) (h : Votes w A n vs) (hn : (n : Int) ≤ 1048576) (hm : ∀ j, j < n → (rl vs j : Int) ≤ 1048576) (h' : Ints w C n1 ws) (hn1 : (n1 : Int) ≤ 1048576) :
    Calls Try.prog 37 #[.agg #[.int .i64 m, .slice A n c], .slice C n1 c1] w fun e w' => ∃ A' c', e = .returned (.slice A' (scoresP m vs ws).length c') ∧ A'.isSome = scOk m vs ws ∧ Own w' w.heap.size A' (scoresP m vs ws).length c' (scoresP m vs ws) ∧ Below w.heap.size w w' := by
  have bl : Below w.heap.size w (w.alloc (.cells #[.int .i64 m, .slice A n c] 40)) := (Below.refl _ _).alloc (Nat.le_refl _) _
  have k0 : (w.alloc (.cells #[.int .i64 m, .slice A n c] 40)).cell? ⟨w.heap.size, 0, none⟩ = some (.int .i64 m) := by simp
  have k1 : (w.alloc (.cells #[.int .i64 m, .slice A n c] 40)).cell? ⟨w.heap.size, 1, none⟩ = some (.slice A n c) := by simp
  have sW : w.heap.size < (w.alloc (.cells #[.int .i64 m, .slice A n c] 40)).heap.size := by simp
  have hV := h.on bl
  have hI := h'.on bl
  have HM := Lib.hid hm; clear hm
  have HL := Lib.hid h.1
  cases h1 : scOk m vs ws with
  | false =>
    have HO := Lib.hid h1
    rw [sc_no h1]
    go_enter Try.func37, Try.ntmps37
    go_wp2_with fail
    refine (specL05Ok m A n c vs C n1 c1 ws _ hV hn HM.out hI hn1).mono ?_; rintro e w1 ⟨rfl, b1⟩
    have bl1 := Below.on bl b1
    go_wp2_with fail
    go_ret
    exact ⟨none, 0, rfl, rfl, own_nil _ _, bl1⟩
  | true =>
    obtain ⟨hp, hw⟩ : profP m vs = true ∧ weightsP m ws = true := by simpa [scOk] using h1
    obtain ⟨q, rfl⟩ : ∃ q : Nat, m = (q : Int) := ⟨m.toNat, by have := (of_prof hp).1; omega⟩
    have HP := Lib.hid hp
    have HW := Lib.hid hw
    rw [sc_yes HL.out h1, scL_len]
    clear hp hw
    go_enter Try.func37, Try.ntmps37
    go_wp2_with fail
    refine (specL05Ok q A n c vs C n1 c1 ws _ hV hn HM.out hI hn1).mono ?_; rintro e w1 ⟨rfl, b1⟩
    have bl1 := Below.on bl b1
    have hI := hI.on b1
    have hV := hV.on b1
    have k0 := (b1.cell (p := ⟨w.heap.size, 0, none⟩) sW).trans k0
    have k1 := (b1.cell (p := ⟨w.heap.size, 1, none⟩) sW).trans k1
    have s1 := bl1.size
    go_wp2_with fail
    refine (specL05Scores q A n c vs C n1 c1 ws _ hV hI HP.out HW.out).mono ?_; rintro e w2 ⟨g, rfl, o2, b2⟩
    have bl2 := Below.on bl1 b2
    go_wp2_with fail
    go_ret
    exact ⟨some ⟨g, 0, none⟩, q, rfl, rfl, own_mono o2 s1, bl2⟩
end Go.Proofs.Ytblofiimfhbkdaa
