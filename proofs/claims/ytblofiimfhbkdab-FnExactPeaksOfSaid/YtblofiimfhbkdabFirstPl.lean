/- The first places: what the program's and the reference's functions compute. -/
import Derived.Test.YtblofiimfhbkdabTable
import Derived.Test.YtblofiimfhbkdabWeightsP
import Derived.Test.YtblofiimfhbkdabScores
import Derived.Deep.RegionHeldLaw
namespace Go.Proofs.Ytblofiimfhbkdab
open Go.RowKit
set_option maxRecDepth 100000

theorem plur_nth {m : Int} {q k : Nat} (h : k < q) : nth (plurP m q) k = max 0 (1 - (k : Int)) := by
  rw [nth_get (by rw [plur_len]; exact h)]
  simp [plurP]
theorem sc1_plur (xs : List Int) (c : Int) (m : Int) (a q : Nat) : ∀ k, k + 1 ≤ q → sc1 xs (plurP m q) c (k + 1) a = if nth xs 0 = (a : Int) then c else 0
  | 0, h => by
    rw [sc1_succ, sc1_zero, plur_nth (by omega), show max 0 (1 - ((0 : Nat) : Int)) = 1 by omega, Int.mul_one, Int.zero_add]
  | k + 1, h => by
    rw [sc1_succ, sc1_plur xs c m a q k (by omega), plur_nth (by omega), show max 0 (1 - ((k + 1 : Nat) : Int)) = 0 by omega, Int.mul_zero]
    simp
theorem plur_ok {q : Nat} (h : 1 ≤ q ∧ q ≤ 5) : weightsP q (plurP q q) = true := by
  obtain ⟨h1, h2⟩ := h
  match q, h1, h2 with
  | 1, _, _ => decide
  | 2, _, _ => decide
  | 3, _, _ => decide
  | 4, _, _ => decide
  | 5, _, _ => decide
theorem first_scores (m : Int) (vs : List (List Int × Int)) : scoresP m vs (plurP m (wn m)) = colP m vs false := by
  cases h : profP m vs with
  | false => rw [col_no h, sc_no (scOk_no1 h)]
  | true =>
    obtain ⟨q, rfl⟩ : ∃ q : Nat, m = (q : Int) := ⟨m.toNat, by have := (of_prof h).1; omega⟩
    obtain ⟨hq, _, hf⟩ := pl_facts rfl h
    have hw : wn (q : Int) = q := by have := wn_yes (m := (q : Int)) (by omega); omega
    rw [hw, col_yes rfl h, sc_yes rfl (scOk_yes h (plur_ok hq))]
    have hT : ∀ a k, k ≤ vs.length → scT vs (plurP q q) k a = plT vs k 0 a := by
      intro a k
      induction k with
      | zero => intro _; rfl
      | succ k ih =>
        intro hk
        have hr := (hf k (by omega)).2.1
        rw [scT_succ, plT_succ, ih (by omega), hr]
        obtain ⟨p, rfl⟩ : ∃ p, q = p + 1 := ⟨q - 1, by omega⟩
        rw [sc1_plur _ _ _ _ (p + 1) p (by omega)]
    unfold scL plCol lastPl
    refine List.map_congr_left fun a _ => ?_
    rw [hT a _ (Nat.le_refl _)]
    rfl

set_option maxHeartbeats 1000000 in
theorem specFirstPlaces (m : Int) (A : Option Addr) (n c : Nat) (vs : List (List Int × Int)) (w : World) (h : Votes w A n vs) (hn : (n : Int) ≤ 1048576) (hm : ∀ j, j < n → (rl vs j : Int) ≤ 1048576) :
    Calls Try.prog 13 #[.agg #[.int .i64 m, .slice A n c]] w fun e w' => ∃ A' c', e = .returned (.slice A' (colP m vs false).length c') ∧ Own w' w.heap.size A' (colP m vs false).length c' (colP m vs false) ∧ Below w.heap.size w w' := by
  have bl : Below w.heap.size w (w.alloc (.cells #[.int .i64 m, .slice A n c] 30)) := (Below.refl _ _).alloc (Nat.le_refl _) _
  have hs := bl.size
  have hV := h.on bl
  go_enter Try.func13, Try.ntmps13
  go_wp2_with fail
  refine (specL05Column m A n c vs false _ hV hn hm).mono ?_; rintro e w1 ⟨A1, c1, rfl, o, b⟩
  go_wp2_with fail
  go_ret
  exact ⟨A1, c1, rfl, own_mono o hs, Below.on bl b⟩

set_option maxHeartbeats 2000000 in
theorem implFirstPlaces (m : Int) (A : Option Addr) (n c : Nat) (vs : List (List Int × Int)) (w : World) (h : Votes w A n vs) (hn : (n : Int) ≤ 1048576) (hm : ∀ j, j < n → (rl vs j : Int) ≤ 1048576) :
    Calls Try.prog 15 #[.agg #[.int .i64 m, .slice A n c]] w fun e w' => ∃ A' c', e = .returned (.slice A' (colP m vs false).length c') ∧ Own w' w.heap.size A' (colP m vs false).length c' (colP m vs false) ∧ Below w.heap.size w w' := by
  have bl : Below w.heap.size w (w.alloc (.cells #[.int .i64 m, .slice A n c] 30)) := (Below.refl _ _).alloc (Nat.le_refl _) _
  have k0 : (w.alloc (.cells #[.int .i64 m, .slice A n c] 30)).cell? ⟨w.heap.size, 0, none⟩ = some (.int .i64 m) := by simp
  have k1 : (w.alloc (.cells #[.int .i64 m, .slice A n c] 30)).cell? ⟨w.heap.size, 1, none⟩ = some (.slice A n c) := by simp
  have sW : w.heap.size < (w.alloc (.cells #[.int .i64 m, .slice A n c] 30)).heap.size := by simp
  have hV := h.on bl
  have HM := Lib.hid hm; clear hm
  have hw5 : (wn m : Int) ≤ 1048576 := by have := wn_le m; omega
  have HFS := Lib.hid (first_scores m vs)
  go_enter Try.func15, Try.ntmps15
  go_wp2_with fail
  generalize w.alloc (.cells #[.int .i64 m, .slice A n c] 30) = W at *
  go_region_held_law (fun w' => w'.cell? ⟨w.heap.size, 0, none⟩ = some (.int .i64 m) ∧ w'.cell? ⟨w.heap.size, 1, none⟩ = some (.slice A n c)) (go_keep) (first
    | (go_simp; go_at_call 43; refine (implPluralityWeights m W.drew).mono ?_; rintro e w1 ⟨A1, c1, rfl, o1, b1⟩; have bW := (Below.drew (Below.refl W.heap.size W)).trans b1; have e0 := (bW.cell (p := ⟨w.heap.size, 0, none⟩) sW).trans k0; have e1 := (bW.cell (p := ⟨w.heap.size, 1, none⟩) sW).trans k1; have s1 := Nat.lt_of_lt_of_le sW bW.size)
    | (go_simp; go_at_call 42; refine (implScoresOf m A n c vs A1 (wn m) c1 (plurP m (wn m)) w1 (hV.on bW) hn HM.out (Ints.of_own o1) hw5).mono ?_; rintro e w2 ⟨A2, c2, rfl, _, o2, b2⟩; have e0 := (b2.cell (p := ⟨w.heap.size, 0, none⟩) s1).trans e0; have e1 := (b2.cell (p := ⟨w.heap.size, 1, none⟩) s1).trans e1))
  go_simp
  go_wp2_with fail
  go_ret
  rw [HFS.out] at o2 ⊢
  exact ⟨A2, c2, rfl, own_mono o2 (by omega), Below.on (Below.on bl bW) b2⟩
end Go.Proofs.Ytblofiimfhbkdab
