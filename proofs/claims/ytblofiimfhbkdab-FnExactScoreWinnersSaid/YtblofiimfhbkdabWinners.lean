/- The candidates with the greatest score: what the program's and the reference's functions compute. -/
import Derived.Test.YtblofiimfhbkdabGreat
namespace Go.Proofs.Ytblofiimfhbkdab
open Go.RowKit
set_option maxRecDepth 100000

theorem bestL_len (xs : List Int) : (bestL xs).length ≤ xs.length := atP_len _ _ _
theorem own_lit1 (w : World) {base : Nat} (h : base ≤ w.heap.size) (x : Int) : Own (w.alloc (.cells #[.int .i64 x] 3)) base (some ⟨w.heap.size, 0, none⟩) 1 1 [x] := World.ownsRow_lit (e := 3) (size := 1) w #[.int .i64 x] 1 h (by simp [maxLen]) rfl

set_option maxHeartbeats 2000000 in
theorem specBest (A : Option Addr) (n c : Nat) (xs : List Int) (w : World) (h : Ints w A n xs) (hn : (n : Int) ≤ 1048576) :
    Calls Try.prog 47 #[.slice A n c] w fun e w' => ∃ A' c', e = .returned (.slice A' (bestL xs).length c') ∧ Own w' w.heap.size A' (bestL xs).length c' (bestL xs) ∧ Below w.heap.size w w' := by
  have HL := Lib.hid h.1
  have hB : bestL xs = atP xs (mxP xs (n - 1)) n := by unfold bestL; rw [HL.out]
  rw [hB]
  clear hB
  have he0 := own_empty w (Nat.le_refl w.heap.size)
  have hb0 : Below w.heap.size w (w.alloc (.cells #[] 3)) := (Below.refl _ _).alloc (Nat.le_refl _) _
  go_enter Try.func47, Try.ntmps47
  go_wp2
  go_loopw [3, 9] (fun u v wr => ∃ (k : Nat) (B : Option Addr) (ln d : Nat), (k : Int) ≤ n ∧ ln = (atP xs (mxP xs (k - 1)) k).length ∧ u = .slice B ln d ∧ v = .int .i64 k ∧ Own wr w.heap.size B ln d (atP xs (mxP xs (k - 1)) k) ∧ Below w.heap.size w wr) (fun _ v _ => n - (intOf v).toNat)
  case atStart => exact ⟨0, _, 0, 0, by omega, rfl, rfl, rfl, he0, hb0⟩
  case round =>
    obtain ⟨k, B, ln, d, hk, hln, rfl, rfl, hown, hb⟩ := hrel
    obtain ⟨wo, rfl⟩ : ∃ wo : World, wo = wr := ⟨_, rfl⟩
    have HLN := Lib.hid hln; clear hln
    have hsz := hb.size
    by_cases hlt : (k : Int) < n
    · obtain ⟨b, o, rfl, hbs, hx⟩ := (h.on hb).at_ (k := k) (by omega)
      have HOW := Lib.hid hown; clear hown
      have hbx : Below w.heap.size w (wo.alloc (.cells #[.int .i64 (k : Int)] 3)) := hb.alloc hsz _
      have hlit := own_lit1 wo (base := w.heap.size) hsz (k : Int)
      have HLIT := Lib.hid hlit; clear hlit
      rcases k with _ | k
      · have hl0 : ln = 0 := by rw [HLN.out]; rfl
        have HS : Hid (atP xs (mxP xs (0 + 1 - 1)) (0 + 1) = [((0 : Nat) : Int)]) := by show _ = _; rw [atP_yes (by rfl)]; rfl
        subst hl0
        have h0n : (0 : Int) < n := by omega
        rw [Nat.add_zero] at hx
        rw [show ((0 : Nat) : Int) = 0 from rfl] at hbx HLIT HS ⊢
        clear hlt
        go_wp2_with fail
        go_roundw
        case rel => exact ⟨0 + 1, _, 1, 1, by omega, by rw [HS.out]; rfl, rfl, by go_num, by rw [HS.out]; exact HLIT.out, hbx⟩
        case measure => simp [intOf]; omega
      · obtain ⟨j, hj1, hj2, hj3, hj4⟩ := best_head xs k
        have HLN2 : Hid (ln = (atP xs (mxP xs k) (k + 1)).length) := HLN.out
        have HOW2 : Hid (Own wo w.heap.size B ln d (atP xs (mxP xs k) (k + 1))) := HOW.out
        have hlnp : 0 < ln := by rw [HLN2.out]; exact hj4
        obtain ⟨bg, og, rfl, hbg, hx0⟩ := (Ints.of_own HOW2.out).at_ (k := 0) hlnp
        rw [hj1, Nat.add_zero] at hx0
        obtain ⟨b2, o2, e2, hbs2, hxj⟩ := (h.on hb).at_ (k := j) (by omega)
        injection e2 with e2
        injection e2 with e2 e3 _
        subst e2; subst e3
        rw [hj3] at hxj
        have hjn : (j : Int) < n := by omega
        have hln0 : ¬ (ln : Int) = 0 := by omega
        have hln1 : ((ln : Int) == 0) = false := by simp; omega
        have hle := atP_len xs (mxP xs k) (k + 1)
        rw [← HLN2.out] at hle
        clear hj1 hj3 hj4
        obtain ⟨M, hM⟩ : ∃ M, M = mxP xs k := ⟨_, rfl⟩
        obtain ⟨x, hX⟩ : ∃ x, x = nth xs (k + 1) := ⟨_, rfl⟩
        rw [← hM] at hxj
        rw [← hX] at hx
        obtain ⟨k1, hk1⟩ : ∃ k1, k1 = k + 1 := ⟨_, rfl⟩
        have HK1 := Lib.hid hk1
        have HM := Lib.hid hM
        have HX := Lib.hid hX
        have hkk : ((k + 1 : Nat) : Int) = (k1 : Int) := by omega
        rw [← hk1] at hx hlt hk hle ⊢
        have hzero : (0 : Int) < ln := by omega
        clear hM hX hkk HOW HLN
        by_cases h1 : M < x
        · have HS : Hid (atP xs (mxP xs (k1 + 1 - 1)) (k1 + 1) = [(k1 : Int)]) := by
            show _ = _
            rw [HK1.out]
            exact best_gt (by rw [← HM.out, ← HX.out]; exact h1)
          rw [← hk1] at hbx HLIT
          clear hk1
          go_wp2_with fail
          go_roundw
          case rel => exact ⟨k1 + 1, _, 1, 1, by omega, by rw [HS.out]; rfl, rfl, by go_num, by rw [HS.out]; exact HLIT.out, hbx⟩
          case measure => simp [intOf]; omega
        · by_cases h2 : x = M
          · have HS : Hid (atP xs (mxP xs (k1 + 1 - 1)) (k1 + 1) = atP xs (mxP xs k) (k + 1) ++ [(k1 : Int)]) := by
              show _ = _
              rw [HK1.out]
              exact best_eq (by rw [← HM.out, ← HX.out]; exact h2)
            have hlen2 : (atP xs (mxP xs (k1 + 1 - 1)) (k1 + 1)).length = ln + 1 := by rw [HS.out, List.length_append, ← HLN2.out]; rfl
            have HL2 := Lib.hid hlen2; clear hlen2
            rw [← hk1] at hbx
            clear hk1
            go_wp2_with (first | (at_builtin; refine wpList_ap _ rfl _ _ rfl w.heap.size (some ⟨bg, og, none⟩) ln d (atP xs (mxP xs k) (k + 1)) rfl (own_alloc HOW2.out _) (some ⟨wo.heap.size, 0, none⟩) 1 1 [(k1 : Int)] rfl (ints_one wo _ _) (by omega) (by simp; omega) ?_; intro A' c' w3 hown' hg hblk))
            rw [← HS.out] at hown'
            go_roundw
            case rel => exact ⟨k1 + 1, A', ln + 1, c', by omega, HL2.out.symm, rfl, by go_num, hown', below_ap hbx (own_alloc HOW2.out _) hg (by simp; omega)⟩
            case measure => simp [intOf]; omega
          · have HS : Hid (atP xs (mxP xs (k1 + 1 - 1)) (k1 + 1) = atP xs (mxP xs k) (k + 1)) := by
              show _ = _
              rw [HK1.out]
              exact best_lt (by rw [← HM.out, ← HX.out]; omega)
            clear hk1
            go_wp2_with fail
            go_roundw
            case rel => exact ⟨k1 + 1, _, ln, d, by omega, by rw [HS.out]; exact HLN2.out, rfl, by go_num, by rw [HS.out]; exact HOW2.out, hb⟩
            case measure => simp [intOf]; omega
    · obtain rfl : k = n := by omega
      go_wp2
      go_ret
      obtain rfl := HLN.out
      exact ⟨B, d, rfl, hown, hb⟩

/-- The candidates with the greatest score. -/
def winL (m : Int) (vs : List (List Int × Int)) (ws : List Int) : List Int := bestL (scoresP m vs ws)
theorem winL_len {m : Int} {vs : List (List Int × Int)} {ws : List Int} : (winL m vs ws).length ≤ 5 := Nat.le_trans (bestL_len _) scoresP_len
theorem win_no {m : Int} {vs : List (List Int × Int)} {ws : List Int} (h : scOk m vs ws = false) : winL m vs ws = [] := by unfold winL; rw [sc_no h]; rfl

set_option maxHeartbeats 1000000 in
theorem implScoreWinners (m : Int) (A : Option Addr) (n c : Nat) (vs : List (List Int × Int)) (C : Option Addr) (n1 c1 : Nat) (ws : List Int) (w : World) (h : Votes w A n vs) (hn : (n : Int) ≤ 1048576) (hm : ∀ j, j < n → (rl vs j : Int) ≤ 1048576) (h' : Ints w C n1 ws) (hn1 : (n1 : Int) ≤ 1048576) :
    Calls Try.prog 23 #[.agg #[.int .i64 m, .slice A n c], .slice C n1 c1] w fun e w' => ∃ A' c', e = .returned (.slice A' (winL m vs ws).length c') ∧ Own w' w.heap.size A' (winL m vs ws).length c' (winL m vs ws) ∧ Below w.heap.size w w' := by
  have bl : Below w.heap.size w (w.alloc (.cells #[.int .i64 m, .slice A n c] 30)) := (Below.refl _ _).alloc (Nat.le_refl _) _
  have hV := h.on bl
  have hI := h'.on bl
  have HM := Lib.hid hm; clear hm
  have hl5 : ((scoresP m vs ws).length : Int) ≤ 1048576 := by have := @scoresP_len m vs ws; omega
  go_enter Try.func23, Try.ntmps23
  go_wp2_with fail
  refine (implScoresOf m A n c vs C n1 c1 ws _ hV hn HM.out hI hn1).mono ?_; rintro e w1 ⟨A1, d1, rfl, _, o1, b1⟩
  have bl1 := Below.on bl b1
  have hs := bl1.size
  go_wp2_with fail
  refine (implGreatest A1 _ d1 _ _ (Ints.of_own o1) hl5).mono ?_; rintro e w2 ⟨A2, d2, rfl, o2, b2⟩
  go_wp2_with fail
  go_ret
  exact ⟨A2, d2, rfl, own_mono o2 hs, Below.on bl1 b2⟩

set_option maxHeartbeats 1000000 in
theorem specScoreWinners (m : Int) (A : Option Addr) (n c : Nat) (vs : List (List Int × Int)) (C : Option Addr) (n1 c1 : Nat) (ws : List Int) (w : World) (h : Votes w A n vs) (hn : (n : Int) ≤ 1048576) (hm : ∀ j, j < n → (rl vs j : Int) ≤ 1048576) (h' : Ints w C n1 ws) (hn1 : (n1 : Int) ≤ 1048576) :
    Calls Try.prog 21 #[.agg #[.int .i64 m, .slice A n c], .slice C n1 c1] w fun e w' => ∃ A' c', e = .returned (.slice A' (winL m vs ws).length c') ∧ Own w' w.heap.size A' (winL m vs ws).length c' (winL m vs ws) ∧ Below w.heap.size w w' := by
  have bl : Below w.heap.size w (w.alloc (.cells #[.int .i64 m, .slice A n c] 30)) := (Below.refl _ _).alloc (Nat.le_refl _) _
  have k0 : (w.alloc (.cells #[.int .i64 m, .slice A n c] 30)).cell? ⟨w.heap.size, 0, none⟩ = some (.int .i64 m) := by simp
  have k1 : (w.alloc (.cells #[.int .i64 m, .slice A n c] 30)).cell? ⟨w.heap.size, 1, none⟩ = some (.slice A n c) := by simp
  have sW : w.heap.size < (w.alloc (.cells #[.int .i64 m, .slice A n c] 30)).heap.size := by simp
  have hV := h.on bl
  have hI := h'.on bl
  have HM := Lib.hid hm; clear hm
  have HL := Lib.hid h.1
  cases h1 : scOk m vs ws with
  | false =>
    have HO := Lib.hid h1
    rw [win_no h1]
    go_enter Try.func21, Try.ntmps21
    go_wp2_with fail
    refine (specL05Ok m A n c vs C n1 c1 ws _ hV hn HM.out hI hn1).mono ?_; rintro e w1 ⟨rfl, b1⟩
    rw [HO.out]
    have bl1 := Below.on bl b1
    go_wp2_with fail
    go_ret
    exact ⟨none, 0, rfl, own_nil _ _, bl1⟩
  | true =>
    have HO := Lib.hid h1
    obtain ⟨hp, hw⟩ : profP m vs = true ∧ weightsP m ws = true := by simpa [scOk] using h1
    have hq := (of_prof hp).1
    obtain ⟨q, rfl⟩ : ∃ q : Nat, m = (q : Int) := ⟨m.toNat, by omega⟩
    have HP := Lib.hid hp
    have HW := Lib.hid hw
    have hWL : winL q vs ws = bestL (scL vs ws n q) := by unfold winL; rw [sc_yes HL.out h1]
    rw [hWL]
    clear hp hw h1 hWL
    have hq5 : (q : Int) ≤ 1048576 := by omega
    go_enter Try.func21, Try.ntmps21
    go_wp2_with fail
    refine (specL05Ok q A n c vs C n1 c1 ws _ hV hn HM.out hI hn1).mono ?_; rintro e w1 ⟨rfl, b1⟩
    rw [HO.out]
    have bl1 := Below.on bl b1
    replace k0 := (b1.cell (p := ⟨w.heap.size, 0, none⟩) sW).trans k0
    replace k1 := (b1.cell (p := ⟨w.heap.size, 1, none⟩) sW).trans k1
    have hV1 := hV.on b1
    have hI1 := hI.on b1
    go_wp2_with fail
    refine (specL05Scores q A n c vs C n1 c1 ws _ hV1 hI1 HP.out HW.out).mono ?_; rintro e w2 ⟨g, rfl, o2, b2⟩
    have bl2 := Below.on bl1 b2
    have hs := bl2.size
    go_wp2_with fail
    refine (specBest (some ⟨g, 0, none⟩) q q (scL vs ws n q) _ (Ints.of_own o2) hq5).mono ?_; rintro e w3 ⟨A3, d3, rfl, o3, b3⟩
    go_wp2_with fail
    go_ret
    exact ⟨A3, d3, rfl, own_mono o3 hs, Below.on bl2 b3⟩
end Go.Proofs.Ytblofiimfhbkdab
