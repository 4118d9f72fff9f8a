/- Whether a ranking is peaked on an axis: what the program computes. -/
import Derived.Test.YtgonkppphaoapaaIsRank
namespace Go.Proofs.Ytgonkppphaoapaa
open Go.RowKit
theorem peaked_no1 {n m : Nat} {xs axis : List Int} (hx : xs.length = n) (ha : axis.length = m) (h : rankOkP n xs = false) : peakedP xs axis = false := by
  cases h2 : peakedP xs axis with
  | false => rfl
  | true =>
    simp only [peakedP, Bool.and_eq_true] at h2
    have h3 := h2.1.2
    have := (of_rank h3).2.1
    rw [ha] at h3 this
    have e : m = n := by omega
    rw [e, h] at h3
    cases h3
theorem peaked_no2 {m : Nat} {xs axis : List Int} (ha : axis.length = m) (h : rankOkP m axis = false) : peakedP xs axis = false := by
  simp [peakedP, ha, h]
theorem peaked_no3 {n m : Nat} {xs axis : List Int} (hx : xs.length = n) (ha : axis.length = m) (h : ((n : Int) != (m : Int)) = true) : peakedP xs axis = false := by
  cases h2 : peakedP xs axis with
  | false => rfl
  | true =>
    simp only [peakedP, Bool.and_eq_true] at h2
    have := (of_rank h2.1.2).2.1
    rw [hx, ha] at this
    simp at h
    omega
theorem peaked_yes {n : Nat} {xs axis : List Int} (ha : axis.length = n) (h1 : rankOkP n xs = true) (h2 : rankOkP n axis = true) : peakedP xs axis = peakI (places axis xs) := by
  rw [peak_same (places_rank h2 h1)]
  simp [peakedP, ha, h1, h2]
theorem pk_step {axis xs : List Int} {k : Nat} {low high : Int} (hk : k < xs.length) :
    pkI ((places axis xs).drop k) low high k = if max high (idxP axis (nth xs k)) - min low (idxP axis (nth xs k)) > k then false else pkI ((places axis xs).drop (k + 1)) (min low (idxP axis (nth xs k))) (max high (idxP axis (nth xs k))) ((k : Int) + 1) := by
  rw [drop_cons (by rw [places_len]; exact hk), nth_places _ hk]
  rfl

set_option maxHeartbeats 4000000 in
theorem implIsPeaked (A : Option Addr) (n c : Nat) (xs : List Int) (B : Option Addr) (m d : Nat) (ax : List Int) (w : World) (h : Ints w A n xs) (hn : (n : Int) ≤ 1048576) (h' : Ints w B m ax) (hm : (m : Int) ≤ 1048576) (hcap : (n : Int) ≤ c) (hcap' : (m : Int) ≤ d) :
    Calls Try.prog 49 #[.slice A n c, .slice B m d] w fun e w' => e = .returned (.bool (peakedP xs ax)) ∧ w = w' := by
  have hl := h.1
  have hl' := h'.1
  cases h1 : rankOkP n xs with
  | false =>
    have HF := Lib.hid (peaked_no1 hl hl' h1)
    clear hl hl'
    go_enter Try.func49, Try.ntmps49
    go_wp2_with fail
    refine (implIsRanking _ _ _ xs _ h hn hcap).mono ?_; rintro e w1 ⟨rfl, rfl⟩
    go_wp2_with fail
    go_ret
    exact ⟨ret_bool HF.out.symm, rfl⟩
  | true =>
    cases h2 : rankOkP m ax with
    | false =>
      have HF := Lib.hid (peaked_no2 (xs := xs) hl' h2)
      clear hl hl'
      go_enter Try.func49, Try.ntmps49
      go_wp2_with fail
      refine (implIsRanking _ _ _ xs _ h hn hcap).mono ?_; rintro e w1 ⟨rfl, rfl⟩
      go_wp2_with fail
      refine (implIsRanking _ _ _ ax _ h' hm hcap').mono ?_; rintro e w1 ⟨rfl, rfl⟩
      go_wp2_with fail
      go_ret
      exact ⟨ret_bool HF.out.symm, rfl⟩
    | true =>
      cases h3 : ((n : Int) != (m : Int)) with
      | true =>
        have HF := Lib.hid (peaked_no3 hl hl' h3)
        clear hl hl'
        go_enter Try.func49, Try.ntmps49
        go_wp2_with fail
        refine (implIsRanking _ _ _ xs _ h hn hcap).mono ?_; rintro e w1 ⟨rfl, rfl⟩
        go_wp2_with fail
        refine (implIsRanking _ _ _ ax _ h' hm hcap').mono ?_; rintro e w1 ⟨rfl, rfl⟩
        go_wp2_with fail
        go_ret
        exact ⟨ret_bool HF.out.symm, rfl⟩
      | false =>
        obtain rfl : n = m := by simp at h3; omega
        have HF := Lib.hid (peaked_yes hl' h1 h2)
        have HS : Hid (pkI ((places ax xs).drop 0) n (-1) 0 = peakI (places ax xs)) := by simp [Hid, peakI, places_len, hl]
        have HL := Lib.hid hl; clear hl
        have HL' := Lib.hid hl'; clear hl'
        have n5 := (of_rank h1).1
        go_enter Try.func49, Try.ntmps49
        go_wp2_with fail
        refine (implIsRanking _ _ _ xs _ h hn hcap).mono ?_; rintro e w1 ⟨rfl, rfl⟩
        go_wp2_with fail
        refine (implIsRanking _ _ _ ax _ h' hm hcap').mono ?_; rintro e w1 ⟨rfl, rfl⟩
        go_wp2_with fail
        go_loop [5, 6, 29] (fun lo hi u => ∃ (k : Nat) (low high : Int), (k : Int) ≤ n ∧ lo = .int .i64 low ∧ hi = .int .i64 high ∧ u = .int .i64 k ∧ (-1 ≤ low ∧ low ≤ 5) ∧ (-1 ≤ high ∧ high ≤ 5) ∧ pkI ((places ax xs).drop k) low high k = peakI (places ax xs)) (fun _ _ u => n - (intOf u).toNat)
        case atStart => exact ⟨0, n, -1, by omega, rfl, rfl, rfl, by omega, by omega, HS⟩
        case round =>
          obtain ⟨k, low, high, hk, rfl, rfl, rfl, ⟨l1, l2⟩, ⟨u1, u2⟩, hpk⟩ := hrel
          have HP := Lib.hid hpk; clear hpk
          by_cases hlt : (k : Int) < n
          · obtain ⟨b, o, rfl, hb, hc⟩ := h.at_ (k := k) (by omega)
            have hst := pk_step (axis := ax) (low := low) (high := high) (show k < xs.length by rw [HL.out]; omega)
            rw [HP.out] at hst
            have hbd := idx_bd ax (nth xs k)
            have b1 := hbd.1
            have b2 : idxP ax (nth xs k) < n := by rw [← HL'.out]; exact hbd.2.1
            clear hbd
            obtain ⟨p, hp⟩ : ∃ p, p = idxP ax (nth xs k) := ⟨_, rfl⟩
            have HQ := Lib.hid hp
            rw [← hp] at hst b1 b2
            clear hp
            have HST := Lib.hid hst; clear hst
            go_wp2_with fail
            refine (implPlaceOf _ _ _ ax _ _ h' hn).mono ?_; rintro e w1 ⟨rfl, rfl⟩
            rw [← HQ.out]
            by_cases a1 : p < low
            · by_cases a2 : high < p
              · have HR := Lib.hid (HST.out.trans (if_neg (by omega)))
                go_wp2
                go_round
                case rel => exact ⟨k + 1, _, _, by omega, rfl, rfl, by go_num, by omega, by omega, by rw [HR.out]; congr 1 <;> omega⟩
                case measure => simp [intOf]; omega
              · by_cases a3 : (k : Int) < high - p
                · have HR := Lib.hid (HST.out.trans (if_pos (by omega)))
                  go_wp2
                  go_ret
                  exact ⟨ret_bool (by rw [HF.out, HR.out]), rfl⟩
                · have HR := Lib.hid (HST.out.trans (if_neg (by omega)))
                  go_wp2
                  go_round
                  case rel => exact ⟨k + 1, _, _, by omega, rfl, rfl, by go_num, by omega, by omega, by rw [HR.out]; congr 1 <;> omega⟩
                  case measure => simp [intOf]; omega
            · by_cases a2 : high < p
              · by_cases a3 : (k : Int) < p - low
                · have HR := Lib.hid (HST.out.trans (if_pos (by omega)))
                  go_wp2
                  go_ret
                  exact ⟨ret_bool (by rw [HF.out, HR.out]), rfl⟩
                · have HR := Lib.hid (HST.out.trans (if_neg (by omega)))
                  go_wp2
                  go_round
                  case rel => exact ⟨k + 1, _, _, by omega, rfl, rfl, by go_num, by omega, by omega, by rw [HR.out]; congr 1 <;> omega⟩
                  case measure => simp [intOf]; omega
              · by_cases a3 : (k : Int) < high - low
                · have HR := Lib.hid (HST.out.trans (if_pos (by omega)))
                  go_wp2
                  go_ret
                  exact ⟨ret_bool (by rw [HF.out, HR.out]), rfl⟩
                · have HR := Lib.hid (HST.out.trans (if_neg (by omega)))
                  go_wp2
                  go_round
                  case rel => exact ⟨k + 1, _, _, by omega, rfl, rfl, by go_num, by omega, by omega, by rw [HR.out]; congr 1 <;> omega⟩
                  case measure => simp [intOf]; omega
          · obtain rfl : k = n := by omega
            have HR : Hid (peakI (places ax xs) = true) := by rw [← HP.out, List.drop_eq_nil_of_le (by rw [places_len, HL.out]; exact Nat.le_refl _)]; rfl
            go_wp2
            go_ret
            exact ⟨ret_bool (by rw [HF.out, HR.out]), rfl⟩
end Go.Proofs.Ytgonkppphaoapaa
