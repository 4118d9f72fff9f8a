/- How many swaps part two rankings: what the program's and the reference's functions compute. -/
import Derived.Test.YtgonkppphaoapaaPeakS
namespace Go.Proofs.Ytgonkppphaoapaa
open Go.RowKit

/-- The number of swaps, or -1. -/
def swapP (xs ys : List Int) : Int := if rankOkP xs.length xs && rankOkP xs.length ys then swI (places ys xs) else -1
theorem less_nil (p : Int) : less p [] = 0 := rfl
theorem less_snoc (p q : Int) (r : List Int) : less p (r ++ [q]) = less p r + if q < p then 1 else 0 := by
  unfold less
  by_cases h : q < p <;> simp [h]
theorem more_snoc (p q : Int) (r : List Int) : more p (r ++ [q]) = more p r + if p < q then 1 else 0 := by
  unfold more
  by_cases h : p < q <;> simp [h]
theorem filter_le (r : List Int) (f : Int → Bool) : (r.filter f).length ≤ r.length := List.length_filter_le _ _
theorem take_snoc {xs : List Int} {k : Nat} (h : k < xs.length) : xs.take (k + 1) = xs.take k ++ [nth xs k] := by
  rw [List.take_succ_eq_append_getElem h, nth_get h]
/-- The sum over the first k, from the front. -/
def swF (ps : List Int) (k : Nat) : Int := ((List.range k).map fun i => less (nth ps i) (ps.drop (i + 1))).sum
theorem swF_succ (ps : List Int) (k : Nat) : swF ps (k + 1) = swF ps k + less (nth ps k) (ps.drop (k + 1)) := by
  simp [swF, List.range_succ]
theorem swS_succ (ps : List Int) (k : Nat) : swS ps (k + 1) = swS ps k + more (nth ps k) (ps.take k) := by
  simp [swS, List.range_succ]
theorem swI_drop : ∀ (ps : List Int) (k : Nat), k ≤ ps.length → swF ps k + swI (ps.drop k) = swI ps
  | ps, 0, _ => by simp [swF]
  | ps, k + 1, h => by
    rw [swF_succ, ← swI_drop ps k (by omega), drop_cons (by omega : k < ps.length)]
    simp only [swI]
    omega
theorem swF_all {ps : List Int} {n : Nat} (h : ps.length = n) : swF ps n = swI ps := by
  have := swI_drop ps n (by omega)
  rw [List.drop_eq_nil_of_le (by omega)] at this
  simpa [swI] using this
theorem less_bd (p : Int) (r : List Int) : 0 ≤ less p r ∧ less p r ≤ r.length := by
  have := filter_le r fun q => decide (q < p)
  unfold less; omega
theorem more_bd (p : Int) (r : List Int) : 0 ≤ more p r ∧ more p r ≤ r.length := by
  have := filter_le r fun q => decide (p < q)
  unfold more; omega
theorem swF_bd (ps : List Int) (k : Nat) (h : ps.length ≤ 5) : 0 ≤ swF ps k ∧ swF ps k ≤ 5 * k := by
  induction k with
  | zero => simp [swF]
  | succ k ih =>
    rw [swF_succ]
    have := less_bd (nth ps k) (ps.drop (k + 1))
    rw [List.length_drop] at this
    omega
theorem swS_bd (ps : List Int) (k : Nat) (h : ps.length ≤ 5) : 0 ≤ swS ps k ∧ swS ps k ≤ 5 * k := by
  induction k with
  | zero => simp [swS]
  | succ k ih =>
    rw [swS_succ]
    have := more_bd (nth ps k) (ps.take k)
    rw [List.length_take] at this
    omega
theorem swap_no1 {n : Nat} {xs ys : List Int} (h : xs.length = n) (h1 : rankOkP n xs = false) : swapP xs ys = -1 := by simp [swapP, h, h1]
theorem swap_no2 {n m : Nat} {xs ys : List Int} (h : xs.length = n) (h' : ys.length = m) (h1 : rankOkP m ys = false) : swapP xs ys = -1 := by
  have : rankOkP n ys = false := by
    cases h2 : rankOkP n ys with
    | false => rfl
    | true =>
      have h3 := (of_rank h2).2.1
      have e : n = m := by omega
      rw [e, h1] at h2
      cases h2
  simp [swapP, h, this]
theorem swap_no3 {n m : Nat} {xs ys : List Int} (h : xs.length = n) (h' : ys.length = m) (h1 : ((n : Int) != (m : Int)) = true) : swapP xs ys = -1 := by
  have : rankOkP n ys = false := by
    cases h2 : rankOkP n ys with
    | false => rfl
    | true =>
      have h3 := (of_rank h2).2.1
      simp at h1
      omega
  simp [swapP, h, this]
theorem swap_no4 {n : Nat} {xs ys : List Int} (h : xs.length = n) (h1 : rankOkP n ys = false) : swapP xs ys = -1 := by simp [swapP, h, h1]
theorem swap_yes {n : Nat} {xs ys : List Int} (h : xs.length = n) (h1 : rankOkP n xs = true) (h2 : rankOkP n ys = true) : swapP xs ys = swI (places ys xs) := by simp [swapP, h, h1, h2]
theorem swap_yes2 {n : Nat} {xs ys : List Int} (h : xs.length = n) (h1 : rankOkP n xs = true) (h2 : rankOkP n ys = true) : swapP xs ys = swS (places ys xs) n := by
  rw [swap_yes h h1 h2, swap_same (places_rank h2 h1), places_len, h]
/-- Whether y comes before x, where both have a place. -/
theorem pref_places {m : Nat} {xs ys : List Int} (h1 : rankOkP m xs = true) (h2 : rankOkP m ys = true) {i k : Nat} (hi : i < xs.length) (hk : k < xs.length) :
    prefP ys (nth xs i) (nth xs k) = decide (nth (places ys xs) i < nth (places ys xs) k) := by
  obtain ⟨a1, a2, a3, a4⟩ := of_rank h1
  have e : ∀ j, j < xs.length → 0 ≤ idxP ys (nth xs j) := fun j hj => (idx_bd ys (nth xs j)).2.2.2 (rank_full h2 (by have := a3 j hj; omega))
  simp [prefP, nth_places _ hi, nth_places _ hk, e i hi, e k hk]
theorem drop_take (ps : List Int) (a j : Nat) : (ps.drop a).take (j + 1) = if a + j < ps.length then (ps.drop a).take j ++ [nth ps (a + j)] else (ps.drop a).take j := by
  by_cases h : a + j < ps.length
  · rw [if_pos h, take_snoc (by rw [List.length_drop]; omega), nth_drop]
  · rw [if_neg h, List.take_of_length_le (by rw [List.length_drop]; omega), List.take_of_length_le (by rw [List.length_drop]; omega)]

set_option maxHeartbeats 4000000 in
theorem implSwapDistance (A : Option Addr) (n c : Nat) (xs : List Int) (B : Option Addr) (m d : Nat) (ys : List Int) (w : World) (h : Ints w A n xs) (hn : (n : Int) ≤ 1048576) (h' : Ints w B m ys) (hm : (m : Int) ≤ 1048576) (hcap : (n : Int) ≤ c) (hcap' : (m : Int) ≤ d) :
    Calls Try.prog 51 #[.slice A n c, .slice B m d] w fun e w' => e = .returned (.int .i64 (swapP xs ys)) ∧ w = w' := by
  have hl := h.1
  have hl' := h'.1
  cases h1 : rankOkP n xs with
  | false =>
    have HF := Lib.hid (swap_no1 (ys := ys) hl h1)
    clear hl hl'
    go_enter Try.func51, Try.ntmps51
    go_wp2_with fail
    refine (implIsRanking _ _ _ xs _ h hn hcap).mono ?_; rintro e w1 ⟨rfl, rfl⟩
    go_wp2_with fail
    go_ret
    exact ⟨ret_int HF.out.symm, rfl⟩
  | true =>
    cases h2 : rankOkP m ys with
    | false =>
      have HF := Lib.hid (swap_no2 hl hl' h2)
      clear hl hl'
      go_enter Try.func51, Try.ntmps51
      go_wp2_with fail
      refine (implIsRanking _ _ _ xs _ h hn hcap).mono ?_; rintro e w1 ⟨rfl, rfl⟩
      go_wp2_with fail
      refine (implIsRanking _ _ _ ys _ h' hm hcap').mono ?_; rintro e w1 ⟨rfl, rfl⟩
      go_wp2_with fail
      go_ret
      exact ⟨ret_int HF.out.symm, rfl⟩
    | true =>
      cases h3 : ((n : Int) != (m : Int)) with
      | true =>
        have HF := Lib.hid (swap_no3 hl hl' h3)
        clear hl hl'
        go_enter Try.func51, Try.ntmps51
        go_wp2_with fail
        refine (implIsRanking _ _ _ xs _ h hn hcap).mono ?_; rintro e w1 ⟨rfl, rfl⟩
        go_wp2_with fail
        refine (implIsRanking _ _ _ ys _ h' hm hcap').mono ?_; rintro e w1 ⟨rfl, rfl⟩
        go_wp2_with fail
        go_ret
        exact ⟨ret_int HF.out.symm, rfl⟩
      | false =>
        obtain rfl : n = m := by simp at h3; omega
        have HF := Lib.hid (swap_yes hl h1 h2)
        have HL := Lib.hid hl; clear hl hl'
        have n5 := (of_rank h1).1
        have R1 := Lib.hid h1
        have R2 := Lib.hid h2
        have HPL : Hid ((places ys xs).length = n) := (places_len _ _).trans HL.out
        have HBD : Hid (∀ k : Nat, 0 ≤ swF (places ys xs) k ∧ swF (places ys xs) k ≤ 5 * k) := fun k => swF_bd _ k (by rw [HPL.out]; omega)
        go_enter Try.func51, Try.ntmps51
        go_wp2_with fail
        refine (implIsRanking _ _ _ xs _ h hn hcap).mono ?_; rintro e w1 ⟨rfl, rfl⟩
        go_wp2_with fail
        refine (implIsRanking _ _ _ ys _ h' hm hcap').mono ?_; rintro e w1 ⟨rfl, rfl⟩
        go_wp2_with fail
        go_loop [5, 27] (fun u v => ∃ k : Nat, (k : Int) ≤ n ∧ u = .int .i64 (swF (places ys xs) k) ∧ v = .int .i64 k) (fun _ v => n - (intOf v).toNat)
        case atStart => exact ⟨0, by omega, rfl, rfl⟩
        case round =>
          obtain ⟨k, hk, rfl, rfl⟩ := hrel
          by_cases hlt : (k : Int) < n
          · have hcut := h.cut (k := k + 1) (cap := c) (by omega) (by omega)
            obtain ⟨b, o, rfl, hb, hc⟩ := h.at_ (k := k) (by omega)
            have bd := HBD.out k
            have HST := Lib.hid (swF_succ (places ys xs) k)
            obtain ⟨S, hS⟩ : ∃ S, S = swF (places ys xs) k := ⟨_, rfl⟩
            rw [← hS] at bd ⊢
            have HS := Lib.hid hS; clear hS
            have k1 : (k : Int) + 1 ≤ n := by omega
            have k2 : (k : Int) + 1 ≤ c := by omega
            by_cases hc1 : c = k + 1
            · have hcut : Ints w (some ⟨b, o, none⟩) (n - (k + 1)) (xs.drop (k + 1)) := by rw [if_pos hc1] at hcut; exact hcut
              go_wp2_with fail
              go_loop [5, 37] (fun u v => ∃ j : Nat, (j : Int) ≤ ((n - (k + 1) : Nat) : Int) ∧ u = .int .i64 (S + less (nth (places ys xs) k) (((places ys xs).drop (k + 1)).take j)) ∧ v = .int .i64 j) (fun _ v => n - (intOf v).toNat)
              case atStart => exact ⟨0, by omega, by simp [less_nil], rfl⟩
              case round =>
                obtain ⟨j, hj, rfl, rfl⟩ := hrel
                by_cases hlt2 : (j : Int) < ((n - (k + 1) : Nat) : Int)
                · obtain ⟨b2, o2, he, hb2, hc2⟩ := hcut.at_ (k := j) (by omega)
                  cases he
                  rw [nth_drop] at hc2
                  have HP := Lib.hid (pref_places R1.out R2.out (i := k + 1 + j) (k := k) (by rw [HL.out]; omega) (by rw [HL.out]; omega))
                  have HT := Lib.hid (drop_take (places ys xs) (k + 1) j)
                  have lb := less_bd (nth (places ys xs) k) (((places ys xs).drop (k + 1)).take j)
                  have ll : ((((places ys xs).drop (k + 1)).take j).length : Int) ≤ j := by rw [List.length_take]; omega
                  have hq : k + 1 + j < (places ys xs).length := by rw [HPL.out]; omega
                  have HQ := Lib.hid hq; clear hq
                  obtain ⟨L, hL⟩ : ∃ L, L = less (nth (places ys xs) k) (((places ys xs).drop (k + 1)).take j) := ⟨_, rfl⟩
                  rw [← hL] at lb ⊢
                  have HLe := Lib.hid hL; clear hL
                  by_cases hpq : nth (places ys xs) (k + 1 + j) < nth (places ys xs) k
                  · have hpf : prefP ys (nth xs (k + 1 + j)) (nth xs k) = true := by rw [HP.out]; simpa using hpq
                    have HN : Hid (less (nth (places ys xs) k) (((places ys xs).drop (k + 1)).take (j + 1)) = L + 1) := by rw [HT.out, if_pos HQ.out, less_snoc, if_pos hpq, ← HLe.out]; exact rfl
                    clear hpq
                    go_wp2_with fail
                    refine (implPrefers _ _ _ ys _ _ _ h' hn).mono ?_; rintro e w1 ⟨rfl, rfl⟩
                    go_wp2_with fail
                    go_round
                    case rel => exact ⟨j + 1, by omega, by rw [HN.out, Int.add_assoc], by go_num⟩
                    case measure => simp [intOf]; omega
                  · have hpf : prefP ys (nth xs (k + 1 + j)) (nth xs k) = false := by rw [HP.out]; simpa using hpq
                    have HN : Hid (less (nth (places ys xs) k) (((places ys xs).drop (k + 1)).take (j + 1)) = L) := by rw [HT.out, if_pos HQ.out, less_snoc, if_neg hpq, ← HLe.out, Int.add_zero]; exact rfl
                    clear hpq
                    go_wp2_with fail
                    refine (implPrefers _ _ _ ys _ _ _ h' hn).mono ?_; rintro e w1 ⟨rfl, rfl⟩
                    go_wp2_with fail
                    go_round
                    case rel => exact ⟨j + 1, by omega, by rw [HN.out], by go_num⟩
                    case measure => simp [intOf]; omega
                · have HA : Hid (((places ys xs).drop (k + 1)).take j = (places ys xs).drop (k + 1)) := List.take_of_length_le (by rw [List.length_drop, HPL.out]; omega)
                  go_wp2
                  go_round
                  case rel => first | exact ⟨k + 1, by omega, by rw [HA.out, HST.out, HS.out], by go_num⟩ | ((repeat apply Exists.intro); exact ⟨⟨k + 1, by omega, by rw [HA.out, HST.out, HS.out], by go_num⟩, rfl, rfl, rfl, rfl, rfl⟩)
                  case measure => simp [intOf]; omega
            · have hcut : Ints w (some ⟨b, o + (k + 1), none⟩) (n - (k + 1)) (xs.drop (k + 1)) := by rw [if_neg hc1] at hcut; simpa [Addr.add_lit] using hcut
              go_wp2_with fail
              go_loop [5, 37] (fun u v => ∃ j : Nat, (j : Int) ≤ ((n - (k + 1) : Nat) : Int) ∧ u = .int .i64 (S + less (nth (places ys xs) k) (((places ys xs).drop (k + 1)).take j)) ∧ v = .int .i64 j) (fun _ v => n - (intOf v).toNat)
              case atStart => exact ⟨0, by omega, by simp [less_nil], rfl⟩
              case round =>
                obtain ⟨j, hj, rfl, rfl⟩ := hrel
                by_cases hlt2 : (j : Int) < ((n - (k + 1) : Nat) : Int)
                · obtain ⟨b2, o2, he, hb2, hc2⟩ := hcut.at_ (k := j) (by omega)
                  cases he
                  rw [nth_drop] at hc2
                  have HP := Lib.hid (pref_places R1.out R2.out (i := k + 1 + j) (k := k) (by rw [HL.out]; omega) (by rw [HL.out]; omega))
                  have HT := Lib.hid (drop_take (places ys xs) (k + 1) j)
                  have lb := less_bd (nth (places ys xs) k) (((places ys xs).drop (k + 1)).take j)
                  have ll : ((((places ys xs).drop (k + 1)).take j).length : Int) ≤ j := by rw [List.length_take]; omega
                  have hq : k + 1 + j < (places ys xs).length := by rw [HPL.out]; omega
                  have HQ := Lib.hid hq; clear hq
                  obtain ⟨L, hL⟩ : ∃ L, L = less (nth (places ys xs) k) (((places ys xs).drop (k + 1)).take j) := ⟨_, rfl⟩
                  rw [← hL] at lb ⊢
                  have HLe := Lib.hid hL; clear hL
                  by_cases hpq : nth (places ys xs) (k + 1 + j) < nth (places ys xs) k
                  · have hpf : prefP ys (nth xs (k + 1 + j)) (nth xs k) = true := by rw [HP.out]; simpa using hpq
                    have HN : Hid (less (nth (places ys xs) k) (((places ys xs).drop (k + 1)).take (j + 1)) = L + 1) := by rw [HT.out, if_pos HQ.out, less_snoc, if_pos hpq, ← HLe.out]; exact rfl
                    clear hpq
                    go_wp2_with fail
                    refine (implPrefers _ _ _ ys _ _ _ h' hn).mono ?_; rintro e w1 ⟨rfl, rfl⟩
                    go_wp2_with fail
                    go_round
                    case rel => exact ⟨j + 1, by omega, by rw [HN.out, Int.add_assoc], by go_num⟩
                    case measure => simp [intOf]; omega
                  · have hpf : prefP ys (nth xs (k + 1 + j)) (nth xs k) = false := by rw [HP.out]; simpa using hpq
                    have HN : Hid (less (nth (places ys xs) k) (((places ys xs).drop (k + 1)).take (j + 1)) = L) := by rw [HT.out, if_pos HQ.out, less_snoc, if_neg hpq, ← HLe.out, Int.add_zero]; exact rfl
                    clear hpq
                    go_wp2_with fail
                    refine (implPrefers _ _ _ ys _ _ _ h' hn).mono ?_; rintro e w1 ⟨rfl, rfl⟩
                    go_wp2_with fail
                    go_round
                    case rel => exact ⟨j + 1, by omega, by rw [HN.out], by go_num⟩
                    case measure => simp [intOf]; omega
                · have HA : Hid (((places ys xs).drop (k + 1)).take j = (places ys xs).drop (k + 1)) := List.take_of_length_le (by rw [List.length_drop, HPL.out]; omega)
                  go_wp2
                  go_round
                  case rel => first | exact ⟨k + 1, by omega, by rw [HA.out, HST.out, HS.out], by go_num⟩ | ((repeat apply Exists.intro); exact ⟨⟨k + 1, by omega, by rw [HA.out, HST.out, HS.out], by go_num⟩, rfl, rfl, rfl, rfl, rfl⟩)
                  case measure => simp [intOf]; omega
          · obtain rfl : k = n := by omega
            have HR := Lib.hid (swF_all HPL.out)
            go_wp2
            go_ret
            exact ⟨ret_int (by rw [HF.out, HR.out]), rfl⟩


set_option maxHeartbeats 4000000 in
theorem specSwaps (A : Option Addr) (n c : Nat) (xs : List Int) (B : Option Addr) (d : Nat) (ys : List Int) (w : World) (h : Ints w A n xs) (h' : Ints w B n ys) (hcap : (n : Int) ≤ c) (h1 : rankOkP n xs = true) (h2 : rankOkP n ys = true) :
    Calls Try.prog 84 #[.slice A n c, .slice B n d] w fun e w' => e = .returned (.int .i64 (swS (places ys xs) n)) ∧ w = w' := by
  have HL := Lib.hid h.1
  have n5 := (of_rank h1).1
  have hn : (n : Int) ≤ 1048576 := by omega
  have R1 := Lib.hid h1
  have R2 := Lib.hid h2
  clear h1 h2
  have HPL : Hid ((places ys xs).length = n) := (places_len _ _).trans HL.out
  have HBD : Hid (∀ k : Nat, 0 ≤ swS (places ys xs) k ∧ swS (places ys xs) k ≤ 5 * k) := fun k => swS_bd _ k (by rw [HPL.out]; omega)
  go_enter Try.func84, Try.ntmps84
  go_wp2_with fail
  go_loop [5, 12] (fun u v => ∃ k : Nat, (k : Int) ≤ n ∧ u = .int .i64 (swS (places ys xs) k) ∧ v = .int .i64 k) (fun _ v => n - (intOf v).toNat)
  case atStart => exact ⟨0, by omega, rfl, rfl⟩
  case round =>
    obtain ⟨k, hk, rfl, rfl⟩ := hrel
    by_cases hlt : (k : Int) < n
    · have ht := h.take (k := k) (by omega)
      obtain ⟨b, o, rfl, hb, hc⟩ := h.at_ (k := k) (by omega)
      have bd := HBD.out k
      have HST := Lib.hid (swS_succ (places ys xs) k)
      obtain ⟨S, hS⟩ : ∃ S, S = swS (places ys xs) k := ⟨_, rfl⟩
      rw [← hS] at bd ⊢
      have HS := Lib.hid hS; clear hS
      have k1 : (k : Int) ≤ n := by omega
      have k2 : (k : Int) ≤ c := by omega
      go_wp2_with fail
      go_loop [5, 21] (fun u v => ∃ j : Nat, (j : Int) ≤ k ∧ u = .int .i64 (S + more (nth (places ys xs) k) ((places ys xs).take j)) ∧ v = .int .i64 j) (fun _ v => n - (intOf v).toNat)
      case atStart => exact ⟨0, by omega, by simp [more], rfl⟩
      case round =>
        obtain ⟨j, hj, rfl, rfl⟩ := hrel
        by_cases hlt2 : (j : Int) < k
        · obtain ⟨b2, o2, he, hb2, hc2⟩ := h.at_ (k := j) (by omega)
          cases he
          have HP := Lib.hid (pref_places R1.out R2.out (i := k) (k := j) (by rw [HL.out]; omega) (by rw [HL.out]; omega))
          have HT := Lib.hid (take_snoc (xs := places ys xs) (k := j) (by rw [HPL.out]; omega))
          have lb := more_bd (nth (places ys xs) k) ((places ys xs).take j)
          have ll : (((places ys xs).take j).length : Int) ≤ j := by rw [List.length_take]; omega
          obtain ⟨L, hL⟩ : ∃ L, L = more (nth (places ys xs) k) ((places ys xs).take j) := ⟨_, rfl⟩
          rw [← hL] at lb ⊢
          have HLe := Lib.hid hL; clear hL
          by_cases hpq : nth (places ys xs) k < nth (places ys xs) j
          · have hpf : prefP ys (nth xs k) (nth xs j) = true := by rw [HP.out]; simpa using hpq
            have HN : Hid (more (nth (places ys xs) k) ((places ys xs).take (j + 1)) = L + 1) := by rw [HT.out, more_snoc, if_pos hpq, ← HLe.out]; exact rfl
            clear hpq
            go_wp2_with fail
            refine (specPrefers _ _ _ ys _ _ _ h' hn).mono ?_; rintro e w1 ⟨rfl, rfl⟩
            go_wp2_with fail
            go_round
            case rel => exact ⟨j + 1, by omega, by rw [HN.out, Int.add_assoc], by go_num⟩
            case measure => simp [intOf]; omega
          · have hpf : prefP ys (nth xs k) (nth xs j) = false := by rw [HP.out]; simpa using hpq
            have HN : Hid (more (nth (places ys xs) k) ((places ys xs).take (j + 1)) = L) := by rw [HT.out, more_snoc, if_neg hpq, ← HLe.out, Int.add_zero]; exact rfl
            clear hpq
            go_wp2_with fail
            refine (specPrefers _ _ _ ys _ _ _ h' hn).mono ?_; rintro e w1 ⟨rfl, rfl⟩
            go_wp2_with fail
            go_round
            case rel => exact ⟨j + 1, by omega, by rw [HN.out], by go_num⟩
            case measure => simp [intOf]; omega
        · obtain rfl : j = k := by omega
          go_wp2
          go_round
          case rel => first | exact ⟨j + 1, by omega, by rw [HST.out, HS.out], by go_num⟩ | ((repeat apply Exists.intro); exact ⟨⟨j + 1, by omega, by rw [HST.out, HS.out], by go_num⟩, rfl, rfl, rfl, rfl, rfl⟩)
          case measure => simp [intOf]; omega
    · obtain rfl : k = n := by omega
      go_wp2
      go_ret
      exact ⟨rfl, rfl⟩


set_option maxHeartbeats 2000000 in
theorem specSwapDistance (A : Option Addr) (n c : Nat) (xs : List Int) (B : Option Addr) (m d : Nat) (ys : List Int) (w : World) (h : Ints w A n xs) (hn : (n : Int) ≤ 1048576) (h' : Ints w B m ys) (hm : (m : Int) ≤ 1048576) (hcap : (n : Int) ≤ c) :
    Calls Try.prog 50 #[.slice A n c, .slice B m d] w fun e w' => e = .returned (.int .i64 (swapP xs ys)) ∧ Below w.heap.size w w' := by
  have hl := h.1
  have hl' := h'.1
  cases h1 : rankOkP n xs with
  | false =>
    have HF := Lib.hid (swap_no1 (ys := ys) hl h1)
    clear hl hl'
    go_enter Try.func50, Try.ntmps50
    go_wp2_with fail
    refine (specRankingOk _ _ _ _ xs _ h hn).mono ?_; rintro e w1 ⟨rfl, b1⟩
    go_wp2_with fail
    go_ret
    exact ⟨ret_int HF.out.symm, b1⟩
  | true =>
    cases h2 : rankOkP n ys with
    | false =>
      have HF := Lib.hid (swap_no4 (ys := ys) hl h2)
      clear hl hl'
      go_enter Try.func50, Try.ntmps50
      go_wp2_with fail
      refine (specRankingOk _ _ _ _ xs _ h hn).mono ?_; rintro e w1 ⟨rfl, b1⟩
      have h' := h'.on b1
      go_wp2_with fail
      refine (specRankingOk _ _ _ _ ys _ h' hm).mono ?_; rintro e w2 ⟨rfl, b2⟩
      go_wp2_with fail
      go_ret
      exact ⟨ret_int HF.out.symm, Below.on b1 b2⟩
    | true =>
      obtain rfl : n = m := by have := (of_rank h2).2.1; omega
      have HF := Lib.hid (swap_yes2 hl h1 h2)
      clear hl hl'
      go_enter Try.func50, Try.ntmps50
      go_wp2_with fail
      refine (specRankingOk _ _ _ _ xs _ h hn).mono ?_; rintro e w1 ⟨rfl, b1⟩
      have h := h.on b1
      have h' := h'.on b1
      go_wp2_with fail
      refine (specRankingOk _ _ _ _ ys _ h' hm).mono ?_; rintro e w2 ⟨rfl, b2⟩
      have h := h.on b2
      have h' := h'.on b2
      go_wp2_with fail
      refine (specSwaps _ _ _ xs _ _ ys _ h h' hcap h1 h2).mono ?_; rintro e w3 ⟨rfl, rfl⟩
      go_wp2_with fail
      go_ret
      exact ⟨ret_int HF.out.symm, Below.on b1 b2⟩

end Go.Proofs.Ytgonkppphaoapaa
