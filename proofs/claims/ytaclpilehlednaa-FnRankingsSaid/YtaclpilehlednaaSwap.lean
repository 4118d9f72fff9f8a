/- How many swaps part two rankings: what the program computes. -/
import Derived.Test.YtaclpilehlednaaPlainSwap
import Derived.Test.YtaclpilehlednaaIsRank
namespace Go.Proofs.Ytaclpilehlednaa
open Go.RowKit
set_option maxHeartbeats 4000000 in
theorem implSwapDistance (A : Option Addr) (n c : Nat) (xs : List Int) (B : Option Addr) (m d : Nat) (ys : List Int) (w : World) (h : Ints w A n xs) (hn : (n : Int) ≤ 1048576) (h' : Ints w B m ys) (hm : (m : Int) ≤ 1048576) (hcap : (n : Int) ≤ c) (hcap' : (m : Int) ≤ d) :
    Calls Try.prog 20 #[.slice A n c, .slice B m d] w fun e w' => e = .returned (.int .i64 (swapP xs ys)) ∧ w = w' := by
  have hl := h.1
  have hl' := h'.1
  cases h1 : rankOkP n xs with
  | false =>
    have HF := Lib.hid (swap_no1 (ys := ys) hl h1)
    clear hl hl'
    go_enter Try.func20, Try.ntmps20
    go_wp2_with fail
    refine (implIsRanking _ _ _ xs _ h hn hcap).mono ?_; rintro e w1 ⟨rfl, rfl⟩
    go_wp2_with fail
    go_ret
    exact ⟨ret_int HF.out.symm, rfl⟩
  | true =>
    cases h2 : rankOkP m ys with
    | false =>
      have HF := Lib.hid (swap_no2 hl hl' h2)
      clear hl hl'
      go_enter Try.func20, Try.ntmps20
      go_wp2_with fail
      refine (implIsRanking _ _ _ xs _ h hn hcap).mono ?_; rintro e w1 ⟨rfl, rfl⟩
      go_wp2_with fail
      refine (implIsRanking _ _ _ ys _ h' hm hcap').mono ?_; rintro e w1 ⟨rfl, rfl⟩
      go_wp2_with fail
      go_ret
      exact ⟨ret_int HF.out.symm, rfl⟩
    | true =>
      cases h3 : ((n : Int) != (m : Int)) with
      | true =>
        have HF := Lib.hid (swap_no3 hl hl' h3)
        clear hl hl'
        go_enter Try.func20, Try.ntmps20
        go_wp2_with fail
        refine (implIsRanking _ _ _ xs _ h hn hcap).mono ?_; rintro e w1 ⟨rfl, rfl⟩
        go_wp2_with fail
        refine (implIsRanking _ _ _ ys _ h' hm hcap').mono ?_; rintro e w1 ⟨rfl, rfl⟩
        go_wp2_with fail
        go_ret
        exact ⟨ret_int HF.out.symm, rfl⟩
      | false =>
        obtain rfl : n = m := by simp at h3; omega
        have HF := Lib.hid (swap_yes hl h1 h2)
        have HL := Lib.hid hl; clear hl hl'
        have n5 := (of_rank h1).1
        have R1 := Lib.hid h1
        have R2 := Lib.hid h2
        have HPL : Hid ((places ys xs).length = n) := (places_len _ _).trans HL.out
        have HBD : Hid (∀ k : Nat, 0 ≤ swF (places ys xs) k ∧ swF (places ys xs) k ≤ 5 * k) := fun k => swF_bd _ k (by rw [HPL.out]; omega)
        go_enter Try.func20, Try.ntmps20
        go_wp2_with fail
        refine (implIsRanking _ _ _ xs _ h hn hcap).mono ?_; rintro e w1 ⟨rfl, rfl⟩
        go_wp2_with fail
        refine (implIsRanking _ _ _ ys _ h' hm hcap').mono ?_; rintro e w1 ⟨rfl, rfl⟩
        go_wp2_with fail
        go_loop [5, 27] (fun u v => ∃ k : Nat, (k : Int) ≤ n ∧ u = .int .i64 (swF (places ys xs) k) ∧ v = .int .i64 k) (fun _ v => n - (intOf v).toNat)
        case atStart => exact ⟨0, by omega, rfl, rfl⟩
        case round =>
          obtain ⟨k, hk, rfl, rfl⟩ := hrel
          by_cases hlt : (k : Int) < n
          · have hcut := h.cut (k := k + 1) (cap := c) (by omega) (by omega)
            obtain ⟨b, o, rfl, hb, hc⟩ := h.at_ (k := k) (by omega)
            have bd := HBD.out k
            have HST := Lib.hid (swF_succ (places ys xs) k)
            obtain ⟨S, hS⟩ : ∃ S, S = swF (places ys xs) k := ⟨_, rfl⟩
            rw [← hS] at bd ⊢
            have HS := Lib.hid hS; clear hS
            have k1 : (k : Int) + 1 ≤ n := by omega
            have k2 : (k : Int) + 1 ≤ c := by omega
            by_cases hc1 : c = k + 1
            · have hcut : Ints w (some ⟨b, o, none⟩) (n - (k + 1)) (xs.drop (k + 1)) := by rw [if_pos hc1] at hcut; exact hcut
              go_wp2_with fail
              go_loop [5, 37] (fun u v => ∃ j : Nat, (j : Int) ≤ ((n - (k + 1) : Nat) : Int) ∧ u = .int .i64 (S + less (nth (places ys xs) k) (((places ys xs).drop (k + 1)).take j)) ∧ v = .int .i64 j) (fun _ v => n - (intOf v).toNat)
              case atStart => exact ⟨0, by omega, by simp [less_nil], rfl⟩
              case round =>
                obtain ⟨j, hj, rfl, rfl⟩ := hrel
                by_cases hlt2 : (j : Int) < ((n - (k + 1) : Nat) : Int)
                · obtain ⟨b2, o2, he, hb2, hc2⟩ := hcut.at_ (k := j) (by omega)
                  cases he
                  rw [nth_drop] at hc2
                  have HP := Lib.hid (pref_places R1.out R2.out (i := k + 1 + j) (k := k) (by rw [HL.out]; omega) (by rw [HL.out]; omega))
                  have HT := Lib.hid (drop_take (places ys xs) (k + 1) j)
                  have lb := less_bd (nth (places ys xs) k) (((places ys xs).drop (k + 1)).take j)
                  have ll : ((((places ys xs).drop (k + 1)).take j).length : Int) ≤ j := by rw [List.length_take]; omega
                  have hq : k + 1 + j < (places ys xs).length := by rw [HPL.out]; omega
                  have HQ := Lib.hid hq; clear hq
                  obtain ⟨L, hL⟩ : ∃ L, L = less (nth (places ys xs) k) (((places ys xs).drop (k + 1)).take j) := ⟨_, rfl⟩
                  rw [← hL] at lb ⊢
                  have HLe := Lib.hid hL; clear hL
                  by_cases hpq : nth (places ys xs) (k + 1 + j) < nth (places ys xs) k
                  · have hpf : prefP ys (nth xs (k + 1 + j)) (nth xs k) = true := by rw [HP.out]; simpa using hpq
                    have HN : Hid (less (nth (places ys xs) k) (((places ys xs).drop (k + 1)).take (j + 1)) = L + 1) := by rw [HT.out, if_pos HQ.out, less_snoc, if_pos hpq, ← HLe.out]; exact rfl
                    clear hpq
                    go_wp2_with fail
                    refine (implPrefers _ _ _ ys _ _ _ h' hn).mono ?_; rintro e w1 ⟨rfl, rfl⟩
                    go_wp2_with fail
                    go_round
                    case rel => exact ⟨j + 1, by omega, by rw [HN.out, Int.add_assoc], by go_num⟩
                    case measure => simp [intOf]; omega
                  · have hpf : prefP ys (nth xs (k + 1 + j)) (nth xs k) = false := by rw [HP.out]; simpa using hpq
                    have HN : Hid (less (nth (places ys xs) k) (((places ys xs).drop (k + 1)).take (j + 1)) = L) := by rw [HT.out, if_pos HQ.out, less_snoc, if_neg hpq, ← HLe.out, Int.add_zero]; exact rfl
                    clear hpq
                    go_wp2_with fail
                    refine (implPrefers _ _ _ ys _ _ _ h' hn).mono ?_; rintro e w1 ⟨rfl, rfl⟩
                    go_wp2_with fail
                    go_round
                    case rel => exact ⟨j + 1, by omega, by rw [HN.out], by go_num⟩
                    case measure => simp [intOf]; omega
                · have HA : Hid (((places ys xs).drop (k + 1)).take j = (places ys xs).drop (k + 1)) := List.take_of_length_le (by rw [List.length_drop, HPL.out]; omega)
                  go_wp2
                  go_round
                  case rel => first | exact ⟨k + 1, by omega, by rw [HA.out, HST.out, HS.out], by go_num⟩ | ((repeat apply Exists.intro); exact ⟨⟨k + 1, by omega, by rw [HA.out, HST.out, HS.out], by go_num⟩, rfl, rfl, rfl, rfl, rfl⟩)
                  case measure => simp [intOf]; omega
            · have hcut : Ints w (some ⟨b, o + (k + 1), none⟩) (n - (k + 1)) (xs.drop (k + 1)) := by rw [if_neg hc1] at hcut; simpa [Addr.add_lit] using hcut
              go_wp2_with fail
              go_loop [5, 37] (fun u v => ∃ j : Nat, (j : Int) ≤ ((n - (k + 1) : Nat) : Int) ∧ u = .int .i64 (S + less (nth (places ys xs) k) (((places ys xs).drop (k + 1)).take j)) ∧ v = .int .i64 j) (fun _ v => n - (intOf v).toNat)
              case atStart => exact ⟨0, by omega, by simp [less_nil], rfl⟩
              case round =>
                obtain ⟨j, hj, rfl, rfl⟩ := hrel
                by_cases hlt2 : (j : Int) < ((n - (k + 1) : Nat) : Int)
                · obtain ⟨b2, o2, he, hb2, hc2⟩ := hcut.at_ (k := j) (by omega)
                  cases he
                  rw [nth_drop] at hc2
                  have HP := Lib.hid (pref_places R1.out R2.out (i := k + 1 + j) (k := k) (by rw [HL.out]; omega) (by rw [HL.out]; omega))
                  have HT := Lib.hid (drop_take (places ys xs) (k + 1) j)
                  have lb := less_bd (nth (places ys xs) k) (((places ys xs).drop (k + 1)).take j)
                  have ll : ((((places ys xs).drop (k + 1)).take j).length : Int) ≤ j := by rw [List.length_take]; omega
                  have hq : k + 1 + j < (places ys xs).length := by rw [HPL.out]; omega
                  have HQ := Lib.hid hq; clear hq
                  obtain ⟨L, hL⟩ : ∃ L, L = less (nth (places ys xs) k) (((places ys xs).drop (k + 1)).take j) := ⟨_, rfl⟩
                  rw [← hL] at lb ⊢
                  have HLe := Lib.hid hL; clear hL
                  by_cases hpq : nth (places ys xs) (k + 1 + j) < nth (places ys xs) k
                  · have hpf : prefP ys (nth xs (k + 1 + j)) (nth xs k) = true := by rw [HP.out]; simpa using hpq
                    have HN : Hid (less (nth (places ys xs) k) (((places ys xs).drop (k + 1)).take (j + 1)) = L + 1) := by rw [HT.out, if_pos HQ.out, less_snoc, if_pos hpq, ← HLe.out]; exact rfl
                    clear hpq
                    go_wp2_with fail
                    refine (implPrefers _ _ _ ys _ _ _ h' hn).mono ?_; rintro e w1 ⟨rfl, rfl⟩
                    go_wp2_with fail
                    go_round
                    case rel => exact ⟨j + 1, by omega, by rw [HN.out, Int.add_assoc], by go_num⟩
                    case measure => simp [intOf]; omega
                  · have hpf : prefP ys (nth xs (k + 1 + j)) (nth xs k) = false := by rw [HP.out]; simpa using hpq
                    have HN : Hid (less (nth (places ys xs) k) (((places ys xs).drop (k + 1)).take (j + 1)) = L) := by rw [HT.out, if_pos HQ.out, less_snoc, if_neg hpq, ← HLe.out, Int.add_zero]; exact rfl
                    clear hpq
                    go_wp2_with fail
                    refine (implPrefers _ _ _ ys _ _ _ h' hn).mono ?_; rintro e w1 ⟨rfl, rfl⟩
                    go_wp2_with fail
                    go_round
                    case rel => exact ⟨j + 1, by omega, by rw [HN.out], by go_num⟩
                    case measure => simp [intOf]; omega
                · have HA : Hid (((places ys xs).drop (k + 1)).take j = (places ys xs).drop (k + 1)) := List.take_of_length_le (by rw [List.length_drop, HPL.out]; omega)
                  go_wp2
                  go_round
                  case rel => first | exact ⟨k + 1, by omega, by rw [HA.out, HST.out, HS.out], by go_num⟩ | ((repeat apply Exists.intro); exact ⟨⟨k + 1, by omega, by rw [HA.out, HST.out, HS.out], by go_num⟩, rfl, rfl, rfl, rfl, rfl⟩)
                  case measure => simp [intOf]; omega
          · obtain rfl : k = n := by omega
            have HR := Lib.hid (swF_all HPL.out)
            go_wp2
            go_ret
            exact ⟨ret_int (by rw [HF.out, HR.out]), rfl⟩
end Go.Proofs.Ytaclpilehlednaa
