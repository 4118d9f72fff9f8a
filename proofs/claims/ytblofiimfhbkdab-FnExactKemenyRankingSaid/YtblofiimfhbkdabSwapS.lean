/- How many swaps part two rankings: the count, by the reference. -/
import Derived.Test.YtblofiimfhbkdabPlainSwap
import Derived.Test.YtblofiimfhbkdabRank2
namespace Go.Proofs.Ytblofiimfhbkdab
open Go.RowKit
set_option maxHeartbeats 4000000 in
theorem specSwaps (A : Option Addr) (n c : Nat) (xs : List Int) (B : Option Addr) (d : Nat) (ys : List Int) (w : World) (h : Ints w A n xs) (h' : Ints w B n ys) (hcap : (n : Int) ≤ c) (h1 : rankOkP n xs = true) (h2 : rankOkP n ys = true) :
    Calls Try.prog 110 #[.slice A n c, .slice B n d] w fun e w' => e = .returned (.int .i64 (swS (places ys xs) n)) ∧ w = w' := by
  have HL := Lib.hid h.1
  have n5 := (of_rank h1).1
  have hn : (n : Int) ≤ 1048576 := by omega
  have R1 := Lib.hid h1
  have R2 := Lib.hid h2
  clear h1 h2
  have HPL : Hid ((places ys xs).length = n) := (places_len _ _).trans HL.out
  have HBD : Hid (∀ k : Nat, 0 ≤ swS (places ys xs) k ∧ swS (places ys xs) k ≤ 5 * k) := fun k => swS_bd _ k (by rw [HPL.out]; omega)
  go_enter Try.func110, Try.ntmps110
  go_wp2_with fail
  go_loop [5, 12] (fun u v => ∃ k : Nat, (k : Int) ≤ n ∧ u = .int .i64 (swS (places ys xs) k) ∧ v = .int .i64 k) (fun _ v => n - (intOf v).toNat)
  case atStart => exact ⟨0, by omega, rfl, rfl⟩
  case round =>
    obtain ⟨k, hk, rfl, rfl⟩ := hrel
    by_cases hlt : (k : Int) < n
    · have ht := h.take (k := k) (by omega)
      obtain ⟨b, o, rfl, hb, hc⟩ := h.at_ (k := k) (by omega)
      have bd := HBD.out k
      have HST := Lib.hid (swS_succ (places ys xs) k)
      obtain ⟨S, hS⟩ : ∃ S, S = swS (places ys xs) k := ⟨_, rfl⟩
      rw [← hS] at bd ⊢
      have HS := Lib.hid hS; clear hS
      have k1 : (k : Int) ≤ n := by omega
      have k2 : (k : Int) ≤ c := by omega
      go_wp2_with fail
      go_loop [5, 21] (fun u v => ∃ j : Nat, (j : Int) ≤ k ∧ u = .int .i64 (S + more (nth (places ys xs) k) ((places ys xs).take j)) ∧ v = .int .i64 j) (fun _ v => n - (intOf v).toNat)
      case atStart => exact ⟨0, by omega, by simp [more], rfl⟩
      case round =>
        obtain ⟨j, hj, rfl, rfl⟩ := hrel
        by_cases hlt2 : (j : Int) < k
        · obtain ⟨b2, o2, he, hb2, hc2⟩ := h.at_ (k := j) (by omega)
          cases he
          have HP := Lib.hid (pref_places R1.out R2.out (i := k) (k := j) (by rw [HL.out]; omega) (by rw [HL.out]; omega))
          have HT := Lib.hid (take_snoc (xs := places ys xs) (k := j) (by rw [HPL.out]; omega))
          have lb := more_bd (nth (places ys xs) k) ((places ys xs).take j)
          have ll : (((places ys xs).take j).length : Int) ≤ j := by rw [List.length_take]; omega
          obtain ⟨L, hL⟩ : ∃ L, L = more (nth (places ys xs) k) ((places ys xs).take j) := ⟨_, rfl⟩
          rw [← hL] at lb ⊢
          have HLe := Lib.hid hL; clear hL
          by_cases hpq : nth (places ys xs) k < nth (places ys xs) j
          · have hpf : prefP ys (nth xs k) (nth xs j) = true := by rw [HP.out]; simpa using hpq
            have HN : Hid (more (nth (places ys xs) k) ((places ys xs).take (j + 1)) = L + 1) := by rw [HT.out, more_snoc, if_pos hpq, ← HLe.out]; exact rfl
            clear hpq
            go_wp2_with fail
            refine (specPrefers _ _ _ ys _ _ _ h' hn).mono ?_; rintro e w1 ⟨rfl, rfl⟩
            go_wp2_with fail
            go_round
            case rel => exact ⟨j + 1, by omega, by rw [HN.out, Int.add_assoc], by go_num⟩
            case measure => simp [intOf]; omega
          · have hpf : prefP ys (nth xs k) (nth xs j) = false := by rw [HP.out]; simpa using hpq
            have HN : Hid (more (nth (places ys xs) k) ((places ys xs).take (j + 1)) = L) := by rw [HT.out, more_snoc, if_neg hpq, ← HLe.out, Int.add_zero]; exact rfl
            clear hpq
            go_wp2_with fail
            refine (specPrefers _ _ _ ys _ _ _ h' hn).mono ?_; rintro e w1 ⟨rfl, rfl⟩
            go_wp2_with fail
            go_round
            case rel => exact ⟨j + 1, by omega, by rw [HN.out], by go_num⟩
            case measure => simp [intOf]; omega
        · obtain rfl : j = k := by omega
          go_wp2
          go_round
          case rel => first | exact ⟨j + 1, by omega, by rw [HST.out, HS.out], by go_num⟩ | ((repeat apply Exists.intro); exact ⟨⟨j + 1, by omega, by rw [HST.out, HS.out], by go_num⟩, rfl, rfl, rfl, rfl, rfl⟩)
          case measure => simp [intOf]; omega
    · obtain rfl : k = n := by omega
      go_wp2
      go_ret
      exact ⟨rfl, rfl⟩
end Go.Proofs.Ytblofiimfhbkdab
