/- Lists of numbers: the place of a number, preference: what the program's and the reference's functions compute. -/
import Derived.Test.YtaclpilehlednaaInts
import Derived.Test.YtaclpilehlednaaPlainRank
namespace Go.Proofs.Ytaclpilehlednaa
open Go.RowKit

set_option maxHeartbeats 400000 in
theorem specPlaceOf (A : Option Addr) (n c : Nat) (xs : List Int) (a : Int) (w : World) (h : Ints w A n xs) (hn : (n : Int) ≤ 1048576) :
    Calls Try.prog 47 #[.slice A n c, .int .i64 a] w fun e w' => e = .returned (.int .i64 (idxP xs a)) ∧ w = w' := by
  have hl := Lib.hid h.1
  go_enter Try.func47, Try.ntmps47
  go_wp2
  go_loop [9] (fun u => ∃ k : Nat, (k : Int) ≤ n ∧ u = .int .i64 k ∧ ∀ j, j < k → nth xs j ≠ a) (fun u => n - (intOf u).toNat)
  case atStart => exact ⟨0, by omega, rfl, fun j hj => absurd hj (by omega)⟩
  case round =>
    obtain ⟨k, hk, rfl, hno⟩ := hrel
    have HN := Lib.hid hno; clear hno
    by_cases hlt : (k : Int) < n
    · obtain ⟨b, o, rfl, hb, hc⟩ := h.at_ (k := k) (by omega)
      by_cases hx : nth xs k = a
      · have HF := Lib.hid (idx_found (by rw [hl.out]; omega) hx HN.out)
        have he : (nth xs k == a) = true := by simpa using hx
        have he' : (a == nth xs k) = true := by simpa using hx.symm
        clear hx
        go_wp2
        go_ret
        exact ⟨ret_int HF.out.symm, rfl⟩
      · have he : (nth xs k == a) = false := by simpa using hx
        have he' : (a == nth xs k) = false := by simpa using fun e : a = nth xs k => hx e.symm
        have HX := Lib.hid hx; clear hx
        go_wp2
        go_round
        case rel =>
          refine ⟨k + 1, by omega, by go_num, fun j hj => ?_⟩
          by_cases hjk : j = k
          · subst hjk; exact HX.out
          · exact HN.out j (by omega)
        case measure => simp [intOf]; omega
    · have HF := Lib.hid (idx_none (xs := xs) (a := a) (fun j hj => HN.out j (by rw [hl.out] at hj; omega)))
      go_wp2
      go_ret
      exact ⟨ret_int HF.out.symm, rfl⟩

set_option maxHeartbeats 400000 in
theorem libIndex (A : Option Addr) (n c : Nat) (xs : List Int) (a : Int) (w : World) (h : Ints w A n xs) (hn : (n : Int) ≤ 1048576) :
    Calls Try.prog 60 #[.slice A n c, .int .i64 a] w fun e w' => e = .returned (.int .i64 (idxP xs a)) ∧ w = w' := by
  have hl := Lib.hid h.1
  go_enter Try.func60, Try.ntmps60
  go_wp2
  go_loop [8] (fun u => ∃ k : Nat, (k : Int) ≤ n ∧ u = .int .i64 k ∧ ∀ j, j < k → nth xs j ≠ a) (fun u => n - (intOf u).toNat)
  case atStart => exact ⟨0, by omega, rfl, fun j hj => absurd hj (by omega)⟩
  case round =>
    obtain ⟨k, hk, rfl, hno⟩ := hrel
    have HN := Lib.hid hno; clear hno
    by_cases hlt : (k : Int) < n
    · obtain ⟨b, o, rfl, hb, hc⟩ := h.at_ (k := k) (by omega)
      by_cases hx : nth xs k = a
      · have HF := Lib.hid (idx_found (by rw [hl.out]; omega) hx HN.out)
        have he : (nth xs k == a) = true := by simpa using hx
        have he' : (a == nth xs k) = true := by simpa using hx.symm
        clear hx
        go_wp2
        go_ret
        exact ⟨ret_int HF.out.symm, rfl⟩
      · have he : (nth xs k == a) = false := by simpa using hx
        have he' : (a == nth xs k) = false := by simpa using fun e : a = nth xs k => hx e.symm
        have HX := Lib.hid hx; clear hx
        go_wp2
        go_round
        case rel =>
          refine ⟨k + 1, by omega, by go_num, fun j hj => ?_⟩
          by_cases hjk : j = k
          · subst hjk; exact HX.out
          · exact HN.out j (by omega)
        case measure => simp [intOf]; omega
    · have HF := Lib.hid (idx_none (xs := xs) (a := a) (fun j hj => HN.out j (by rw [hl.out] at hj; omega)))
      go_wp2
      go_ret
      exact ⟨ret_int HF.out.symm, rfl⟩

set_option maxHeartbeats 400000 in
theorem implPlaceOf (A : Option Addr) (n c : Nat) (xs : List Int) (a : Int) (w : World) (h : Ints w A n xs) (hn : (n : Int) ≤ 1048576) :
    Calls Try.prog 25 #[.slice A n c, .int .i64 a] w fun e w' => e = .returned (.int .i64 (idxP xs a)) ∧ w = w' := by
  go_enter Try.func25, Try.ntmps25
  go_wp2_with fail
  refine (libIndex _ _ _ xs _ _ h hn).mono ?_; rintro e w1 ⟨rfl, rfl⟩
  go_wp2_with fail
  go_ret
  exact ⟨rfl, rfl⟩

theorem pref_of {xs : List Int} {a b i k : Int} (h1 : i = idxP xs a) (h2 : k = idxP xs b) : prefP xs a b = (decide (0 ≤ i) && decide (0 ≤ k) && decide (i < k)) := by subst h1; subst h2; rfl
set_option maxHeartbeats 400000 in
theorem implPrefers (A : Option Addr) (n c : Nat) (xs : List Int) (a b : Int) (w : World) (h : Ints w A n xs) (hn : (n : Int) ≤ 1048576) :
    Calls Try.prog 55 #[.slice A n c, .int .i64 a, .int .i64 b] w fun e w' => e = .returned (.bool (prefP xs a b)) ∧ w = w' := by
  go_enter Try.func55, Try.ntmps55
  go_wp2_with fail
  refine (implPlaceOf _ _ _ xs _ _ h hn).mono ?_; rintro e w1 ⟨rfl, rfl⟩
  go_wp2_with fail
  refine (implPlaceOf _ _ _ xs _ _ h hn).mono ?_; rintro e w1 ⟨rfl, rfl⟩
  obtain ⟨i, hi⟩ : ∃ i, i = idxP xs a := ⟨_, rfl⟩
  obtain ⟨k, hk⟩ : ∃ k, k = idxP xs b := ⟨_, rfl⟩
  have HP := Lib.hid (pref_of hi hk)
  rw [← hi, ← hk]
  clear hi hk
  by_cases h1 : 0 ≤ i
  · by_cases h2 : 0 ≤ k
    · by_cases h3 : i < k
      · go_wp2
        go_ret
        exact ⟨ret_bool (by rw [HP.out]; simp; omega), rfl⟩
      · go_wp2
        go_ret
        exact ⟨ret_bool (by rw [HP.out]; simp; omega), rfl⟩
    · go_wp2
      go_ret
      exact ⟨ret_bool (by rw [HP.out]; simp; omega), rfl⟩
  · go_wp2
    go_ret
    exact ⟨ret_bool (by rw [HP.out]; simp; omega), rfl⟩

end Go.Proofs.Ytaclpilehlednaa
