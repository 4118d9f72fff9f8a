/- Lists of numbers: the place of a number, preference: what the program's and the reference's functions compute. -/
import Derived.Test.YtkofjdddmpebmaaGreatDoorInts
import Derived.Test.YtkofjdddmpebmaaGreatDoorPlainRank
namespace Go.Proofs.YtkofjdddmpebmaaGreatDoor
open Go.RowKit

set_option maxHeartbeats 400000 in
theorem libIndex (A : Option Addr) (n c : Nat) (xs : List Int) (a : Int) (w : World) (h : Ints w A n xs) (hn : (n : Int) ≤ 1048576) :
    Calls Tryz.prog 75 #[.slice A n c, .int .i64 a] w fun e w' => e = .returned (.int .i64 (idxP xs a)) ∧ w = w' := by
  have hl := Lib.hid h.1
  go_enter Tryz.func75, Tryz.ntmps75
  go_wp2
  go_loop [8] (fun u => ∃ k : Nat, (k : Int) ≤ n ∧ u = .int .i64 k ∧ ∀ j, j < k → nth xs j ≠ a) (fun u => n - (intOf u).toNat)
  case atStart => exact ⟨0, by omega, rfl, fun j hj => absurd hj (by omega)⟩
  case round =>
    obtain ⟨k, hk, rfl, hno⟩ := hrel
    have HN := Lib.hid hno; clear hno
    by_cases hlt : (k : Int) < n
    · obtain ⟨b, o, rfl, hb, hc⟩ := h.at_ (k := k) (by omega)
      by_cases hx : nth xs k = a
      · have HF := Lib.hid (idx_found (by rw [hl.out]; omega) hx HN.out)
        have he : (nth xs k == a) = true := by simpa using hx
        have he' : (a == nth xs k) = true := by simpa using hx.symm
        clear hx
        go_wp2
        go_ret
        exact ⟨ret_int HF.out.symm, rfl⟩
      · have he : (nth xs k == a) = false := by simpa using hx
        have he' : (a == nth xs k) = false := by simpa using fun e : a = nth xs k => hx e.symm
        have HX := Lib.hid hx; clear hx
        go_wp2
        go_round
        case rel =>
          refine ⟨k + 1, by omega, by go_num, fun j hj => ?_⟩
          by_cases hjk : j = k
          · subst hjk; exact HX.out
          · exact HN.out j (by omega)
        case measure => simp [intOf]; omega
    · have HF := Lib.hid (idx_none (xs := xs) (a := a) (fun j hj => HN.out j (by rw [hl.out] at hj; omega)))
      go_wp2
      go_ret
      exact ⟨ret_int HF.out.symm, rfl⟩

theorem pref_of {xs : List Int} {a b i k : Int} (h1 : i = idxP xs a) (h2 : k = idxP xs b) : prefP xs a b = (decide (0 ≤ i) && decide (0 ≤ k) && decide (i < k)) := by subst h1; subst h2; rfl
end Go.Proofs.YtkofjdddmpebmaaGreatDoor
