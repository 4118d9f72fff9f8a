/- Texts joined: the plain function, and what the reference's function computes. -/
import Derived.Test.YtkofjdddmpebmaaGreatDoorStrs
namespace Go.Proofs.YtkofjdddmpebmaaGreatDoor
open Go.RowKit
set_option maxRecDepth 100000

theorem ret_stringJ {a b : ByteArray} (h : a = b) : Ending.returned (.string a) = .returned (.string b) := by rw [h]
/-- How many bytes the first k hold. -/
def sumSz (ss : List ByteArray) (k : Nat) : Nat := ((List.range k).map fun j => (snth ss j).size).sum
theorem sumSz_succ (ss : List ByteArray) (k : Nat) : sumSz ss (k + 1) = sumSz ss k + (snth ss k).size := by simp [sumSz, List.range_succ]
theorem sumSz_mono (ss : List ByteArray) {k n : Nat} (h : k ≤ n) : sumSz ss k ≤ sumSz ss n := by
  induction n with
  | zero =>
    obtain rfl : k = 0 := by omega
    exact Nat.le_refl _
  | succ n ih =>
    by_cases e : k = n + 1
    · subst e; exact Nat.le_refl _
    · rw [sumSz_succ]; have := ih (by omega); omega
/-- The first k, joined. -/
def jK (ss : List ByteArray) (sep : ByteArray) : Nat → ByteArray
  | 0 => ByteArray.empty
  | k + 1 => (if k = 0 then jK ss sep k else jK ss sep k ++ sep) ++ snth ss k
theorem jK_size (ss : List ByteArray) (sep : ByteArray) (k : Nat) : (jK ss sep k).size ≤ sumSz ss k + k * sep.size := by
  induction k with
  | zero => simp [jK, sumSz]
  | succ k ih =>
    rw [jK, ByteArray.size_append, sumSz_succ, Nat.add_mul, Nat.one_mul]
    split
    · omega
    · rw [ByteArray.size_append]; omega
theorem jK_bd {ss : List ByteArray} {sep : ByteArray} {k n : Nat} (hk : k ≤ n) (hn : n ≤ 1048576) (hs : sumSz ss n ≤ 1048576) (hp : sep.size ≤ 1048576) : (jK ss sep k).size ≤ 1099512676352 := by
  have h1 := jK_size ss sep k
  have h2 := sumSz_mono ss hk
  have h3 : k * sep.size ≤ 1048576 * 1048576 := Nat.mul_le_mul (by omega) hp
  omega
theorem jK_first {ss : List ByteArray} {sep : ByteArray} : jK ss sep 1 = snth ss 0 := by simp [jK]
theorem jK_next {ss : List ByteArray} {sep : ByteArray} {k : Nat} (h : k ≠ 0) : jK ss sep (k + 1) = (jK ss sep k ++ sep) ++ snth ss k := by rw [jK, if_neg h]

set_option maxHeartbeats 2000000 in
theorem specJoin (A : Option Addr) (n c : Nat) (ss : List ByteArray) (sep : ByteArray) (w : World) (h : Strs w A n ss) (hn : (n : Int) ≤ 1048576) (hs : sumSz ss n ≤ 1048576) (hp : (sep.size : Int) ≤ 1048576) :
    Calls Tryz.prog 29 #[.slice A n c, .string sep] w fun e w' => e = .returned (.string (jK ss sep n)) ∧ w = w' := by
  have HB : Hid (∀ k, k ≤ n → ((jK ss sep k).size : Int) ≤ 1099512676352) := fun k hk => by have := jK_bd (ss := ss) (sep := sep) hk (by omega) hs (by omega); omega
  have HS : Hid (∀ k, k < n → ((snth ss k).size : Int) ≤ 1048576) := fun k hk => by
    have h1 := sumSz_mono ss (show k + 1 ≤ n by omega)
    rw [sumSz_succ] at h1
    omega
  clear hs
  go_enter Tryz.func29, Tryz.ntmps29
  go_wp2
  go_loop [5, 10] (fun u v => ∃ k : Nat, (k : Int) ≤ n ∧ u = .string (jK ss sep k) ∧ v = .int .i64 k) (fun _ v => n - (intOf v).toNat)
  case atStart => exact ⟨0, by omega, rfl, rfl⟩
  case round =>
    obtain ⟨k, hk, rfl, rfl⟩ := hrel
    have hb := HB.out k (by omega)
    by_cases hlt : (k : Int) < n
    · obtain ⟨b, o, rfl, hbs, hc⟩ := h.at_ (k := k) (by omega)
      have hz := HS.out k (by omega)
      by_cases hk0 : 0 < (k : Int)
      · have HN := Lib.hid (jK_next (ss := ss) (sep := sep) (k := k) (by omega))
        have hb2 : ((jK ss sep k ++ sep).size : Int) ≤ 1099513724928 := by rw [ByteArray.size_append]; omega
        go_wp2
        go_round
        case rel => exact ⟨k + 1, by omega, by rw [HN.out], by go_num⟩
        case measure => simp [intOf]; omega
      · obtain rfl : k = 0 := by omega
        have HN := Lib.hid (jK_first (ss := ss) (sep := sep))
        have HJ : Hid (jK ss sep 0 = ByteArray.empty) := rfl
        rw [HJ.out] at hb ⊢
        rw [Nat.add_zero] at hc
        go_wp2
        go_round
        case rel => exact ⟨1, by omega, by first | rw [HN.out] | (simp [HN.out]), rfl⟩
        case measure => simp [intOf]; omega
    · obtain rfl : k = n := by omega
      go_wp2
      go_ret
      exact ⟨rfl, rfl⟩
end Go.Proofs.YtkofjdddmpebmaaGreatDoor
