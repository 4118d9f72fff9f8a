/- The plurality's weights: what the program's functions compute. -/
import Derived.Test.YtblofiimfhbkdabRank2
import Derived.Test.YtblofiimfhbkdabAppend
import Derived.Test.YtblofiimfhbkdabPlainW
namespace Go.Proofs.Ytblofiimfhbkdab
open Go.RowKit

set_option maxHeartbeats 400000 in
theorem plurClo (m p : Int) (w : World) (_h1 : 1 ≤ m ∧ m ≤ 5) (h2 : 0 ≤ p ∧ p ≤ 5) :
    Calls Try.prog 75 #[.int .i64 p] w fun e w' => e = .returned (.int .i64 (max 0 (1 - p))) ∧ w = w' := by
  go_enter Try.func75, Try.ntmps75
  go_wp2
  all_goals
    go_ret
    exact ⟨ret_int (by omega), rfl⟩

set_option maxHeartbeats 1000000 in
theorem plurOf (m : Int) (w : World) :
    Calls Try.prog 74 #[.int .i64 m, .func (.func 75) #[] #[]] w fun e w' => ∃ A c, e = .returned (.slice A (wn m) c) ∧ Own w' w.heap.size A (wn m) c (plurP m (wn m)) ∧ Below w.heap.size w w' := by
  by_cases h1 : 1 ≤ m ∧ m ≤ 5
  · have hin := inB_true h1
    have hwn := Lib.hid (wn_yes h1)
    obtain ⟨n, hn⟩ : ∃ n : Nat, n = wn m := ⟨_, rfl⟩
    rw [← hn] at hwn ⊢
    clear hn
    obtain rfl : m = (n : Int) := hwn.out.symm
    clear hwn
    obtain ⟨h1a, h1b⟩ := h1
    go_enter Try.func74, Try.ntmps74
    go_wp2_with fail
    refine (implWithin _ _ _ _).mono ?_; rintro e w1 ⟨rfl, rfl⟩
    go_wp2_with fail
    go_loopw [5, 11] (fun u v wr => ∃ (k : Nat) (A : Option Addr) (c : Nat), (k : Int) ≤ n ∧ u = .slice A k c ∧ v = .int .i64 k ∧ Own wr w.heap.size A k c (plurP n k) ∧ Below w.heap.size w wr) (fun _ v _ => n - (intOf v).toNat)
    case atStart => exact ⟨0, none, 0, by omega, rfl, rfl, own_nil _ _, Below.refl _ _⟩
    case round =>
      obtain ⟨k, A, c, hk, rfl, rfl, hown, hb'⟩ := hrel
      by_cases hlt : (k : Int) < n
      · have hsz := hb'.size
        go_wp2_with fail
        refine (plurClo (n : Int) _ _ ⟨h1a, h1b⟩ ⟨by omega, by omega⟩).mono ?_; rintro e w1 ⟨rfl, rfl⟩
        go_wp2_with (first | (at_builtin; refine wpList_ap _ rfl _ _ rfl w.heap.size A k c (plurP n k) rfl (own_alloc hown _) (some ⟨wr.heap.size, 0, none⟩) 1 1 [max 0 (1 - (k : Int))] rfl (ints_one wr _ _) (by omega) (by simp; omega) ?_; intro A' c' w3 hown' hg hblk))
        rw [← plur_snoc] at hown'
        go_roundw
        case rel => exact ⟨k + 1, A', c', by omega, rfl, by go_num, hown', below_ap (hb'.alloc hsz _) (own_alloc hown _) hg (by simp; omega)⟩
        case measure => simp [intOf]; omega
      · obtain rfl : k = n := by omega
        go_wp2
        go_ret
        exact ⟨A, c, rfl, hown, hb'⟩
  · have hin := inB_false h1
    rw [wn_no h1, plur_zero]
    go_enter Try.func74, Try.ntmps74
    go_wp2_with fail
    refine (implWithin _ _ _ _).mono ?_; rintro e w1 ⟨rfl, rfl⟩
    go_wp2_with fail
    go_ret
    exact ⟨none, 0, rfl, own_nil _ _, Below.refl _ _⟩

set_option maxHeartbeats 400000 in
theorem implPluralityWeights (m : Int) (w : World) :
    Calls Try.prog 43 #[.int .i64 m] w fun e w' => ∃ A c, e = .returned (.slice A (wn m) c) ∧ Own w' w.heap.size A (wn m) c (plurP m (wn m)) ∧ Below w.heap.size w w' := by
  go_enter Try.func43, Try.ntmps43
  go_wp2_with fail
  refine (plurOf m _).mono ?_; rintro e w1 ⟨A, c, rfl, o, b⟩
  go_wp2_with fail
  go_ret
  exact ⟨A, c, rfl, o, b⟩

end Go.Proofs.Ytblofiimfhbkdab
