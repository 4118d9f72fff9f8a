/- Slices of integers: what the laws' own helpers compute: a copy, equality, marks laid and marks found. -/
import Derived.Test.YtkofjdddmpebmaaGreatDoorFrame
import Derived.Test.YtkofjdddmpebmaaGreatDoorWords
import Derived.Deep.QuietTactic
import Derived.BigQuiet
namespace Go.Proofs.YtkofjdddmpebmaaGreatDoor
open Go.RowKit

theorem ret_bool {a b : Bool} (h : a = b) : Ending.returned (.bool a) = .returned (.bool b) := by rw [h]
theorem ret_int {a b : Int} (h : a = b) : Ending.returned (.int .i64 a) = .returned (.int .i64 b) := by rw [h]
theorem infoInt : (Tryz.prog.info? 3).map (fun i => (i.zero, i.size, i.bytes)) = some (some (.int .i64 0), 1, 8) := by kernel_rfl
/-- A new slice of numbers. -/
def Own (w : World) (base : Nat) (A : Option Addr) (n c : Nat) (xs : List Int) : Prop := w.ownsRow base 3 1 (.slice A n c) n (iv xs)
/-- From a call's world on: what lies below stays below. -/
theorem Below.on {a w w' : World} (h : Below a.heap.size a w) (hb : Below w.heap.size w w') : Below a.heap.size a w' := h.trans (hb.mono h.size)

/-- The cells of a copy that is made up to k. -/
def copyF (xs : List Int) (k : Nat) (j : Nat) : Value := if j < k then .int .i64 (nth xs j) else .int .i64 0
theorem copyF_set (xs : List Int) (k j : Nat) : (if j = k then Value.int .i64 (nth xs k) else copyF xs k j) = copyF xs (k + 1) j := by
  unfold copyF
  by_cases h : j = k
  · subst h; simp
  · rw [if_neg h]
    by_cases h2 : j < k
    · rw [if_pos h2, if_pos (by omega)]
    · rw [if_neg h2, if_neg (by omega)]

set_option maxHeartbeats 1000000 in
theorem eqIntS (A B : Option Addr) (n c d : Nat) (xs : List Int) (w : World) (h : Ints w A n xs) (h' : Ints w B n xs) (hn : (n : Int) ≤ 1048576) :
    Calls Tryz.prog 56 #[.slice A n c, .slice B n d] w fun e w' => e = .returned (.bool true) ∧ Below w.heap.size w w' := by
  have hne : ((n : Int) != (n : Int)) = false := by simp
  go_enter Tryz.func56, Tryz.ntmps56
  go_wp2
  go_loopw [5] (fun u wr => ∃ k : Nat, (k : Int) ≤ n ∧ u = .int .i64 k ∧ Below w.heap.size w wr) (fun u _ => n - (intOf u).toNat)
  case atStart => exact ⟨0, by omega, rfl, Below.refl _ _⟩
  case round =>
    obtain ⟨k, hk, rfl, hb⟩ := hrel
    by_cases hlt : (k : Int) < n
    · obtain ⟨b, o, rfl, hbs, hc⟩ := (h.on hb).at_ (k := k) (by omega)
      obtain ⟨b', o', rfl, hbs', hc'⟩ := (h'.on hb).at_ (k := k) (by omega)
      have hn2 : (nth xs k != nth xs k) = false := by simp
      go_wp2
      go_quiet (fail)
      go_wp2
      go_roundw
      case rel => exact ⟨k + 1, by omega, by go_num, below_drewN hb _⟩
      case measure => simp [intOf]; omega
    · go_wp2
      go_ret
      exact ⟨rfl, hb⟩

set_option maxHeartbeats 1000000 in
theorem markIntS (A : Option Addr) (n c base : Nat) (vs : List Value) (m : Int) (w : World) (h : w.ownsRow base 3 1 (.slice A n c) n vs) (hn : (n : Int) ≤ 1048576) (hm : 0 ≤ m ∧ m ≤ 1152921504606846976) :
    Calls Tryz.prog 39 #[.slice A n c, .int .i64 m] w fun e w' => e = .returned (.int .i64 (m + n)) ∧ Own w' base A n c (marks m n) ∧ w.grownBy w' (A.map (·.block)) := by
  have hl : vs.length = n := by have := h.1; omega
  go_enter Tryz.func39, Tryz.ntmps39
  go_wp2
  go_loopw [1, 5] (fun u v wr => ∃ k : Nat, (k : Int) ≤ n ∧ u = .int .i64 (m + k) ∧ v = .int .i64 k ∧ wr.ownsRow base 3 1 (.slice A n c) n (marked m k vs) ∧ w.grownBy wr (A.map (·.block))) (fun _ v _ => n - (intOf v).toNat)
  case atStart => exact ⟨0, by omega, by simp, rfl, by rw [marked_zero]; exact h, World.grownBy.refl _ _⟩
  case round =>
    obtain ⟨k, hk, rfl, rfl, hown, hg⟩ := hrel
    by_cases hlt : (k : Int) < n
    · obtain ⟨g, rfl, hb, hgs⟩ := own_form hown (by omega)
      have hml := marked_len m (k := k) (vs := vs) (by omega)
      have hc : wr.cell? ⟨g, k, none⟩ = some ((marked m k vs)[k]'(by omega)) := by rw [hown.cellAt k (by omega)]; exact List.getElem?_eq_getElem (by omega)
      have hf := hown.frozenAt k
      have hs := hown.stored k (.int .i64 (m + k))
      rw [marked_set m (by omega)] at hs
      have HS := Lib.hid hs; clear hs
      generalize (marked m k vs)[k]'(by omega) = old at hc
      go_wp2
      go_roundw
      case rel => exact ⟨k + 1, by omega, by go_num, by go_num, HS.out.1, grown_trans hg HS.out.2⟩
      case measure => simp [intOf]; omega
    · go_wp2
      go_ret
      obtain rfl : k = n := by omega
      exact ⟨rfl, by rw [marked_all m hl] at hown; exact hown, hg⟩

set_option maxHeartbeats 1000000 in
theorem heldIntS (A : Option Addr) (n c : Nat) (m : Int) (w : World) (h : Ints w A n (marks m n)) (hn : (n : Int) ≤ 1048576) (hm : 0 ≤ m ∧ m ≤ 1152921504606846976) :
    Calls Tryz.prog 40 #[.slice A n c, .int .i64 m] w fun e w' => e = .returned (.int .i64 (m + n)) ∧ w = w' := by
  go_enter Tryz.func40, Tryz.ntmps40
  go_wp2
  go_loop [1, 5] (fun u v => ∃ k : Nat, (k : Int) ≤ n ∧ u = .int .i64 (m + k) ∧ v = .int .i64 k) (fun _ v => n - (intOf v).toNat)
  case atStart => exact ⟨0, by omega, by simp, rfl⟩
  case round =>
    obtain ⟨k, hk, rfl, rfl⟩ := hrel
    by_cases hlt : (k : Int) < n
    · obtain ⟨b, o, rfl, hbs, hc⟩ := h.at_ (k := k) (by omega)
      rw [marks_at m (by omega)] at hc
      have hn2 : (m + (k : Int) != m + (k : Int)) = false := by simp
      go_wp2
      go_round
      case rel => exact ⟨k + 1, by omega, by go_num, by go_num⟩
      case measure => simp [intOf]; omega
    · go_wp2
      go_ret
      obtain rfl : k = n := by omega
      exact ⟨rfl, rfl⟩
end Go.Proofs.YtkofjdddmpebmaaGreatDoor
