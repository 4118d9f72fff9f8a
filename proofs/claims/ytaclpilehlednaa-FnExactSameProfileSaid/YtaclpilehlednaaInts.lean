/- Slices of integers: what the laws' own helpers compute: a copy, equality, marks laid and marks found. -/
import Derived.Test.YtaclpilehlednaaFrame
import Derived.Test.YtaclpilehlednaaWords
import Derived.Deep.QuietTactic
import Derived.BigQuiet
namespace Go.Proofs.Ytaclpilehlednaa
open Go.RowKit

theorem ret_bool {a b : Bool} (h : a = b) : Ending.returned (.bool a) = .returned (.bool b) := by rw [h]
theorem ret_int {a b : Int} (h : a = b) : Ending.returned (.int .i64 a) = .returned (.int .i64 b) := by rw [h]
theorem infoInt : (Try.prog.info? 3).map (fun i => (i.zero, i.size, i.bytes)) = some (some (.int .i64 0), 1, 8) := by kernel_rfl
/-- A new slice of numbers. -/
def Own (w : World) (base : Nat) (A : Option Addr) (n c : Nat) (xs : List Int) : Prop := w.ownsRow base 3 1 (.slice A n c) n (iv xs)
/-- From a call's world on: what lies below stays below. -/
theorem Below.on {a w w' : World} (h : Below a.heap.size a w) (hb : Below w.heap.size w w') : Below a.heap.size a w' := h.trans (hb.mono h.size)

/-- The cells of a copy that is made up to k. -/
def copyF (xs : List Int) (k : Nat) (j : Nat) : Value := if j < k then .int .i64 (nth xs j) else .int .i64 0
theorem copyF_set (xs : List Int) (k j : Nat) : (if j = k then Value.int .i64 (nth xs k) else copyF xs k j) = copyF xs (k + 1) j := by
  unfold copyF
  by_cases h : j = k
  · subst h; simp
  · rw [if_neg h]
    by_cases h2 : j < k
    · rw [if_pos h2, if_pos (by omega)]
    · rw [if_neg h2, if_neg (by omega)]

set_option maxHeartbeats 1000000 in
theorem toIntS (A : Option Addr) (n c : Nat) (xs : List Int) (w : World) (h : Ints w A n xs) (hn : (n : Int) ≤ 1048576) :
    Calls Try.prog 11 #[.slice A n c] w fun e w' => e = .returned (.slice (some ⟨w.heap.size, 0, none⟩) n n) ∧ Own w' w.heap.size (some ⟨w.heap.size, 0, none⟩) n n xs ∧ Below w.heap.size w w' := by
  have hmk := run_make_row' (P := Try.prog) 22 3 (.int .i64 0) 8 Try.underlying22 infoInt rfl .i64 .i64 n (by omega) (by omega)
  go_enter Try.func11, Try.ntmps11
  go_wp2
  have HM := Lib.hid hmk; clear hmk
  have hst : (w.alloc (.cells (madeCells #[.int .i64 0] n) 3)).rowIs w.heap.size 3 n (copyF xs 0) := (World.rowIs_made w (.int .i64 0) n 3).congr fun j _ => by simp [copyF]
  have hbl : Below w.heap.size w (w.alloc (.cells (madeCells #[.int .i64 0] n) 3)) := (Below.refl _ _).alloc (Nat.le_refl _) _
  generalize w.alloc (.cells (madeCells #[.int .i64 0] n) 3) = W at *
  go_loopw [4] (fun u wr => ∃ k : Nat, (k : Int) ≤ n ∧ u = .int .i64 k ∧ wr.rowIs w.heap.size 3 n (copyF xs k) ∧ Below w.heap.size w wr) (fun u _ => n - (intOf u).toNat)
  case atStart => exact ⟨0, by omega, rfl, hst, hbl⟩
  case round =>
    obtain ⟨k, hk, rfl, hrow, hb⟩ := hrel
    by_cases hlt : (k : Int) < n
    · obtain ⟨b, o, rfl, hbs, hc⟩ := (h.on hb).at_ (k := k) (by omega)
      have hc2 := hrow.cell (i := k) (by omega)
      have hf2 := hrow.frozen k
      go_wp2
      go_roundw
      case rel => exact ⟨k + 1, by omega, by go_num, (hrow.set k _).congr fun j _ => copyF_set xs k j, hb.setCell (Nat.le_refl _) _⟩
      case measure => simp [intOf]; omega
    · go_wp2
      go_ret
      obtain rfl : k = n := by omega
      exact ⟨rfl, own_of_row hrow (Nat.le_refl _) (by simp only [maxLen]; omega) (by rw [iv_len]; exact h.1) (fun j hj => by rw [iv_at (by rw [h.1]; exact hj)]; simp [copyF, hj]), hb⟩

set_option maxHeartbeats 1000000 in
theorem eqIntS (A B : Option Addr) (n c d : Nat) (xs : List Int) (w : World) (h : Ints w A n xs) (h' : Ints w B n xs) (hn : (n : Int) ≤ 1048576) :
    Calls Try.prog 13 #[.slice A n c, .slice B n d] w fun e w' => e = .returned (.bool true) ∧ Below w.heap.size w w' := by
  have hne : ((n : Int) != (n : Int)) = false := by simp
  go_enter Try.func13, Try.ntmps13
  go_wp2
  go_loopw [5] (fun u wr => ∃ k : Nat, (k : Int) ≤ n ∧ u = .int .i64 k ∧ Below w.heap.size w wr) (fun u _ => n - (intOf u).toNat)
  case atStart => exact ⟨0, by omega, rfl, Below.refl _ _⟩
  case round =>
    obtain ⟨k, hk, rfl, hb⟩ := hrel
    by_cases hlt : (k : Int) < n
    · obtain ⟨b, o, rfl, hbs, hc⟩ := (h.on hb).at_ (k := k) (by omega)
      obtain ⟨b', o', rfl, hbs', hc'⟩ := (h'.on hb).at_ (k := k) (by omega)
      have hn2 : (nth xs k != nth xs k) = false := by simp
      go_wp2
      go_quiet (fail)
      go_wp2
      go_roundw
      case rel => exact ⟨k + 1, by omega, by go_num, below_drewN hb _⟩
      case measure => simp [intOf]; omega
    · go_wp2
      go_ret
      exact ⟨rfl, hb⟩

set_option maxHeartbeats 1000000 in
theorem markIntS (A : Option Addr) (n c base : Nat) (vs : List Value) (m : Int) (w : World) (h : w.ownsRow base 3 1 (.slice A n c) n vs) (hn : (n : Int) ≤ 1048576) (hm : 0 ≤ m ∧ m ≤ 1152921504606846976) :
    Calls Try.prog 16 #[.slice A n c, .int .i64 m] w fun e w' => e = .returned (.int .i64 (m + n)) ∧ Own w' base A n c (marks m n) ∧ w.grownBy w' (A.map (·.block)) := by
  have hl : vs.length = n := by have := h.1; omega
  go_enter Try.func16, Try.ntmps16
  go_wp2
  go_loopw [1, 5] (fun u v wr => ∃ k : Nat, (k : Int) ≤ n ∧ u = .int .i64 (m + k) ∧ v = .int .i64 k ∧ wr.ownsRow base 3 1 (.slice A n c) n (marked m k vs) ∧ w.grownBy wr (A.map (·.block))) (fun _ v _ => n - (intOf v).toNat)
  case atStart => exact ⟨0, by omega, by simp, rfl, by rw [marked_zero]; exact h, World.grownBy.refl _ _⟩
  case round =>
    obtain ⟨k, hk, rfl, rfl, hown, hg⟩ := hrel
    by_cases hlt : (k : Int) < n
    · obtain ⟨g, rfl, hb, hgs⟩ := own_form hown (by omega)
      have hml := marked_len m (k := k) (vs := vs) (by omega)
      have hc : wr.cell? ⟨g, k, none⟩ = some ((marked m k vs)[k]'(by omega)) := by rw [hown.cellAt k (by omega)]; exact List.getElem?_eq_getElem (by omega)
      have hf := hown.frozenAt k
      have hs := hown.stored k (.int .i64 (m + k))
      rw [marked_set m (by omega)] at hs
      have HS := Lib.hid hs; clear hs
      generalize (marked m k vs)[k]'(by omega) = old at hc
      go_wp2
      go_roundw
      case rel => exact ⟨k + 1, by omega, by go_num, by go_num, HS.out.1, grown_trans hg HS.out.2⟩
      case measure => simp [intOf]; omega
    · go_wp2
      go_ret
      obtain rfl : k = n := by omega
      exact ⟨rfl, by rw [marked_all m hl] at hown; exact hown, hg⟩

set_option maxHeartbeats 1000000 in
theorem heldIntS (A : Option Addr) (n c : Nat) (m : Int) (w : World) (h : Ints w A n (marks m n)) (hn : (n : Int) ≤ 1048576) (hm : 0 ≤ m ∧ m ≤ 1152921504606846976) :
    Calls Try.prog 17 #[.slice A n c, .int .i64 m] w fun e w' => e = .returned (.int .i64 (m + n)) ∧ w = w' := by
  go_enter Try.func17, Try.ntmps17
  go_wp2
  go_loop [1, 5] (fun u v => ∃ k : Nat, (k : Int) ≤ n ∧ u = .int .i64 (m + k) ∧ v = .int .i64 k) (fun _ v => n - (intOf v).toNat)
  case atStart => exact ⟨0, by omega, by simp, rfl⟩
  case round =>
    obtain ⟨k, hk, rfl, rfl⟩ := hrel
    by_cases hlt : (k : Int) < n
    · obtain ⟨b, o, rfl, hbs, hc⟩ := h.at_ (k := k) (by omega)
      rw [marks_at m (by omega)] at hc
      have hn2 : (m + (k : Int) != m + (k : Int)) = false := by simp
      go_wp2
      go_round
      case rel => exact ⟨k + 1, by omega, by go_num, by go_num⟩
      case measure => simp [intOf]; omega
    · go_wp2
      go_ret
      obtain rfl : k = n := by omega
      exact ⟨rfl, rfl⟩
end Go.Proofs.Ytaclpilehlednaa
