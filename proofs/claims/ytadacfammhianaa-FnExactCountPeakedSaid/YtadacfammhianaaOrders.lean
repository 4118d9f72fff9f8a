/- All orders of a list: what the program's functions compute. -/
import Derived.Test.YtadacfammhianaaAppendL
import Derived.Test.YtadacfammhianaaConcat
import Derived.Test.YtadacfammhianaaPlainAll
import Derived.Test.YtadacfammhianaaRange
import Derived.Deep.RegionWith
import Derived.Deep.DeepCutAuto
import Derived.Deep.DrawnRows
namespace Go.Proofs.Ytadacfammhianaa
open Go.RowKit

theorem nth_upTo {m j : Nat} (h : j < m) : nth (upTo m) j = j := by simp [nth, List.getD, upTo, h]
theorem upTo_len (m : Nat) : (upTo m).length = m := by simp [upTo]
/-- What the outer loop has gathered behind k rounds. -/
def ordK (q : Nat) (xs : List Int) (k : Nat) : List (List Int) := (List.range k).flatMap fun i => (ordP q (xs.take i ++ xs.drop (i + 1))).map fun r => nth xs i :: r
theorem ordK_succ (q : Nat) (xs : List Int) (k : Nat) : ordK q xs (k + 1) = ordK q xs k ++ (ordP q (xs.take k ++ xs.drop (k + 1))).map fun r => nth xs k :: r := by
  simp [ordK, List.range_succ]
theorem ordP_succ (q : Nat) (xs : List Int) : ordP (q + 1) xs = ordK q xs xs.length := rfl
theorem sum_const {α : Type} (c : Nat) : ∀ l : List α, (l.map fun _ => c).sum = l.length * c
  | [] => by simp
  | a :: l => by simp [sum_const c l, Nat.add_mul]; omega
def fact : Nat → Nat
  | 0 => 1
  | k + 1 => (k + 1) * fact k
theorem ord_bd : ∀ (q : Nat) (xs : List Int), q ≤ 5 → xs.length = q → (ordP q xs).length ≤ 120
  | 0, _, _, _ => by simp [ordP]
  | q + 1, xs, h, hl => by
    have key : ∀ (q : Nat) (xs : List Int), xs.length = q → (ordP q xs).length = fact q := by
      intro q
      induction q with
      | zero => intro xs _; simp [ordP, fact]
      | succ q ih =>
        intro xs hl
        simp only [ordP, List.length_flatMap, List.length_map, fact]
        have : ∀ i ∈ List.range xs.length, (ordP q (xs.take i ++ xs.drop (i + 1))).length = fact q := by
          intro i hi
          rw [List.mem_range] at hi
          apply ih
          simp
          omega
        rw [List.map_congr_left this, sum_const, List.length_range, hl]
    rw [key _ _ hl]
    have : q = 0 ∨ q = 1 ∨ q = 2 ∨ q = 3 ∨ q = 4 := by omega
    rcases this with rfl | rfl | rfl | rfl | rfl <;> decide
theorem ord_each : ∀ (q : Nat) (xs r : List Int), r ∈ ordP q xs → r.length = q
  | 0, xs, r, h => by simp [ordP] at h; simp [h]
  | q + 1, xs, r, h => by
    simp only [ordP, List.mem_flatMap, List.mem_map] at h
    obtain ⟨i, _, r', h1, rfl⟩ := h
    simp [ord_each q _ r' h1]
theorem take_map_snoc {ls : List (List Int)} {j : Nat} (f : List Int → List Int) {r : List Int} (h : ls[j]? = some r) : (ls.take (j + 1)).map f = (ls.take j).map f ++ [f r] := by
  obtain ⟨hlt, e⟩ := List.getElem?_eq_some_iff.1 h
  rw [List.take_succ_eq_append_getElem hlt, List.map_append, e]
  rfl

attribute [local go_sem ↓] Go.wp_at_zero Go.wp_at_succ
theorem hb_of {hs : List Hd} {n q : Nat} {ls : List (List Int)} (hlen : hs.length = n) (hc : cont hs = ls) (hq : ∀ r ∈ ls, r.length = q) {k : Nat} (hk : k < n) : hl hs k = q := by
  have h1 := cont_nth (hs := hs) (k := k) (by omega)
  rw [hc] at h1
  exact hq _ (List.mem_of_getElem? h1)

end Go.Proofs.Ytadacfammhianaa
