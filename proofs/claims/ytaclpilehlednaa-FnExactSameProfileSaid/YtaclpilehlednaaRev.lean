/- A copy and a reverse of a list: what the program's, the reference's and the library's functions compute. -/
import Derived.Test.YtaclpilehlednaaRank2
import Derived.Test.YtaclpilehlednaaAppend
import Derived.Lib.SliceRun
namespace Go.Proofs.Ytaclpilehlednaa
open Go.RowKit
set_option maxRecDepth 100000

set_option maxHeartbeats 1000000 in
theorem libClone (A : Option Addr) (n c : Nat) (xs : List Int) (w : World) (h : Ints w A n xs) (hn : (n : Int) ≤ 1048576) :
    Calls Try.prog 51 #[.slice A n c] w fun e w' => ∃ A' c', e = .returned (.slice A' n c') ∧ Own w' w.heap.size A' n c' xs ∧ Below w.heap.size w w' := by
  cases A with
  | none =>
    obtain rfl := h.none_zero
    obtain rfl := h.empty
    have hq := Lib.run_eql_slice_nil (P := Try.prog) w 22 3 none 0 c 0 0 Try.underlying22
    go_enter Try.func51, Try.ntmps51
    go_wp2
    go_ret
    exact ⟨none, 0, rfl, own_nil _ _, Below.refl _ _⟩
  | some ad =>
    have hq := Lib.run_eql_slice_nil (P := Try.prog) w 22 3 (some ad) n c 0 0 Try.underlying22
    have hb : Below w.heap.size w (w.alloc (.cells #[] 3)) := (Below.refl _ _).alloc (Nat.le_refl _) _
    have he := own_empty w (Nat.le_refl w.heap.size)
    go_enter Try.func51, Try.ntmps51
    go_wp2_with (first | (at_builtin; refine wpList_ap _ rfl _ _ rfl w.heap.size (some ⟨w.heap.size, 0, none⟩) 0 0 [] rfl he (some ad) n c xs rfl (h.alloc _) (by omega) (by simp) ?_; intro A' c' w3 hown' hg hblk))
    rw [Nat.zero_add, List.nil_append] at hown'
    go_ret
    exact ⟨A', c', rfl, hown', below_ap hb he hg (by simp)⟩

/-- What stands after k swaps from both ends, j the right one. -/
def revK (xs : List Int) (k j : Nat) : List Int := (List.range xs.length).map fun t => if t < k ∨ j < t then nth xs (xs.length - 1 - t) else nth xs t
theorem revK_len (xs : List Int) (k j : Nat) : (revK xs k j).length = xs.length := by simp [revK]
theorem revK_at (xs : List Int) (k j : Nat) {t : Nat} (h : t < xs.length) : nth (revK xs k j) t = if t < k ∨ j < t then nth xs (xs.length - 1 - t) else nth xs t := by simp [nth, List.getD, revK, h]
theorem ext_nth {xs ys : List Int} (hl : xs.length = ys.length) (h : ∀ t, t < xs.length → nth xs t = nth ys t) : xs = ys := by
  apply List.ext_getElem hl
  intro t h1 h2
  have := h t h1
  rwa [nth_get h1, nth_get h2] at this
theorem nth_set {xs : List Int} {k : Nat} (hk : k < xs.length) (v : Int) (t : Nat) : nth (xs.set k v) t = if t = k then v else nth xs t := by
  unfold nth
  simp only [List.getD, List.getElem?_set]
  by_cases e : k = t
  · subst e; simp [hk]
  · rw [if_neg e, if_neg (fun h => e h.symm)]
theorem revK_start {xs : List Int} {j : Nat} (h : j + 1 = xs.length) : revK xs 0 j = xs := by
  apply ext_nth (revK_len _ _ _)
  intro t ht
  rw [revK_len] at ht
  rw [revK_at _ _ _ ht, if_neg (by omega)]
theorem revK_step {xs : List Int} {k j : Nat} (h : k + j + 1 = xs.length) (hk : k < j) : ((revK xs k j).set k (nth xs j)).set j (nth xs k) = revK xs (k + 1) (j - 1) := by
  apply ext_nth (by simp [revK_len])
  intro t ht
  simp only [List.length_set, revK_len] at ht
  rw [nth_set (by simp [revK_len]; omega), nth_set (by simp [revK_len]; omega), revK_at _ _ _ ht, revK_at _ _ _ ht]
  by_cases e1 : t = j
  · subst e1
    rw [if_pos rfl, if_pos (by omega)]
    congr 1; omega
  · rw [if_neg e1]
    by_cases e2 : t = k
    · subst e2
      rw [if_pos rfl, if_pos (by omega)]
      congr 1; omega
    · rw [if_neg e2]
      by_cases e3 : t < k ∨ j < t
      · rw [if_pos e3, if_pos (by omega)]
      · rw [if_neg e3, if_neg (by omega)]
theorem revK_end {xs : List Int} {k j : Nat} (h : k + j + 1 = xs.length) (hk : j ≤ k) : revK xs k j = xs.reverse := by
  apply ext_nth (by simp [revK_len])
  intro t ht
  rw [revK_len] at ht
  rw [revK_at _ _ _ ht, nth_get (xs := xs.reverse) (by simpa using ht), List.getElem_reverse]
  by_cases e : t < k ∨ j < t
  · rw [if_pos e, nth_get (by omega)]
  · rw [if_neg e, nth_get ht]
    congr 1; omega
theorem rev_mid {xs : List Int} {k j t : Nat} (h : k + j + 1 = xs.length) (h1 : k ≤ t) (h2 : t ≤ j) : nth (revK xs k j) t = nth xs t := by
  rw [revK_at _ _ _ (by omega), if_neg (by omega)]
theorem iv_set (xs : List Int) (k : Nat) (v : Int) : (iv xs).set k (.int .i64 v) = iv (xs.set k v) := by simp [iv, List.map_set]

/-- A store into an own row. -/
theorem own_store {w : World} {base g n c : Nat} {xs : List Int} (h : Own w base (some ⟨g, 0, none⟩) n c xs) (k : Nat) (v : Int) :
    Own (w.setCell ⟨g, k, none⟩ (.int .i64 v)) base (some ⟨g, 0, none⟩) n c (xs.set k v) ∧ w.grownBy (w.setCell ⟨g, k, none⟩ (.int .i64 v)) (some g) := by
  have := World.ownsRow.stored h k (.int .i64 v)
  rw [iv_set] at this
  exact this
theorem own_cell {w : World} {base g n c : Nat} {xs : List Int} (h : Own w base (some ⟨g, 0, none⟩) n c xs) {k : Nat} (hk : k < n) : w.cell? ⟨g, k, none⟩ = some (.int .i64 (nth xs k)) := by
  rw [World.ownsRow.cellAt h k (by omega)]
  have hl : xs.length = n := by have := h.1; rw [iv_len] at this; omega
  exact iv_at (by omega)
theorem own_frozen {w : World} {base g n c : Nat} {xs : List Int} (h : Own w base (some ⟨g, 0, none⟩) n c xs) (k : Nat) : w.frozen? ⟨g, k, none⟩ = false := World.ownsRow.frozenAt h k
theorem own_drew {w : World} {base : Nat} {A : Option Addr} {n c : Nat} {xs : List Int} (h : Own w base A n c xs) : Own w.drew base A n c xs := h
theorem own_drewN {w : World} {base : Nat} {A : Option Addr} {n c : Nat} {xs : List Int} (h : Own w base A n c xs) (k : Nat) : Own (w.drewN k) base A n c xs := h
theorem grown_drew {a w : World} {row : Option Nat} (h : a.grownBy w row) : a.grownBy w.drew row := ⟨h.os, h.tape, h.output, h.size, h.block⟩
theorem own_len {w : World} {base : Nat} {A : Option Addr} {n c : Nat} {xs : List Int} (h : Own w base A n c xs) : xs.length = n := by have := h.1; rw [iv_len] at this; omega

set_option maxHeartbeats 2000000 in
theorem libReverse (A : Option Addr) (n c base : Nat) (xs : List Int) (w : World) (h : Own w base A n c xs) (hn : (n : Int) ≤ 1048576) :
    Calls Try.prog 59 #[.slice A n c] w fun e w' => e = .returned (.tuple #[]) ∧ Own w' base A n c xs.reverse ∧ w.grownBy w' (A.map (·.block)) := by
  have hl := own_len h
  rcases n with _ | m
  · obtain rfl : xs = [] := List.eq_nil_of_length_eq_zero hl
    go_enter Try.func59, Try.ntmps59
    go_wp2
    go_loopw [2, 3] (fun u v wr => u = .int .i64 0 ∧ v = .int .i64 (-1) ∧ w = wr) (fun _ _ _ => 0)
    case atStart => exact ⟨rfl, rfl, rfl⟩
    case round =>
      obtain ⟨rfl, rfl, rfl⟩ := hrel
      go_wp2
      go_end0
      exact ⟨rfl, h, World.grownBy.refl _ _⟩
  · obtain ⟨g, rfl, hb0, hgs0⟩ := own_form h (by omega)
    have HL := Lib.hid hl; clear hl
    go_enter Try.func59, Try.ntmps59
    go_wp2
    go_loopw [2, 3] (fun u v wr => ∃ k j : Nat, k + j ≤ m ∧ m ≤ k + j ∧ k ≤ j + 1 ∧ u = .int .i64 k ∧ v = .int .i64 j ∧ Own wr base (some ⟨g, 0, none⟩) (m + 1) c (revK xs k j) ∧ w.grownBy wr (some g)) (fun u _ _ => m + 1 - (intOf u).toNat)
    case atStart => exact ⟨0, m, by omega, by omega, by omega, rfl, by simp, by rw [revK_start HL.out.symm]; exact h, World.grownBy.refl _ _⟩
    case round =>
      obtain ⟨k, j, hk1, hk2, hk3, rfl, rfl, hown, hg⟩ := hrel
      have hkl : k + j + 1 = xs.length := by rw [HL.out]; omega
      have HK := Lib.hid hkl; clear hkl
      by_cases hlt : (k : Int) < j
      · have c1 := own_cell hown (k := k) (by omega)
        have c2 := own_cell hown (k := j) (by omega)
        have f1 := own_frozen hown k
        have f2 := own_frozen hown j
        rw [rev_mid HK.out (Nat.le_refl _) (by omega)] at c1
        rw [rev_mid HK.out (by omega) (Nat.le_refl _)] at c2
        have hkj : k ≠ j := by omega
        have hjk : j ≠ k := by omega
        go_wp2
        go_region
        go_wp2
        go_roundw
        case rel =>
          have h1 := own_store hown k (nth xs j)
          have h2 := own_store h1.1 j (nth xs k)
          rw [revK_step HK.out (by omega)] at h2
          exact ⟨k + 1, j - 1, by omega, by omega, by omega, by go_num, by go_num, own_drew h2.1, grown_drew (grown_trans hg (grown_trans h1.2 h2.2))⟩
        case measure => simp [intOf]; omega
      · go_wp2
        go_end0
        exact ⟨rfl, by rw [← revK_end HK.out (by omega)]; exact hown, hg⟩

set_option maxHeartbeats 1000000 in
theorem implReverseRanking (A : Option Addr) (n c : Nat) (xs : List Int) (w : World) (h : Ints w A n xs) (hn : (n : Int) ≤ 1048576) :
    Calls Try.prog 23 #[.slice A n c] w fun e w' => ∃ A' c', e = .returned (.slice A' n c') ∧ Own w' w.heap.size A' n c' xs.reverse ∧ Below w.heap.size w w' := by
  go_enter Try.func23, Try.ntmps23
  go_wp2_with fail
  refine (libClone _ _ _ xs _ h hn).mono ?_; rintro e w1 ⟨A1, c1, rfl, o, b⟩
  go_wp2_with fail
  refine (libReverse _ _ _ _ xs _ o hn).mono ?_; rintro e w2 ⟨rfl, o2, g⟩
  go_wp2_with fail
  go_ret
  exact ⟨A1, c1, rfl, o2, below_ap b o g b.size⟩

theorem rev_take {xs : List Int} {l p : Nat} (h : l + p + 1 = xs.length) : xs.reverse.take (l + 1) = xs.reverse.take l ++ [nth xs p] := by
  have hlt : l < xs.reverse.length := by rw [List.length_reverse]; omega
  rw [List.take_succ_eq_append_getElem hlt, List.getElem_reverse, nth_get (by omega)]
  congr 3; omega

end Go.Proofs.Ytaclpilehlednaa
