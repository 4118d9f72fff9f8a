/- The three kinds of weights: what the program's and the reference's functions compute. -/
import Derived.Test.YtgonkppphaoapaaRank2
import Derived.Test.YtgonkppphaoapaaAppend
import Derived.Test.YtgonkppphaoapaaPlainW
namespace Go.Proofs.Ytgonkppphaoapaa
open Go.RowKit

set_option maxHeartbeats 400000 in
theorem plurClo (m p : Int) (w : World) (_h1 : 1 ≤ m ∧ m ≤ 5) (h2 : 0 ≤ p ∧ p ≤ 5) :
    Calls Try.prog 71 #[.int .i64 p] w fun e w' => e = .returned (.int .i64 (max 0 (1 - p))) ∧ w = w' := by
  go_enter Try.func71, Try.ntmps71
  go_wp2
  all_goals
    go_ret
    exact ⟨ret_int (by omega), rfl⟩

set_option maxHeartbeats 1000000 in
theorem plurOf (m : Int) (w : World) :
    Calls Try.prog 70 #[.int .i64 m, .func (.func 71) #[] #[]] w fun e w' => ∃ A c, e = .returned (.slice A (wn m) c) ∧ Own w' w.heap.size A (wn m) c (plurP m (wn m)) ∧ Below w.heap.size w w' := by
  by_cases h1 : 1 ≤ m ∧ m ≤ 5
  · have hin := inB_true h1
    have hwn := Lib.hid (wn_yes h1)
    obtain ⟨n, hn⟩ : ∃ n : Nat, n = wn m := ⟨_, rfl⟩
    rw [← hn] at hwn ⊢
    clear hn
    obtain rfl : m = (n : Int) := hwn.out.symm
    clear hwn
    obtain ⟨h1a, h1b⟩ := h1
    go_enter Try.func70, Try.ntmps70
    go_wp2_with fail
    refine (implWithin _ _ _ _).mono ?_; rintro e w1 ⟨rfl, rfl⟩
    go_wp2_with fail
    go_loopw [5, 11] (fun u v wr => ∃ (k : Nat) (A : Option Addr) (c : Nat), (k : Int) ≤ n ∧ u = .slice A k c ∧ v = .int .i64 k ∧ Own wr w.heap.size A k c (plurP n k) ∧ Below w.heap.size w wr) (fun _ v _ => n - (intOf v).toNat)
    case atStart => exact ⟨0, none, 0, by omega, rfl, rfl, own_nil _ _, Below.refl _ _⟩
    case round =>
      obtain ⟨k, A, c, hk, rfl, rfl, hown, hb'⟩ := hrel
      by_cases hlt : (k : Int) < n
      · have hsz := hb'.size
        go_wp2_with fail
        refine (plurClo (n : Int) _ _ ⟨h1a, h1b⟩ ⟨by omega, by omega⟩).mono ?_; rintro e w1 ⟨rfl, rfl⟩
        go_wp2_with (first | (at_builtin; refine wpList_ap _ rfl _ _ rfl w.heap.size A k c (plurP n k) rfl (own_alloc hown _) (some ⟨wr.heap.size, 0, none⟩) 1 1 [max 0 (1 - (k : Int))] rfl (ints_one wr _ _) (by omega) (by simp; omega) ?_; intro A' c' w3 hown' hg hblk))
        rw [← plur_snoc] at hown'
        go_roundw
        case rel => exact ⟨k + 1, A', c', by omega, rfl, by go_num, hown', below_ap (hb'.alloc hsz _) (own_alloc hown _) hg (by simp; omega)⟩
        case measure => simp [intOf]; omega
      · obtain rfl : k = n := by omega
        go_wp2
        go_ret
        exact ⟨A, c, rfl, hown, hb'⟩
  · have hin := inB_false h1
    rw [wn_no h1, plur_zero]
    go_enter Try.func70, Try.ntmps70
    go_wp2_with fail
    refine (implWithin _ _ _ _).mono ?_; rintro e w1 ⟨rfl, rfl⟩
    go_wp2_with fail
    go_ret
    exact ⟨none, 0, rfl, own_nil _ _, Below.refl _ _⟩

set_option maxHeartbeats 400000 in
theorem implPluralityWeights (m : Int) (w : World) :
    Calls Try.prog 31 #[.int .i64 m] w fun e w' => ∃ A c, e = .returned (.slice A (wn m) c) ∧ Own w' w.heap.size A (wn m) c (plurP m (wn m)) ∧ Below w.heap.size w w' := by
  go_enter Try.func31, Try.ntmps31
  go_wp2_with fail
  refine (plurOf m _).mono ?_; rintro e w1 ⟨A, c, rfl, o, b⟩
  go_wp2_with fail
  go_ret
  exact ⟨A, c, rfl, o, b⟩

set_option maxHeartbeats 400000 in
theorem bordaClo (m p : Int) (w : World) (b : Nat) (hm : w.cell? ⟨b, 0, none⟩ = some (.int .i64 m)) (h1 : 1 ≤ m ∧ m ≤ 5) (h2 : 0 ≤ p ∧ p ≤ 5) :
    Calls Try.prog 72 #[.int .i64 p, .pointer (some ⟨b, 0, none⟩)] w fun e w' => e = .returned (.int .i64 (m - 1 - p)) ∧ w = w' := by
  go_enter Try.func72, Try.ntmps72
  go_wp2
  all_goals
    go_ret
    exact ⟨ret_int (by omega), rfl⟩

set_option maxHeartbeats 1000000 in
theorem bordaOf (m : Int) (w : World) (b : Nat) (hm : w.cell? ⟨b, 0, none⟩ = some (.int .i64 m)) (hb : b < w.heap.size) :
    Calls Try.prog 70 #[.int .i64 m, .func (.func 72) #[] #[.pointer (some ⟨b, 0, none⟩)]] w fun e w' => ∃ A c, e = .returned (.slice A (wn m) c) ∧ Own w' w.heap.size A (wn m) c (bordaP m (wn m)) ∧ Below w.heap.size w w' := by
  by_cases h1 : 1 ≤ m ∧ m ≤ 5
  · have hin := inB_true h1
    have hwn := Lib.hid (wn_yes h1)
    obtain ⟨n, hn⟩ : ∃ n : Nat, n = wn m := ⟨_, rfl⟩
    rw [← hn] at hwn ⊢
    clear hn
    obtain rfl : m = (n : Int) := hwn.out.symm
    clear hwn
    obtain ⟨h1a, h1b⟩ := h1
    go_enter Try.func70, Try.ntmps70
    go_wp2_with fail
    refine (implWithin _ _ _ _).mono ?_; rintro e w1 ⟨rfl, rfl⟩
    go_wp2_with fail
    go_loopw [5, 11] (fun u v wr => ∃ (k : Nat) (A : Option Addr) (c : Nat), (k : Int) ≤ n ∧ u = .slice A k c ∧ v = .int .i64 k ∧ Own wr w.heap.size A k c (bordaP n k) ∧ Below w.heap.size w wr) (fun _ v _ => n - (intOf v).toNat)
    case atStart => exact ⟨0, none, 0, by omega, rfl, rfl, own_nil _ _, Below.refl _ _⟩
    case round =>
      obtain ⟨k, A, c, hk, rfl, rfl, hown, hb'⟩ := hrel
      by_cases hlt : (k : Int) < n
      · have hsz := hb'.size
        go_wp2_with fail
        refine (bordaClo (n : Int) _ _ b ((hb'.cell (p := ⟨b, 0, none⟩) hb).trans hm) ⟨h1a, h1b⟩ ⟨by omega, by omega⟩).mono ?_; rintro e w1 ⟨rfl, rfl⟩
        go_wp2_with (first | (at_builtin; refine wpList_ap _ rfl _ _ rfl w.heap.size A k c (bordaP n k) rfl (own_alloc hown _) (some ⟨wr.heap.size, 0, none⟩) 1 1 [(n : Int) - 1 - (k : Int)] rfl (ints_one wr _ _) (by omega) (by simp; omega) ?_; intro A' c' w3 hown' hg hblk))
        rw [← borda_snoc] at hown'
        go_roundw
        case rel => exact ⟨k + 1, A', c', by omega, rfl, by go_num, hown', below_ap (hb'.alloc hsz _) (own_alloc hown _) hg (by simp; omega)⟩
        case measure => simp [intOf]; omega
      · obtain rfl : k = n := by omega
        go_wp2
        go_ret
        exact ⟨A, c, rfl, hown, hb'⟩
  · have hin := inB_false h1
    rw [wn_no h1, borda_zero]
    go_enter Try.func70, Try.ntmps70
    go_wp2_with fail
    refine (implWithin _ _ _ _).mono ?_; rintro e w1 ⟨rfl, rfl⟩
    go_wp2_with fail
    go_ret
    exact ⟨none, 0, rfl, own_nil _ _, Below.refl _ _⟩

set_option maxHeartbeats 400000 in
theorem implBordaWeights (m : Int) (w : World) :
    Calls Try.prog 35 #[.int .i64 m] w fun e w' => ∃ A c, e = .returned (.slice A (wn m) c) ∧ Own w' w.heap.size A (wn m) c (bordaP m (wn m)) ∧ Below w.heap.size w w' := by
  go_enter Try.func35, Try.ntmps35
  go_wp2_with fail
  refine (bordaOf m _ w.heap.size (by simp [go_sem]) (by simp)).mono ?_; rintro e w1 ⟨A, c, rfl, o, b⟩
  go_wp2_with fail
  go_ret
  exact ⟨A, c, rfl, own_mono o (by simp), ((Below.refl _ _).alloc (Nat.le_refl _) _).trans (b.mono (by simp))⟩

set_option maxHeartbeats 400000 in
theorem vetoClo (m p : Int) (w : World) (b : Nat) (hm : w.cell? ⟨b, 0, none⟩ = some (.int .i64 m)) (h1 : 1 ≤ m ∧ m ≤ 5) (h2 : 0 ≤ p ∧ p ≤ 5) :
    Calls Try.prog 73 #[.int .i64 p, .pointer (some ⟨b, 0, none⟩)] w fun e w' => e = .returned (.int .i64 (min 1 (m - 1 - p))) ∧ w = w' := by
  go_enter Try.func73, Try.ntmps73
  go_wp2
  all_goals
    go_ret
    exact ⟨ret_int (by omega), rfl⟩

set_option maxHeartbeats 1000000 in
theorem vetoOf (m : Int) (w : World) (b : Nat) (hm : w.cell? ⟨b, 0, none⟩ = some (.int .i64 m)) (hb : b < w.heap.size) :
    Calls Try.prog 70 #[.int .i64 m, .func (.func 73) #[] #[.pointer (some ⟨b, 0, none⟩)]] w fun e w' => ∃ A c, e = .returned (.slice A (wn m) c) ∧ Own w' w.heap.size A (wn m) c (vetoP m (wn m)) ∧ Below w.heap.size w w' := by
  by_cases h1 : 1 ≤ m ∧ m ≤ 5
  · have hin := inB_true h1
    have hwn := Lib.hid (wn_yes h1)
    obtain ⟨n, hn⟩ : ∃ n : Nat, n = wn m := ⟨_, rfl⟩
    rw [← hn] at hwn ⊢
    clear hn
    obtain rfl : m = (n : Int) := hwn.out.symm
    clear hwn
    obtain ⟨h1a, h1b⟩ := h1
    go_enter Try.func70, Try.ntmps70
    go_wp2_with fail
    refine (implWithin _ _ _ _).mono ?_; rintro e w1 ⟨rfl, rfl⟩
    go_wp2_with fail
    go_loopw [5, 11] (fun u v wr => ∃ (k : Nat) (A : Option Addr) (c : Nat), (k : Int) ≤ n ∧ u = .slice A k c ∧ v = .int .i64 k ∧ Own wr w.heap.size A k c (vetoP n k) ∧ Below w.heap.size w wr) (fun _ v _ => n - (intOf v).toNat)
    case atStart => exact ⟨0, none, 0, by omega, rfl, rfl, own_nil _ _, Below.refl _ _⟩
    case round =>
      obtain ⟨k, A, c, hk, rfl, rfl, hown, hb'⟩ := hrel
      by_cases hlt : (k : Int) < n
      · have hsz := hb'.size
        go_wp2_with fail
        refine (vetoClo (n : Int) _ _ b ((hb'.cell (p := ⟨b, 0, none⟩) hb).trans hm) ⟨h1a, h1b⟩ ⟨by omega, by omega⟩).mono ?_; rintro e w1 ⟨rfl, rfl⟩
        go_wp2_with (first | (at_builtin; refine wpList_ap _ rfl _ _ rfl w.heap.size A k c (vetoP n k) rfl (own_alloc hown _) (some ⟨wr.heap.size, 0, none⟩) 1 1 [min 1 ((n : Int) - 1 - (k : Int))] rfl (ints_one wr _ _) (by omega) (by simp; omega) ?_; intro A' c' w3 hown' hg hblk))
        rw [← veto_snoc] at hown'
        go_roundw
        case rel => exact ⟨k + 1, A', c', by omega, rfl, by go_num, hown', below_ap (hb'.alloc hsz _) (own_alloc hown _) hg (by simp; omega)⟩
        case measure => simp [intOf]; omega
      · obtain rfl : k = n := by omega
        go_wp2
        go_ret
        exact ⟨A, c, rfl, hown, hb'⟩
  · have hin := inB_false h1
    rw [wn_no h1, veto_zero]
    go_enter Try.func70, Try.ntmps70
    go_wp2_with fail
    refine (implWithin _ _ _ _).mono ?_; rintro e w1 ⟨rfl, rfl⟩
    go_wp2_with fail
    go_ret
    exact ⟨none, 0, rfl, own_nil _ _, Below.refl _ _⟩

set_option maxHeartbeats 400000 in
theorem implVetoWeights (m : Int) (w : World) :
    Calls Try.prog 37 #[.int .i64 m] w fun e w' => ∃ A c, e = .returned (.slice A (wn m) c) ∧ Own w' w.heap.size A (wn m) c (vetoP m (wn m)) ∧ Below w.heap.size w w' := by
  go_enter Try.func37, Try.ntmps37
  go_wp2_with fail
  refine (vetoOf m _ w.heap.size (by simp [go_sem]) (by simp)).mono ?_; rintro e w1 ⟨A, c, rfl, o, b⟩
  go_wp2_with fail
  go_ret
  exact ⟨A, c, rfl, own_mono o (by simp), ((Below.refl _ _).alloc (Nat.le_refl _) _).trans (b.mono (by simp))⟩

set_option maxHeartbeats 1000000 in
theorem specPluralityWeights (m : Int) (w : World) :
    Calls Try.prog 30 #[.int .i64 m] w fun e w' => ∃ A c, e = .returned (.slice A (wn m) c) ∧ Own w' w.heap.size A (wn m) c (plurP m (wn m)) ∧ Below w.heap.size w w' := by
  by_cases h1 : 1 ≤ m ∧ m ≤ 5
  · have hin := inB_true h1
    have hwn := Lib.hid (wn_yes h1)
    obtain ⟨n, hn⟩ : ∃ n : Nat, n = wn m := ⟨_, rfl⟩
    rw [← hn] at hwn ⊢
    clear hn
    obtain rfl : m = (n : Int) := hwn.out.symm
    clear hwn
    obtain ⟨h1a, h1b⟩ := h1
    have hmk := run_make_row' (P := Try.prog) 22 3 (.int .i64 0) 8 Try.underlying22 infoInt rfl .i64 .i64 n (by omega) (by omega)
    have hst : (w.alloc (.cells (madeCells #[.int .i64 0] n) 3)).rowIs w.heap.size 3 n (fun _ => .int .i64 0) := World.rowIs_made w (.int .i64 0) n 3
    have hbl : Below w.heap.size w (w.alloc (.cells (madeCells #[.int .i64 0] n) 3)) := (Below.refl _ _).alloc (Nat.le_refl _) _
    have hc := hst.cell (i := 0) (by omega)
    have hf := hst.frozen 0
    have HS := Lib.hid hst; clear hst
    have hp : 0 < n := by omega
    have hp2 : (0 : Int) < n := by omega
    go_enter Try.func30, Try.ntmps30
    go_wp2_with fail
    refine (specIn _ _ _ _).mono ?_; rintro e w1 ⟨rfl, rfl⟩
    go_wp2
    go_ret
    have hw : w.alloc (.cells ((madeCells #[.int .i64 0] n).setIfInBounds 0 (.int .i64 1)) 3) = (w.alloc (.cells (madeCells #[.int .i64 0] n) 3)).setCell ⟨w.heap.size, 0, none⟩ (.int .i64 1) := by simp [go_sem]
    rw [hw]
    refine ⟨some ⟨w.heap.size, 0, none⟩, n, rfl, own_of_row (HS.out.set 0 _) (Nat.le_refl _) (by simp only [maxLen]; omega) (by rw [iv_len, plur_len]) (fun j hj => ?_), hbl.setCell (Nat.le_refl _) _⟩
    rw [plur_at _ hj]
    by_cases e : j = 0
    · subst e; rfl
    · rw [if_neg e, show max 0 (1 - (j : Int)) = 0 by omega]
  · have hin := inB_false h1
    rw [wn_no h1, plur_zero]
    go_enter Try.func30, Try.ntmps30
    go_wp2_with fail
    refine (specIn _ _ _ _).mono ?_; rintro e w1 ⟨rfl, rfl⟩
    go_wp2_with fail
    go_ret
    exact ⟨none, 0, rfl, own_nil _ _, Below.refl _ _⟩

set_option maxHeartbeats 1000000 in
theorem specVetoWeights (m : Int) (w : World) :
    Calls Try.prog 36 #[.int .i64 m] w fun e w' => ∃ A c, e = .returned (.slice A (wn m) c) ∧ Own w' w.heap.size A (wn m) c (vetoP m (wn m)) ∧ Below w.heap.size w w' := by
  by_cases h1 : 1 ≤ m ∧ m ≤ 5
  · have hin := inB_true h1
    have hwn := Lib.hid (wn_yes h1)
    obtain ⟨n, hn⟩ : ∃ n : Nat, n = wn m := ⟨_, rfl⟩
    rw [← hn] at hwn ⊢
    clear hn
    obtain rfl : m = (n : Int) := hwn.out.symm
    clear hwn
    obtain ⟨h1a, h1b⟩ := h1
    have hmk := run_make_row' (P := Try.prog) 22 3 (.int .i64 0) 8 Try.underlying22 infoInt rfl .i64 .i64 n (by omega) (by omega)
    go_enter Try.func36, Try.ntmps36
    go_wp2_with fail
    refine (specIn _ _ _ _).mono ?_; rintro e w1 ⟨rfl, rfl⟩
    go_wp2_with fail
    have HM := Lib.hid hmk; clear hmk
    have hst : (w.alloc (.cells (madeCells #[.int .i64 0] n) 3)).rowIs w.heap.size 3 n (fun _ => .int .i64 0) := World.rowIs_made w (.int .i64 0) n 3
    have hbl : Below w.heap.size w (w.alloc (.cells (madeCells #[.int .i64 0] n) 3)) := (Below.refl _ _).alloc (Nat.le_refl _) _
    generalize w.alloc (.cells (madeCells #[.int .i64 0] n) 3) = W at *
    go_loopw [4] (fun u wr => ∃ k : Nat, (k : Int) ≤ n - 1 ∧ u = .int .i64 k ∧ wr.rowIs w.heap.size 3 n (fun j => .int .i64 (if j < k then 1 else 0)) ∧ Below w.heap.size w wr) (fun u _ => n - (intOf u).toNat)
    case atStart => exact ⟨0, by omega, rfl, hst.congr fun j _ => by simp, hbl⟩
    case round =>
      obtain ⟨k, hk, rfl, hrow, hb⟩ := hrel
      by_cases hlt : (k : Int) < (n : Int) - 1
      · have hc := hrow.cell (i := k) (by omega)
        have hf := hrow.frozen k
        have hlt2 : (k : Int) < (n : Int) := by omega
        go_wp2
        go_roundw
        case rel =>
          refine ⟨k + 1, by omega, by go_num, (hrow.set k _).congr fun j _ => ?_, hb.setCell (Nat.le_refl _) _⟩
          by_cases e : j = k
          · rw [if_pos e, if_pos (by omega)]
          · rw [if_neg e]
            by_cases e2 : j < k
            · rw [if_pos e2, if_pos (by omega)]
            · rw [if_neg e2, if_neg (by omega)]
        case measure => simp [intOf]; omega
      · go_wp2
        go_ret
        refine ⟨some ⟨w.heap.size, 0, none⟩, n, rfl, own_of_row hrow (Nat.le_refl _) (by simp only [maxLen]; omega) (by rw [iv_len, veto_len]) (fun j hj => ?_), hb⟩
        rw [veto_at _ hj]
        by_cases e : j < k
        · rw [if_pos e, show min 1 ((n : Int) - 1 - (j : Int)) = 1 by omega]
        · rw [if_neg e, show min 1 ((n : Int) - 1 - (j : Int)) = 0 by omega]
  · have hin := inB_false h1
    rw [wn_no h1, veto_zero]
    go_enter Try.func36, Try.ntmps36
    go_wp2_with fail
    refine (specIn _ _ _ _).mono ?_; rintro e w1 ⟨rfl, rfl⟩
    go_wp2_with fail
    go_ret
    exact ⟨none, 0, rfl, own_nil _ _, Below.refl _ _⟩

set_option maxHeartbeats 1000000 in
theorem specBordaWeights (m : Int) (w : World) :
    Calls Try.prog 34 #[.int .i64 m] w fun e w' => ∃ A c, e = .returned (.slice A (wn m) c) ∧ Own w' w.heap.size A (wn m) c (bordaP m (wn m)) ∧ Below w.heap.size w w' := by
  by_cases h1 : 1 ≤ m ∧ m ≤ 5
  · have hin := inB_true h1
    have hwn := Lib.hid (wn_yes h1)
    obtain ⟨n, hn⟩ : ∃ n : Nat, n = wn m := ⟨_, rfl⟩
    rw [← hn] at hwn ⊢
    clear hn
    obtain rfl : m = (n : Int) := hwn.out.symm
    clear hwn
    obtain ⟨h1a, h1b⟩ := h1
    go_enter Try.func34, Try.ntmps34
    go_wp2_with fail
    refine (specIn _ _ _ _).mono ?_; rintro e w1 ⟨rfl, rfl⟩
    go_wp2_with fail
    go_loopw [3, 4] (fun u v wr => ∃ (k : Nat) (A : Option Addr) (c : Nat), (k : Int) ≤ n ∧ u = .slice A k c ∧ v = .int .i64 ((n : Int) - 1 - k) ∧ Own wr w.heap.size A k c (bordaP n k) ∧ Below w.heap.size w wr) (fun _ v _ => (intOf v + 1).toNat)
    case atStart => exact ⟨0, some ⟨w.heap.size, 0, none⟩, 0, by omega, rfl, by simp, own_empty _ (Nat.le_refl _), (Below.refl _ _).alloc (Nat.le_refl _) _⟩
    case round =>
      obtain ⟨k, A, c, hk, rfl, rfl, hown, hb'⟩ := hrel
      by_cases hlt : 0 ≤ (n : Int) - 1 - k
      · have hsz := hb'.size
        go_wp2_with (first | (at_builtin; refine wpList_ap _ rfl _ _ rfl w.heap.size A k c (bordaP n k) rfl (own_alloc hown _) (some ⟨wr.heap.size, 0, none⟩) 1 1 [(n : Int) - 1 - (k : Int)] rfl (ints_one wr _ _) (by omega) (by simp; omega) ?_; intro A' c' w3 hown' hg hblk))
        rw [← borda_snoc] at hown'
        go_roundw
        case rel => exact ⟨k + 1, A', c', by omega, rfl, by go_num, hown', below_ap (hb'.alloc hsz _) (own_alloc hown _) hg (by simp; omega)⟩
        case measure => simp [intOf]; omega
      · obtain rfl : k = n := by omega
        go_wp2
        go_ret
        exact ⟨A, c, rfl, hown, hb'⟩
  · have hin := inB_false h1
    rw [wn_no h1, borda_zero]
    go_enter Try.func34, Try.ntmps34
    go_wp2_with fail
    refine (specIn _ _ _ _).mono ?_; rintro e w1 ⟨rfl, rfl⟩
    go_wp2_with fail
    go_ret
    exact ⟨none, 0, rfl, own_nil _ _, Below.refl _ _⟩

end Go.Proofs.Ytgonkppphaoapaa
