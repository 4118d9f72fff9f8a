/- Whether a list is a ranking: what the program's and the reference's functions compute. -/
import Derived.Test.YtkofjdddmpebmaaGreatDoorRank1
import Derived.Test.YtkofjdddmpebmaaGreatDoorRange
namespace Go.Proofs.YtkofjdddmpebmaaGreatDoor
open Go.RowKit

theorem infoBool : (Tryz.prog.info? 4).map (fun i => (i.zero, i.size, i.bytes)) = some (some (.bool false), 1, 1) := by kernel_rfl

set_option maxHeartbeats 400000 in
theorem libContains (A : Option Addr) (n c : Nat) (xs : List Int) (a : Int) (w : World) (h : Ints w A n xs) (hn : (n : Int) ≤ 1048576) :
    Calls Tryz.prog 64 #[.slice A n c, .int .i64 a] w fun e w' => e = .returned (.bool (decide (0 ≤ idxP xs a))) ∧ w = w' := by
  go_enter Tryz.func64, Tryz.ntmps64
  go_wp2_with fail
  refine (libIndex _ _ _ xs _ _ h hn).mono ?_; rintro e w1 ⟨rfl, rfl⟩
  go_wp2_with fail
  go_ret
  exact ⟨rfl, rfl⟩

set_option maxHeartbeats 1000000 in
theorem implRankingOk (m : Int) (A : Option Addr) (n c : Nat) (xs : List Int) (w : World) (h : Ints w A n xs) (hn : (n : Int) ≤ 1048576) (hcap : (n : Int) ≤ c) :
    Calls Tryz.prog 49 #[.int .i64 m, .slice A n c] w fun e w' => e = .returned (.bool (rankOkP m xs)) ∧ w = w' := by
  have hl := h.1
  by_cases h1 : 1 ≤ m ∧ m ≤ 5
  · by_cases h2 : (n : Int) = m
    · subst h2
      have hin := inB_true h1
      have hne : ((n : Int) != (n : Int)) = false := by simp
      have HL := Lib.hid hl; clear hl
      obtain ⟨h1a, h1b⟩ := h1
      go_enter Tryz.func49, Tryz.ntmps49
      go_wp2_with fail
      refine (implWithin _ _ _ _).mono ?_; rintro e w1 ⟨rfl, rfl⟩
      go_wp2_with fail
      go_loop [18] (fun u => ∃ k : Nat, (k : Int) ≤ n ∧ u = .int .i64 k ∧ Good n xs k) (fun u => n - (intOf u).toNat)
      case atStart => exact ⟨0, by omega, rfl, Good.zero _ _⟩
      case round =>
        obtain ⟨k, hk, rfl, hgood⟩ := hrel
        have HG := Lib.hid hgood; clear hgood
        by_cases hlt : (k : Int) < n
        · have ht := h.take (k := k) (by omega)
          obtain ⟨b, o, rfl, hb, hc⟩ := h.at_ (k := k) (by omega)
          have hkl : k < xs.length := by rw [HL.out]; omega
          have HK := Lib.hid hkl; clear hkl
          by_cases hr : 0 ≤ nth xs k ∧ nth xs k ≤ (n : Int) - 1
          · have hin2 := inB_true hr
            by_cases hd : 0 ≤ idxP (xs.take k) (nth xs k)
            · obtain ⟨i, hi, hnn⟩ := (idx_take (Nat.le_of_lt HK.out)).1 hd
              have HF := Lib.hid (rank_no4 (m := (n : Int)) HK.out hi hnn)
              clear hnn
              have hd2 : decide (0 ≤ idxP (xs.take k) (nth xs k)) = true := by simpa using hd
              go_wp2_with fail
              refine (implWithin _ _ _ _).mono ?_; rintro e w1 ⟨rfl, rfl⟩
              go_wp2_with fail
              refine (libContains _ _ _ (xs.take k) _ _ ht (by omega)).mono ?_; rintro e w1 ⟨rfl, rfl⟩
              go_wp2_with fail
              go_ret
              exact ⟨ret_bool HF.out.symm, rfl⟩
            · have hd2 : decide (0 ≤ idxP (xs.take k) (nth xs k)) = false := by simpa using hd
              have hd3 : ∀ i, i < k → nth xs i ≠ nth xs k := fun i hi e => hd ((idx_take (Nat.le_of_lt HK.out)).2 ⟨i, hi, e⟩)
              have HD := Lib.hid hd3; clear hd3
              go_wp2_with fail
              refine (implWithin _ _ _ _).mono ?_; rintro e w1 ⟨rfl, rfl⟩
              go_wp2_with fail
              refine (libContains _ _ _ (xs.take k) _ _ ht (by omega)).mono ?_; rintro e w1 ⟨rfl, rfl⟩
              go_wp2_with fail
              go_round
              case rel => exact ⟨k + 1, by omega, by go_num, HG.out.succ hr HD.out⟩
              case measure => simp [intOf]; omega
          · have hin2 := inB_false hr
            have HF := Lib.hid (rank_no3 (m := (n : Int)) HK.out hr)
            go_wp2_with fail
            refine (implWithin _ _ _ _).mono ?_; rintro e w1 ⟨rfl, rfl⟩
            go_wp2_with fail
            go_ret
            exact ⟨ret_bool HF.out.symm, rfl⟩
        · obtain rfl : k = n := by omega
          have HF := Lib.hid (rank_yes ⟨h1a, h1b⟩ (by rw [HL.out]) (by rw [HL.out]; exact HG.out))
          go_wp2
          go_ret
          exact ⟨ret_bool HF.out.symm, rfl⟩
    · have HF := Lib.hid (rank_no2 (xs := xs) (m := m) (by rw [hl]; exact h2))
      have hin := inB_true h1
      have hne : ((n : Int) != m) = true := by simpa using h2
      clear hl
      go_enter Tryz.func49, Tryz.ntmps49
      go_wp2_with fail
      refine (implWithin _ _ _ _).mono ?_; rintro e w1 ⟨rfl, rfl⟩
      go_wp2_with fail
      go_ret
      exact ⟨ret_bool HF.out.symm, rfl⟩
  · have HF := Lib.hid (rank_no1 (xs := xs) h1)
    have hin := inB_false h1
    clear hl
    go_enter Tryz.func49, Tryz.ntmps49
    go_wp2_with fail
    refine (implWithin _ _ _ _).mono ?_; rintro e w1 ⟨rfl, rfl⟩
    go_wp2_with fail
    go_ret
    exact ⟨ret_bool HF.out.symm, rfl⟩

set_option maxHeartbeats 1000000 in
theorem specRankingOk (m : Int) (A : Option Addr) (n c : Nat) (xs : List Int) (w : World) (h : Ints w A n xs) (hn : (n : Int) ≤ 1048576) :
    Calls Tryz.prog 27 #[.int .i64 m, .slice A n c] w fun e w' => e = .returned (.bool (rankOkP m xs)) ∧ Below w.heap.size w w' := by
  have hl := h.1
  by_cases h1 : 1 ≤ m ∧ m ≤ 5
  · by_cases h2 : (n : Int) = m
    · subst h2
      have hin := inB_true h1
      have hne : ((n : Int) != (n : Int)) = false := by simp
      have HL := Lib.hid hl; clear hl
      obtain ⟨h1a, h1b⟩ := h1
      have hmk := run_make_row' (P := Tryz.prog) 66 4 (.bool false) 1 Tryz.underlying66 infoBool rfl .i64 .i64 n (by omega) (by omega)
      go_enter Tryz.func27, Tryz.ntmps27
      go_wp2_with fail
      refine (specIn _ _ _ _).mono ?_; rintro e w1 ⟨rfl, rfl⟩
      go_wp2_with fail
      have HM := Lib.hid hmk; clear hmk
      have hst : (w.alloc (.cells (madeCells #[.bool false] n) 4)).rowIs w.heap.size 4 n (fun j => .bool (seenB xs 0 j)) := (World.rowIs_made w (.bool false) n 4).congr fun j _ => by simp [seenB]
      have hbl : Below w.heap.size w (w.alloc (.cells (madeCells #[.bool false] n) 4)) := (Below.refl _ _).alloc (Nat.le_refl _) _
      generalize w.alloc (.cells (madeCells #[.bool false] n) 4) = W at *
      go_loopw [21] (fun u wr => ∃ k : Nat, (k : Int) ≤ n ∧ u = .int .i64 k ∧ Good n xs k ∧ wr.rowIs w.heap.size 4 n (fun j => .bool (seenB xs k j)) ∧ Below w.heap.size w wr) (fun u _ => n - (intOf u).toNat)
      case atStart => exact ⟨0, by omega, rfl, Good.zero _ _, hst, hbl⟩
      case round =>
        obtain ⟨k, hk, rfl, hgood, hrow, hb⟩ := hrel
        have HG := Lib.hid hgood; clear hgood
        by_cases hlt : (k : Int) < n
        · obtain ⟨b, o, rfl, hbs, hc⟩ := (h.on hb).at_ (k := k) (by omega)
          have hkl : k < xs.length := by rw [HL.out]; omega
          have HK := Lib.hid hkl; clear hkl
          by_cases hr : 0 ≤ nth xs k ∧ nth xs k ≤ (n : Int) - 1
          · have hin2 := inB_true hr
            obtain ⟨hr1, hr2⟩ := hr
            have hc2 := hrow.cell (i := (nth xs k).toNat) (by omega)
            have hf2 := hrow.frozen (nth xs k).toNat
            have hi1 := hr1
            have hi2 : nth xs k < (n : Int) := by omega
            cases hs : seenB xs k (nth xs k).toNat with
            | true =>
              rw [hs] at hc2
              obtain ⟨i, hi, hnn⟩ := (seen_iff _ _ _).1 hs
              have HF := Lib.hid (rank_no4 (m := (n : Int)) HK.out hi (by rw [hnn]; omega))
              clear hnn hs
              go_wp2_with fail
              refine (specIn _ _ _ _).mono ?_; rintro e w1 ⟨rfl, rfl⟩
              go_wp2_with fail
              go_ret
              exact ⟨ret_bool HF.out.symm, hb⟩
            | false =>
              rw [hs] at hc2
              have hd3 : ∀ i, i < k → nth xs i ≠ nth xs k := fun i hi e => by
                rw [(seen_iff xs k _).2 ⟨i, hi, by omega⟩] at hs
                cases hs
              have HD := Lib.hid hd3; clear hd3 hs
              go_wp2_with fail
              refine (specIn _ _ _ _).mono ?_; rintro e w1 ⟨rfl, rfl⟩
              go_wp2_with fail
              go_roundw
              case rel => exact ⟨k + 1, by omega, by go_num, HG.out.succ ⟨hr1, hr2⟩ HD.out, (hrow.set _ _).congr fun j _ => seen_set hr1 j, hb.setCell (Nat.le_refl _) _⟩
              case measure => simp [intOf]; omega
          · have hin2 := inB_false hr
            have HF := Lib.hid (rank_no3 (m := (n : Int)) HK.out hr)
            go_wp2_with fail
            refine (specIn _ _ _ _).mono ?_; rintro e w1 ⟨rfl, rfl⟩
            go_wp2_with fail
            go_ret
            exact ⟨ret_bool HF.out.symm, hb⟩
        · obtain rfl : k = n := by omega
          have HF := Lib.hid (rank_yes ⟨h1a, h1b⟩ (by rw [HL.out]) (by rw [HL.out]; exact HG.out))
          go_wp2
          go_ret
          exact ⟨ret_bool HF.out.symm, hb⟩
    · have HF := Lib.hid (rank_no2 (xs := xs) (m := m) (by rw [hl]; exact h2))
      have hin := inB_true h1
      have hne : ((n : Int) != m) = true := by simpa using h2
      clear hl
      go_enter Tryz.func27, Tryz.ntmps27
      go_wp2_with fail
      refine (specIn _ _ _ _).mono ?_; rintro e w1 ⟨rfl, rfl⟩
      go_wp2_with fail
      go_ret
      exact ⟨ret_bool HF.out.symm, Below.refl _ _⟩
  · have HF := Lib.hid (rank_no1 (xs := xs) h1)
    have hin := inB_false h1
    clear hl
    go_enter Tryz.func27, Tryz.ntmps27
    go_wp2_with fail
    refine (specIn _ _ _ _).mono ?_; rintro e w1 ⟨rfl, rfl⟩
    go_wp2_with fail
    go_ret
    exact ⟨ret_bool HF.out.symm, Below.refl _ _⟩

end Go.Proofs.YtkofjdddmpebmaaGreatDoor
