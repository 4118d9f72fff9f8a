/- Numbers as decimal text: what the reference's function computes. -/
import Derived.Test.YtkofjdddmpebmaaGreatDoorDec
import Derived.Test.YtkofjdddmpebmaaGreatDoorInts
import Derived.Deep.RegionHeld3
import Derived.Deep.RegionHeldLaw
namespace Go.Proofs.YtkofjdddmpebmaaGreatDoor
open Go.RowKit
set_option maxRecDepth 100000

theorem ret_stringF {a b : ByteArray} (h : a = b) : Ending.returned (.string a) = .returned (.string b) := by rw [h]
theorem one_cell (w : World) (x : Int) : ∀ i, i < 1 → (w.alloc (.cells #[.int .u8 x] 5)).cell? ⟨w.heap.size, 0 + i, none⟩ = some (.int .u8 (([x] : List Int).getD i 0)) := fun i hi => by
  have e : i = 0 := by omega
  subst e
  simp
set_option maxHeartbeats 2000000 in
theorem specFmtNat (m : Nat) (w : World) (hm : (m : Int) ≤ 9223372036854775807) :
    Calls Tryz.prog 24 #[.int .i64 m] w fun e w' => e = .returned (.string (strOfNums (decP m))) ∧ Below w.heap.size w w' := by
  have hl := decP_len (n := m) (by omega)
  go_enter Tryz.func24, Tryz.ntmps24
  go_wp2
  go_loopw [0, 3] (fun u v wr => ∃ (q : Nat) (t : List Int), (q : Int) ≤ m ∧ u = .int .i64 q ∧ v = .string (strOfNums t) ∧ decP q ++ t = decP m ∧ Below w.heap.size w wr) (fun u _ _ => (intOf u).toNat)
  case atStart => exact ⟨m, [], by omega, rfl, rfl, by simp, Below.refl _ _⟩
  case round =>
    obtain ⟨q, t, hq, rfl, rfl, hdig, hb⟩ := hrel
    have hsz : ((strOfNums t).size : Int) ≤ 19 := by
      rw [strOfNums_size]
      have := congrArg List.length hdig
      rw [List.length_append] at this
      omega
    have HD := Lib.hid hdig; clear hdig
    by_cases hq0 : 9 < (q : Int)
    · have HP := Lib.hid (decP_step (n := q) (by omega))
      have hm0 : 0 ≤ (q : Int) % 10 := by omega
      have hm9 : (q : Int) % 10 ≤ 9 := by omega
      have hcv := run_convert_bytes_arg (P := Tryz.prog) (wr.alloc (.cells #[.int .u8 (48 + (q : Int) % 10)] 5)) 65 5 Tryz.underlying65 Tryz.underlying5 wr.heap.size 0 1 1 [48 + (q : Int) % 10] rfl (one_cell wr _) 9 Tryz.underlying9
      have hs1 : ((strOfNums [48 + (q : Int) % 10]).size : Int) ≤ 1 := by rw [strOfNums_size]; simp
      go_wp2
      go_roundw
      case rel =>
        refine ⟨q / 10, [48 + (q : Int) % 10] ++ t, by omega, by first | rfl | (congr 1), by rw [strn_append], ?_, hb.alloc hb.size _⟩
        rw [← HD.out, HP.out, List.append_assoc]
        rfl
      case measure => simp [intOf]; omega
    · have HP := Lib.hid (decP_small (n := q) (by omega))
      have hcv := run_convert_bytes_arg (P := Tryz.prog) (wr.alloc (.cells #[.int .u8 (48 + (q : Int))] 5)) 65 5 Tryz.underlying65 Tryz.underlying5 wr.heap.size 0 1 1 [48 + (q : Int)] rfl (one_cell wr _) 9 Tryz.underlying9
      have hs1 : ((strOfNums [48 + (q : Int)]).size : Int) ≤ 1 := by rw [strOfNums_size]; simp
      go_wp2
      go_ret
      exact ⟨ret_stringF (by rw [strn_append, ← HD.out, HP.out]), hb.alloc hb.size _⟩
set_option maxHeartbeats 4000000 in
theorem specFmtNeg : ∀ (k q : Nat) (w : World), q ≤ k → 1 ≤ q → (q : Int) ≤ 9223372036854775808 →
    Calls Tryz.prog 24 #[.int .i64 (-(q : Int))] w fun e w' => e = .returned (.string (strOfNums (45 :: decP q))) ∧ Below w.heap.size w w'
  | 0, q, w, h, h1, _ => absurd h1 (by omega)
  | k + 1, q, w, h, h1, h2 => by
    have hneg : -(q : Int) < 0 := by omega
    by_cases hq : q < 10
    · have hz : (-((q : Int) / 10) == 0) = true := by rw [beq_iff_eq]; omega
      have HP := Lib.hid (decP_small (n := q) (by omega))
      have hcv := run_convert_bytes_arg (P := Tryz.prog) (w.alloc (.cells #[.int .u8 (48 + (q : Int))] 5)) 65 5 Tryz.underlying65 Tryz.underlying5 w.heap.size 0 1 1 [48 + (q : Int)] rfl (one_cell w _) 9 Tryz.underlying9
      have hs1 : ((strOfNums [48 + (q : Int)]).size : Int) ≤ 1 := by rw [strOfNums_size]; simp
      go_enter Tryz.func24, Tryz.ntmps24
      go_wp2
      go_ret
      exact ⟨ret_stringF (by rw [HP.out]; exact strn_append [45] _), (Below.refl _ _).alloc (Nat.le_refl _) _⟩
    · have hz : (-((q : Int) / 10) == 0) = false := by rw [beq_eq_false_iff_ne]; omega
      have IH : Hid (∀ w : World, Calls Tryz.prog 24 #[.int .i64 (-((q : Int) / 10))] w fun e w' => e = .returned (.string (strOfNums (45 :: decP (q / 10)))) ∧ Below w.heap.size w w') := fun w => specFmtNeg k (q / 10) w (by omega) (by omega) (by omega)
      have HP := Lib.hid (decP_step (n := q) (by omega))
      have hl := decP_len (n := q / 10) (by omega)
      have hm0 : 0 ≤ (q : Int) % 10 := by omega
      have hm9 : (q : Int) % 10 ≤ 9 := by omega
      have ht : (q : Int).tmod 10 = (q : Int) % 10 := Int.tmod_eq_emod_of_nonneg (by omega)
      have hw0 : IntKind.i64.wrap (-((q : Int) / 10)) = -((q : Int) / 10) := by rw [IntKind.wrap_i64]; omega
      have hw1 : IntKind.i64.wrap (48 + (q : Int) % 10) = 48 + (q : Int) % 10 := by rw [IntKind.wrap_i64]; omega
      have hw2 : IntKind.u8.wrap (48 + (q : Int) % 10) = 48 + (q : Int) % 10 := by rw [IntKind.wrap_u8]; omega
      have hs1 : ((strOfNums [48 + (q : Int) % 10]).size : Int) ≤ 1 := by rw [strOfNums_size]; simp
      have hs2 : ((strOfNums (45 :: decP (q / 10))).size : Int) ≤ 20 := by rw [strOfNums_size, List.length_cons]; omega
      have hcat : ¬ 9223372036854775807 < (strOfNums (45 :: decP (q / 10))).size + (strOfNums [48 + (q : Int) % 10]).size := by omega
      go_enter Tryz.func24, Tryz.ntmps24
      go_wp2_with fail
      refine wp_region_held_drew (S := (fun _ => True)) (by kernel_rfl) ?_ (fun hHeld => ?_)
      · trivial
      refine wpAnyH_take (i := 0) (v := ?_) rfl (by kernel_rfl) (by kernel_rfl) (by kernel_rfl) (fun _ _ _ h => h) (Or.inl ⟨by rfl, ?_⟩) (by assumption) ?_
      rotate_left
      · intro wq hSw; (try dsimp only at hSw); go_simp; (try with_reducible rfl)
      simp only [Act.put]
      refine wpAnyH_take (i := 1) (v := ?_) rfl (by kernel_rfl) (by kernel_rfl) (by kernel_rfl) (fun _ _ _ h => h) (Or.inl ⟨by rfl, ?_⟩) (by assumption) ?_
      rotate_left
      · intro wq hSw; (try dsimp only at hSw); go_simp; (try with_reducible rfl)
      simp only [Act.put]
      refine wpAnyH_take (i := 3) (v := ?_) rfl (by kernel_rfl) (by kernel_rfl) (by kernel_rfl) (fun _ _ _ h => h) (Or.inl ⟨by rfl, ?_⟩) (by assumption) ?_
      rotate_left
      · intro wq hSw; (try dsimp only at hSw); go_simp; (try with_reducible rfl)
      simp only [Act.put]
      refine wpAnyH_take (i := 4) (v := ?_) rfl (by kernel_rfl) (by kernel_rfl) (by kernel_rfl) (fun _ _ _ h => h) (Or.inl ⟨by rfl, ?_⟩) (by assumption) ?_
      rotate_left
      · intro wq hSw; (try dsimp only at hSw); go_simp; (try with_reducible rfl)
      simp only [Act.put]
      refine wpAnyH_take (i := 5) (v := ?_) rfl (by kernel_rfl) (by kernel_rfl) (by kernel_rfl) (fun _ _ _ h => h) (Or.inl ⟨by rfl, ?_⟩) (by assumption) ?_
      rotate_left
      · intro wq hSw; (try dsimp only at hSw); go_simp; (try with_reducible rfl)
      simp only [Act.put]
      refine wpAnyH_take (i := 6) (v := ?_) rfl (by kernel_rfl) (by kernel_rfl) (by kernel_rfl) (fun _ _ _ h => h) (Or.inl ⟨by rfl, ?_⟩) (by assumption) ?_
      rotate_left
      · intro wq hSw; (try dsimp only at hSw); go_simp; (try with_reducible rfl)
      simp only [Act.put]
      refine wpAnyH_ready (rs := [2, 7]) (by kernel_rfl) (by simp) ?_
      refine AllReadyH.cons rfl (fun K hK => ?_) ?_
      · skip
        go_simp
        go_at_call 24; refine (IH.out _).mono ?_; rintro e w1 ⟨rfl, b1⟩
        have bw := Below.on (Below.drew (Below.refl w.heap.size w)) b1
        refine hK.out _ _ ?_ (fun hHeld => ?_)
        · trivial
        clear hK K
        refine wpAnyH_ready (rs := [7]) (by kernel_rfl) (by simp) ?_
        refine AllReadyH.cons rfl (fun K hK => ?_) ?_
        · skip
          go_simp
          refine hK.out _ _ ?_ (fun hHeld => ?_)
          · trivial
          clear hK K
          refine wpAnyH_ready (rs := [8]) (by kernel_rfl) (by simp) ?_
          refine AllReadyH.cons rfl (fun K hK => ?_) ?_
          · skip
            have hcv := run_convert_bytes_arg (P := Tryz.prog) (w1.alloc (.cells #[.int .u8 (48 + (q : Int) % 10)] 5)) 65 5 Tryz.underlying65 Tryz.underlying5 w1.heap.size 0 1 1 [48 + (q : Int) % 10] rfl (one_cell w1 _) 9 Tryz.underlying9
            go_simp
            refine hK.out _ _ ?_ (fun hHeld => ?_)
            · trivial
            clear hK K
            refine wpAnyH_ready (rs := [9]) (by kernel_rfl) (by simp) ?_
            refine AllReadyH.cons rfl (fun K hK => ?_) ?_
            · skip
              go_simp
              refine hK.out _ _ ?_ (fun hHeld => ?_)
              · trivial
              clear hK K
              refine wpAnyH_ready (rs := [10]) (by kernel_rfl) (by simp) ?_
              refine AllReadyH.cons rfl (fun K hK => ?_) ?_
              · skip
                go_simp
                refine hK.out _ _ ?_ (fun hHeld => ?_)
                · trivial
                clear hK K
                refine wpAnyH_done (by kernel_rfl) ?_ _
                go_simp
                go_wp2_with fail
                go_ret
                exact ⟨ret_stringF (by rw [HP.out, strn_append]; rfl), bw.alloc bw.size _⟩
              exact AllReadyH.nil
            exact AllReadyH.nil
          exact AllReadyH.nil
        exact AllReadyH.nil
      refine AllReadyH.cons rfl (fun K hK => ?_) ?_
      · skip
        go_simp
        refine hK.out _ _ ?_ (fun hHeld => ?_)
        · trivial
        clear hK K
        refine wpAnyH_ready (rs := [2, 8]) (by kernel_rfl) (by simp) ?_
        refine AllReadyH.cons rfl (fun K hK => ?_) ?_
        · skip
          go_simp
          go_at_call 24; refine (IH.out _).mono ?_; rintro e w1 ⟨rfl, b1⟩
          have bw := Below.on ((Below.drew (Below.refl w.heap.size w)).alloc (Nat.le_refl _) (.cells #[.int .u8 (48 + (q : Int) % 10)] 5)) b1
          refine hK.out _ _ ?_ (fun hHeld => ?_)
          · trivial
          clear hK K
          refine wpAnyH_ready (rs := [8]) (by kernel_rfl) (by simp) ?_
          refine AllReadyH.cons rfl (fun K hK => ?_) ?_
          · skip
            have hcv := run_convert_bytes_arg (P := Tryz.prog) w1 65 5 Tryz.underlying65 Tryz.underlying5 w.heap.size 0 1 1 [48 + (q : Int) % 10] rfl (fun i hi => (b1.cell (p := ⟨w.heap.size, 0 + i, none⟩) (by show w.heap.size < (w.drew.alloc _).heap.size; simp)).trans (one_cell w.drew _ i hi)) 9 Tryz.underlying9
            go_simp
            refine hK.out _ _ ?_ (fun hHeld => ?_)
            · trivial
            clear hK K
            refine wpAnyH_ready (rs := [9]) (by kernel_rfl) (by simp) ?_
            refine AllReadyH.cons rfl (fun K hK => ?_) ?_
            · skip
              go_simp
              refine hK.out _ _ ?_ (fun hHeld => ?_)
              · trivial
              clear hK K
              refine wpAnyH_ready (rs := [10]) (by kernel_rfl) (by simp) ?_
              refine AllReadyH.cons rfl (fun K hK => ?_) ?_
              · skip
                go_simp
                refine hK.out _ _ ?_ (fun hHeld => ?_)
                · trivial
                clear hK K
                refine wpAnyH_done (by kernel_rfl) ?_ _
                go_simp
                go_wp2_with fail
                go_ret
                exact ⟨ret_stringF (by rw [HP.out, strn_append]; rfl), bw⟩
              exact AllReadyH.nil
            exact AllReadyH.nil
          exact AllReadyH.nil
        refine AllReadyH.cons rfl (fun K hK => ?_) ?_
        · skip
          have hcv := run_convert_bytes_arg (P := Tryz.prog) (w.alloc (.cells #[.int .u8 (48 + (q : Int) % 10)] 5)).drew 65 5 Tryz.underlying65 Tryz.underlying5 w.heap.size 0 1 1 [48 + (q : Int) % 10] rfl (one_cell w _) 9 Tryz.underlying9
          go_simp
          refine hK.out _ _ ?_ (fun hHeld => ?_)
          · trivial
          clear hK K
          refine wpAnyH_ready (rs := [2]) (by kernel_rfl) (by simp) ?_
          refine AllReadyH.cons rfl (fun K hK => ?_) ?_
          · skip
            go_simp
            go_at_call 24; refine (IH.out _).mono ?_; rintro e w1 ⟨rfl, b1⟩
            have bw := Below.on ((Below.drew (Below.refl w.heap.size w)).alloc (Nat.le_refl _) (.cells #[.int .u8 (48 + (q : Int) % 10)] 5)) b1
            refine hK.out _ _ ?_ (fun hHeld => ?_)
            · trivial
            clear hK K
            refine wpAnyH_ready (rs := [9]) (by kernel_rfl) (by simp) ?_
            refine AllReadyH.cons rfl (fun K hK => ?_) ?_
            · skip
              go_simp
              refine hK.out _ _ ?_ (fun hHeld => ?_)
              · trivial
              clear hK K
              refine wpAnyH_ready (rs := [10]) (by kernel_rfl) (by simp) ?_
              refine AllReadyH.cons rfl (fun K hK => ?_) ?_
              · skip
                go_simp
                refine hK.out _ _ ?_ (fun hHeld => ?_)
                · trivial
                clear hK K
                refine wpAnyH_done (by kernel_rfl) ?_ _
                go_simp
                go_wp2_with fail
                go_ret
                exact ⟨ret_stringF (by rw [HP.out, strn_append]; rfl), bw⟩
              exact AllReadyH.nil
            exact AllReadyH.nil
          exact AllReadyH.nil
        exact AllReadyH.nil
      exact AllReadyH.nil
theorem specFormatInt (n : Int) (w : World) (h1 : -9223372036854775808 ≤ n) (h2 : n ≤ 9223372036854775807) :
    Calls Tryz.prog 24 #[.int .i64 n] w fun e w' => e = .returned (.string (strOfNums (fmtI n))) ∧ Below w.heap.size w w' := by
  by_cases h : n < 0
  · obtain ⟨q, rfl⟩ : ∃ q : Nat, n = -(q : Int) := ⟨n.natAbs, by omega⟩
    have e : fmtI (-(q : Int)) = 45 :: decP q := by rw [fmtI, if_pos h, Int.natAbs_neg, Int.natAbs_natCast]
    rw [e]
    exact specFmtNeg q q w (Nat.le_refl _) (by omega) (by omega)
  · obtain ⟨q, rfl⟩ : ∃ q : Nat, n = (q : Int) := ⟨n.toNat, by omega⟩
    rw [fmtI_nat]
    exact specFmtNat q w h2
end Go.Proofs.YtkofjdddmpebmaaGreatDoor
