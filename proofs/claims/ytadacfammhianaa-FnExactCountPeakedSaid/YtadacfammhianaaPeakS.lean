/- Whether a ranking is peaked on an axis: the walk along the list, by the reference. -/
import Derived.Test.YtadacfammhianaaPeak
namespace Go.Proofs.Ytadacfammhianaa
open Go.RowKit

theorem pkS_step {axis xs : List Int} {k : Nat} {low high : Int} (hk : k < xs.length) :
    pkS ((places axis xs).drop k) low high = if idxP axis (nth xs k) = low - 1 then pkS ((places axis xs).drop (k + 1)) (idxP axis (nth xs k)) high else if idxP axis (nth xs k) = high + 1 then pkS ((places axis xs).drop (k + 1)) low (idxP axis (nth xs k)) else false := by
  rw [drop_cons (by rw [places_len]; exact hk), nth_places _ hk]
  rfl
theorem peakS_start {axis xs : List Int} (hk : 0 < xs.length) : pkS ((places axis xs).drop (0 + 1)) (idxP axis (nth xs 0)) (idxP axis (nth xs 0)) = peakS (places axis xs) := by
  rw [peakS, nth_places _ hk]
theorem idx_small (xs : List Int) (a : Int) (q : Nat) (h : xs.length = q) (hq : (q : Int) ≤ 1048576) : -1 ≤ idxP xs a ∧ idxP xs a ≤ 1048576 := by
  have := idx_bd xs a
  omega

set_option maxHeartbeats 4000000 in
theorem specPeakedL (n : Nat) (A B : Option Addr) (c d q : Nat) (xs ax : List Int) (w : World) (h : Ints w A n xs) (h' : Ints w B q ax) (hn : (n : Int) ≤ 1048576) (h1 : 1 ≤ (n : Int)) (hm : (q : Int) ≤ 1048576) (hcap : (n : Int) ≤ c)  :
    Calls Try.prog 62 #[.slice A n c, .slice B q d] w fun e w' => e = .returned (.bool (peakS (places ax xs))) ∧ w = w' := by
  have p0 : (0 : Int) < (n : Int) := by omega
  have p2 : (1 : Int) ≤ (c : Int) := by omega
  have hcut := h.cut (k := 1) (cap := c) (by omega) (by omega)
  obtain ⟨b, o, rfl, hb, hc⟩ := h.at_ (k := 0) (by omega)
  rw [Nat.add_zero] at hc
  have HL := Lib.hid h.1
  have HL' := Lib.hid h'.1
  have HS := Lib.hid (peakS_start (axis := ax) (xs := xs) (by rw [HL.out]; omega))
  by_cases hc1 : c = 1
  · have hcut : Ints w (some ⟨b, o, none⟩) (n - 1) (xs.drop 1) := by rw [if_pos hc1] at hcut; exact hcut
    have hi0 := idx_small ax (nth xs 0) q HL'.out hm
    go_enter Try.func62, Try.ntmps62
    go_wp2_with fail
    refine (specPlaceOf _ _ _ ax _ _ h' hm).mono ?_; rintro e w1 ⟨rfl, rfl⟩
    go_wp2_with fail
    go_loop [5, 6, 19] (fun lo hi u => ∃ (k : Nat) (low high : Int), (k : Int) ≤ ((n - 1 : Nat) : Int) ∧ lo = .int .i64 low ∧ hi = .int .i64 high ∧ u = .int .i64 k ∧ (-1 ≤ low ∧ low ≤ 1048576) ∧ (-1 ≤ high ∧ high ≤ 1048576) ∧ pkS ((places ax xs).drop (k + 1)) low high = peakS (places ax xs)) (fun _ _ u => n - (intOf u).toNat)
    case atStart => exact ⟨0, _, _, by omega, rfl, rfl, rfl, hi0, hi0, HS.out⟩
    case round =>
      obtain ⟨k, low, high, hk, rfl, rfl, rfl, ⟨l1, l2⟩, ⟨u1, u2⟩, hpk⟩ := hrel
      have HP := Lib.hid hpk; clear hpk
      by_cases hlt : (k : Int) < ((n - 1 : Nat) : Int)
      · obtain ⟨b2, o2, he, hb2, hc2⟩ := hcut.at_ (k := k) (by omega)
        cases he
        rw [nth_drop, Nat.add_comm 1 k] at hc2
        have hst := pkS_step (axis := ax) (low := low) (high := high) (show k + 1 < xs.length by rw [HL.out]; omega)
        rw [HP.out] at hst
        have hbd := idx_small ax (nth xs (k + 1)) q HL'.out hm
        obtain ⟨b3, b4⟩ := hbd
        obtain ⟨p, hp⟩ : ∃ p, p = idxP ax (nth xs (k + 1)) := ⟨_, rfl⟩
        have HQ := Lib.hid hp
        rw [← hp] at hst b3 b4
        clear hp
        have HST := Lib.hid hst; clear hst
        go_wp2_with fail
        refine (specPlaceOf _ _ _ ax _ _ h' hm).mono ?_; rintro e w1 ⟨rfl, rfl⟩
        rw [← HQ.out]
        by_cases a1 : p = low - 1
        · have HR := Lib.hid (HST.out.trans (if_pos a1))
          have t1 : (p == low - 1) = true := by simpa using a1
          clear a1
          go_wp2
          go_round
          case rel => exact ⟨k + 1, _, _, by omega, rfl, rfl, by go_num, by omega, by omega, HR.out.symm⟩
          case measure => simp [intOf]; omega
        · have HR := Lib.hid (HST.out.trans (if_neg a1))
          have t1 : (p == low - 1) = false := by simpa using a1
          clear a1
          by_cases a2 : p = high + 1
          · have HR2 := Lib.hid (HR.out.trans (if_pos a2))
            have t2 : (p == high + 1) = true := by simpa using a2
            clear a2
            go_wp2
            go_round
            case rel => exact ⟨k + 1, _, _, by omega, rfl, rfl, by go_num, by omega, by omega, HR2.out.symm⟩
            case measure => simp [intOf]; omega
          · have HR2 := Lib.hid (HR.out.trans (if_neg a2))
            have t2 : (p == high + 1) = false := by simpa using a2
            clear a2
            go_wp2
            go_ret
            exact ⟨ret_bool HR2.out.symm, rfl⟩
      · have HR : Hid (peakS (places ax xs) = true) := by rw [← HP.out, List.drop_eq_nil_of_le (by rw [places_len, HL.out]; omega)]; rfl
        go_wp2
        go_ret
        exact ⟨ret_bool HR.out.symm, rfl⟩
  · have hcut : Ints w (some ⟨b, o + 1, none⟩) (n - 1) (xs.drop 1) := by rw [if_neg hc1] at hcut; simpa [Addr.add_lit] using hcut
    have hi0 := idx_small ax (nth xs 0) q HL'.out hm
    go_enter Try.func62, Try.ntmps62
    go_wp2_with fail
    refine (specPlaceOf _ _ _ ax _ _ h' hm).mono ?_; rintro e w1 ⟨rfl, rfl⟩
    go_wp2_with fail
    go_loop [5, 6, 19] (fun lo hi u => ∃ (k : Nat) (low high : Int), (k : Int) ≤ ((n - 1 : Nat) : Int) ∧ lo = .int .i64 low ∧ hi = .int .i64 high ∧ u = .int .i64 k ∧ (-1 ≤ low ∧ low ≤ 1048576) ∧ (-1 ≤ high ∧ high ≤ 1048576) ∧ pkS ((places ax xs).drop (k + 1)) low high = peakS (places ax xs)) (fun _ _ u => n - (intOf u).toNat)
    case atStart => exact ⟨0, _, _, by omega, rfl, rfl, rfl, hi0, hi0, HS.out⟩
    case round =>
      obtain ⟨k, low, high, hk, rfl, rfl, rfl, ⟨l1, l2⟩, ⟨u1, u2⟩, hpk⟩ := hrel
      have HP := Lib.hid hpk; clear hpk
      by_cases hlt : (k : Int) < ((n - 1 : Nat) : Int)
      · obtain ⟨b2, o2, he, hb2, hc2⟩ := hcut.at_ (k := k) (by omega)
        cases he
        rw [nth_drop, Nat.add_comm 1 k] at hc2
        have hst := pkS_step (axis := ax) (low := low) (high := high) (show k + 1 < xs.length by rw [HL.out]; omega)
        rw [HP.out] at hst
        have hbd := idx_small ax (nth xs (k + 1)) q HL'.out hm
        obtain ⟨b3, b4⟩ := hbd
        obtain ⟨p, hp⟩ : ∃ p, p = idxP ax (nth xs (k + 1)) := ⟨_, rfl⟩
        have HQ := Lib.hid hp
        rw [← hp] at hst b3 b4
        clear hp
        have HST := Lib.hid hst; clear hst
        go_wp2_with fail
        refine (specPlaceOf _ _ _ ax _ _ h' hm).mono ?_; rintro e w1 ⟨rfl, rfl⟩
        rw [← HQ.out]
        by_cases a1 : p = low - 1
        · have HR := Lib.hid (HST.out.trans (if_pos a1))
          have t1 : (p == low - 1) = true := by simpa using a1
          clear a1
          go_wp2
          go_round
          case rel => exact ⟨k + 1, _, _, by omega, rfl, rfl, by go_num, by omega, by omega, HR.out.symm⟩
          case measure => simp [intOf]; omega
        · have HR := Lib.hid (HST.out.trans (if_neg a1))
          have t1 : (p == low - 1) = false := by simpa using a1
          clear a1
          by_cases a2 : p = high + 1
          · have HR2 := Lib.hid (HR.out.trans (if_pos a2))
            have t2 : (p == high + 1) = true := by simpa using a2
            clear a2
            go_wp2
            go_round
            case rel => exact ⟨k + 1, _, _, by omega, rfl, rfl, by go_num, by omega, by omega, HR2.out.symm⟩
            case measure => simp [intOf]; omega
          · have HR2 := Lib.hid (HR.out.trans (if_neg a2))
            have t2 : (p == high + 1) = false := by simpa using a2
            clear a2
            go_wp2
            go_ret
            exact ⟨ret_bool HR2.out.symm, rfl⟩
      · have HR : Hid (peakS (places ax xs) = true) := by rw [← HP.out, List.drop_eq_nil_of_le (by rw [places_len, HL.out]; omega)]; rfl
        go_wp2
        go_ret
        exact ⟨ret_bool HR.out.symm, rfl⟩
end Go.Proofs.Ytadacfammhianaa
