/- Profiles of the call's own: marks found. -/
import Derived.Test.YtkofjdddmpebmaaGreatDoorMarkV
namespace Go.Proofs.YtkofjdddmpebmaaGreatDoor
open Go.RowKit
set_option maxRecDepth 100000

set_option maxHeartbeats 2000000 in
theorem heldVoteS (A : Option Addr) (n c base : Nat) (G : Nat → Option Addr) (C : Nat → Nat) (R : Nat → List Int) (T : Nat → Int) (m : Int) (w : World) (h : OwnV w base A n c G C (mkR R m n) (mkT R T m n)) (hn : (n : Int) ≤ 1048576) (hb : ∀ k, k < n → ((R k).length : Int) ≤ 1048576) (hm : 0 ≤ m ∧ m ≤ 4294967296) :
    Calls Tryz.prog 22 #[.slice A n c, .int .i64 m] w fun e w' => e = .returned (.int .i64 (m + (prv R n : Int))) ∧ w = w' := by
  have HB := Lib.hid hb
  have HP := Lib.hid (prv_le R n hb)
  clear hb
  go_enter Tryz.func22, Tryz.ntmps22
  go_wp2
  go_loop [1, 5] (fun u v => ∃ k : Nat, (k : Int) ≤ n ∧ u = .int .i64 (m + (prv R k : Int)) ∧ v = .int .i64 k) (fun _ v => n - (intOf v).toNat)
  case atStart => exact ⟨0, by omega, by simp [prv], rfl⟩
  case round =>
    obtain ⟨k, hk, rfl, rfl⟩ := hrel
    by_cases hlt : (k : Int) < n
    · have hkn : k < n := by omega
      obtain ⟨g, hAg, hg0, hg1, c0, c1, f0, f1⟩ := h.cells hkn
      have hek := Ints.of_own (h.each k hkn)
      rw [mkR_len] at c0 hek
      rw [mkR, if_pos hkn] at hek
      rw [mkT, if_pos hkn] at c1
      have hlb := HB.out k (by omega)
      have hpb := HP.out k (by omega)
      have hne : (m + (prv R k : Int) + ((R k).length : Int) != m + (prv R k : Int) + ((R k).length : Int)) = false := by simp
      have HE := Lib.hid hek; clear hek
      subst hAg
      go_wp2_with fail
      refine (heldIntS _ _ _ (m + (prv R k : Int)) _ HE.out hlb ⟨by omega, by omega⟩).mono ?_; rintro e w1 ⟨rfl, rfl⟩
      go_wp2_with fail
      go_round
      case rel => exact ⟨k + 1, by omega, by simp only [prv]; congr 1; omega, by go_num⟩
      case measure => simp [intOf]; omega
    · obtain rfl : k = n := by omega
      go_wp2
      go_ret
      exact ⟨rfl, rfl⟩

set_option maxHeartbeats 1000000 in
theorem heldProfile (z : Int) (A : Option Addr) (n c base : Nat) (G : Nat → Option Addr) (C : Nat → Nat) (R : Nat → List Int) (T : Nat → Int) (m : Int) (w : World) (h : OwnV w base A n c G C (mkR R m n) (mkT R T m n)) (hn : (n : Int) ≤ 1048576) (hb : ∀ k, k < n → ((R k).length : Int) ≤ 1048576) (hm : 0 ≤ m ∧ m ≤ 4294967296) :
    Calls Tryz.prog 8 #[.agg #[.int .i64 z, .slice A n c], .int .i64 m] w fun e w' => e = .returned (.int .i64 (m + (prv R n : Int))) ∧ Below w.heap.size w w' := by
  have bl : Below w.heap.size w (w.alloc (.cells #[.int .i64 z, .slice A n c] 24)) := (Below.refl _ _).alloc (Nat.le_refl _) _
  have HP := Lib.hid (prv_le R n hb n (Nat.le_refl _))
  have hp := HP.out
  go_enter Tryz.func8, Tryz.ntmps8
  go_wp2_with fail
  refine (heldVoteS A n c base G C R T m _ (h.alloc _) hn hb hm).mono ?_; rintro e w1 ⟨rfl, rfl⟩
  go_wp2_with fail
  go_ret
  exact ⟨rfl, bl⟩
end Go.Proofs.YtkofjdddmpebmaaGreatDoor
