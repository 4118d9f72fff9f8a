/- How many rankings are single-peaked: what the program's and the reference's functions compute. -/
import Derived.Test.YtadacfammhianaaPeakedR
namespace Go.Proofs.Ytadacfammhianaa
open Go.RowKit
set_option maxRecDepth 100000

def cpP (m : Int) : Int := if 1 ≤ m ∧ m ≤ 5 then ((2 ^ (m.toNat - 1) : Nat) : Int) else -1
theorem cp_no {m : Int} (h : ¬ (1 ≤ m ∧ m ≤ 5)) : cpP m = -1 := if_neg h
theorem cp_small : ∀ m : Nat, m < 6 → 1 ≤ m → ((ordP m (upTo m)).getD 0 []).length = m ∧ (pkR ((ordP m (upTo m)).getD 0 [])).length = 2 ^ (m - 1) ∧ 0 < (ordP m (upTo m)).length := by decide +kernel

set_option maxHeartbeats 1000000 in
theorem implCountPeaked (m : Int) (w : World) :
    Calls Try.prog 27 #[.int .i64 m] w fun e w' => e = .returned (.int .i64 (cpP m)) ∧ w = w' := by
  by_cases h1 : 1 ≤ m ∧ m ≤ 5
  · have hin := inB_true h1
    have : m = 1 ∨ m = 2 ∨ m = 3 ∨ m = 4 ∨ m = 5 := by omega
    clear h1
    rcases this with rfl | rfl | rfl | rfl | rfl
    all_goals (
      go_enter Try.func27, Try.ntmps27
      go_wp2_with fail
      refine (implWithin _ _ _ _).mono ?_; rintro e w1 ⟨rfl, rfl⟩
      rw [hin]
      go_wp2_with fail
      go_ret
      exact ⟨ret_int (by decide), rfl⟩)
  · have hin := inB_false h1
    have HF := Lib.hid (cp_no h1)
    clear h1
    go_enter Try.func27, Try.ntmps27
    go_wp2_with fail
    refine (implWithin _ _ _ _).mono ?_; rintro e w1 ⟨rfl, rfl⟩
    rw [hin]
    go_wp2_with fail
    go_ret
    exact ⟨ret_int HF.out.symm, rfl⟩

set_option maxHeartbeats 1000000 in
theorem specCountPeaked (m : Int) (w : World) :
    Calls Try.prog 26 #[.int .i64 m] w fun e w' => e = .returned (.int .i64 (cpP m)) ∧ Below w.heap.size w w' := by
  by_cases h1 : 1 ≤ m ∧ m ≤ 5
  · obtain ⟨q, rfl⟩ : ∃ q : Nat, m = (q : Int) := ⟨m.toNat, by omega⟩
    obtain ⟨c1, c2, c3⟩ := cp_small q (by omega) (by omega)
    have HF : Hid (cpP q = ((2 ^ (q - 1) : Nat) : Int)) := if_pos h1
    have C2 := Lib.hid c2
    have C1 := Lib.hid c1
    have HR := Lib.hid (ranks_yes h1)
    clear c1 c2
    go_enter Try.func26, Try.ntmps26
    go_wp2_with fail
    refine (specAllRankings _ _).mono ?_; rintro e w1 ⟨A1, n1, d1, rfl, hs, o1, cont1, b1⟩
    have C := Lib.hid cont1; clear cont1
    have hlen : hs.length = n1 := o1.len
    have hn1 : (n1 : Int) = ((ordP q (upTo q)).length : Int) := by rw [← hlen, ← cont_len, C.out, HR.out]
    have hpos : 0 < n1 := by omega
    have hz : ((n1 : Int) == 0) = false := by simp; omega
    have h0 := cont_nth (hs := hs) (k := 0) (by omega)
    rw [C.out, HR.out] at h0
    have hx0 : hx hs 0 = (ordP q (upTo q)).getD 0 [] := by simp [List.getD, h0]
    have HX := Lib.hid hx0; clear hx0 h0
    have hl0 : (hl hs 0 : Int) ≤ 1048576 := by rw [hl, HX.out, C1.out]; omega
    obtain ⟨b, o, rfl, hbs, g1, g2, g3, g4⟩ := o1.lists.at_ (k := 0) hpos
    rw [Nat.add_zero] at g1
    go_wp2_with fail
    refine (specPeakedRankings _ _ _ (hx hs 0) _ g4 hl0).mono ?_; rintro e w2 ⟨A2, n2, d2, rfl, sel, o2, cont2, b2⟩
    have hn2 : (n2 : Int) = cpP q := by rw [HF.out, ← C2.out, ← HX.out, ← cont2, cont_len, o2.len]
    have HN := Lib.hid hn2; clear hn2 cont2
    go_wp2_with fail
    go_ret
    exact ⟨ret_int HN.out, Below.on b1 b2⟩
  · have HF := Lib.hid (cp_no h1)
    have HR := Lib.hid (ranks_no h1)
    clear h1
    go_enter Try.func26, Try.ntmps26
    go_wp2_with fail
    refine (specAllRankings _ _).mono ?_; rintro e w1 ⟨A1, n1, d1, rfl, hs, o1, cont1, b1⟩
    have hn1 : n1 = 0 := by rw [← o1.len, ← cont_len, cont1, HR.out]; rfl
    subst hn1
    clear cont1
    go_wp2_with fail
    go_ret
    exact ⟨ret_int HF.out.symm, b1⟩
end Go.Proofs.Ytadacfammhianaa
