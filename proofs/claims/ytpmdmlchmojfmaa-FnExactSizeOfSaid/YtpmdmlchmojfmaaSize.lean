/- How many are in a set of at most six: the program's and the reference's functions. -/
import Derived.Test.YtpmdmlchmojfmaaFrac1
namespace Go.Proofs.Ytpmdmlchmojfmaa
open Go.RowKit

/-- Whether the i-th bit is set. -/
def bitB (x : Int) (i : Nat) : Bool := bits BinOp.and IntKind.i64 x ((2 ^ i : Nat) : Int) != 0
def popN (x : Int) (k : Nat) : Int := (((List.range k).filter fun i => bitB x i).length : Int)
theorem popN_yes {x : Int} {k : Nat} (h : bitB x k = true) : popN x (k + 1) = popN x k + 1 := by
  simp [popN, List.range_succ, List.filter_append, h]
theorem popN_no {x : Int} {k : Nat} (h : bitB x k = false) : popN x (k + 1) = popN x k := by
  simp [popN, List.range_succ, List.filter_append, h]
theorem popN_le (x : Int) (k : Nat) : 0 ≤ popN x k ∧ popN x k ≤ k := by
  have := List.length_filter_le (fun i => bitB x i) (List.range k)
  rw [List.length_range] at this
  unfold popN; omega
def sizeP (x : Int) : Int := if inB x 0 63 then popN x 6 else 0
theorem size_no {x : Int} (h : inB x 0 63 = false) : sizeP x = 0 := by simp [sizeP, h]
theorem size_yes {x : Int} (h : inB x 0 63 = true) : sizeP x = popN x 6 := by simp [sizeP, h]

set_option maxHeartbeats 2000000 in
theorem libOnes64 (k : Nat) (w : World) (h : k < 64) :
    Calls Try.prog 81 #[.int .u64 (k : Int)] w fun e w' => e = .returned (.int .i64 (popN k 6)) ∧ w = w' := by
  go_enter Try.func81, Try.ntmps81
  go_wp2
  go_ret
  refine ⟨ret_int ?_, rfl⟩
  revert k h
  decide +kernel

set_option maxHeartbeats 1000000 in
theorem libOnes (k : Nat) (w : World) (h : k < 64) :
    Calls Try.prog 66 #[.int .u64 (k : Int)] w fun e w' => e = .returned (.int .i64 (popN k 6)) ∧ w = w' := by
  go_enter Try.func66, Try.ntmps66
  go_wp2_with fail
  refine (libOnes64 k _ h).mono ?_; rintro e w1 ⟨rfl, rfl⟩
  go_wp2_with fail
  go_ret
  exact ⟨rfl, rfl⟩

set_option maxHeartbeats 1000000 in
theorem implSizeOf (x : Int) (w : World) :
    Calls Try.prog 30 #[.int .i64 x] w fun e w' => e = .returned (.int .i64 (sizeP x)) ∧ w = w' := by
  cases h1 : inB x 0 63 with
  | false =>
    have HF := Lib.hid (size_no h1)
    go_enter Try.func30, Try.ntmps30
    go_wp2_with fail
    refine (implWithin _ _ _ _).mono ?_; rintro e w1 ⟨rfl, rfl⟩
    go_wp2_with fail
    go_ret
    exact ⟨ret_int HF.out.symm, rfl⟩
  | true =>
    have hb := of_inB h1
    have HF := Lib.hid (size_yes h1)
    obtain ⟨k, rfl⟩ : ∃ k : Nat, x = (k : Int) := ⟨x.toNat, by omega⟩
    have hk : k < 64 := by omega
    go_enter Try.func30, Try.ntmps30
    go_wp2_with fail
    refine (implWithin _ _ _ _).mono ?_; rintro e w1 ⟨rfl, rfl⟩
    go_wp2_with fail
    refine (libOnes k _ hk).mono ?_; rintro e w1 ⟨rfl, rfl⟩
    go_wp2_with fail
    go_ret
    exact ⟨ret_int HF.out.symm, rfl⟩

set_option maxHeartbeats 2000000 in
theorem specCount (x : Int) (w : World) :
    Calls Try.prog 65 #[.int .i64 x] w fun e w' => e = .returned (.int .i64 (popN x 6)) ∧ w = w' := by
  go_enter Try.func65, Try.ntmps65
  go_wp2
  go_loop [3, 4] (fun u v => ∃ k : Nat, k ≤ 6 ∧ u = .int .i64 (popN x k) ∧ v = .int .i64 k) (fun _ v => 6 - (intOf v).toNat)
  case atStart => exact ⟨0, by omega, rfl, rfl⟩
  case round =>
    obtain ⟨k, hk, rfl, rfl⟩ := hrel
    have pb := popN_le x k
    have PY := Lib.hid (@popN_yes x k)
    have PN := Lib.hid (@popN_no x k)
    rcases (show k = 0 ∨ k = 1 ∨ k = 2 ∨ k = 3 ∨ k = 4 ∨ k = 5 ∨ k = 6 by omega) with rfl | rfl | rfl | rfl | rfl | rfl | rfl
    · cases hbit : (bits BinOp.and IntKind.i64 x 1 != 0) with
      | true =>
        have HE := Lib.hid (PY.out (show bitB x 0 = true from hbit))
        generalize popN x 0 = S at *
        go_wp2
        go_round
        case rel => exact ⟨1, by omega, by rw [HE.out], by first | rfl | simp⟩
        case measure => simp [intOf]
      | false =>
        have HE := Lib.hid (PN.out (show bitB x 0 = false from hbit))
        generalize popN x 0 = S at *
        go_wp2
        go_round
        case rel => exact ⟨1, by omega, by rw [HE.out], by first | rfl | simp⟩
        case measure => simp [intOf]
    · cases hbit : (bits BinOp.and IntKind.i64 x 2 != 0) with
      | true =>
        have HE := Lib.hid (PY.out (show bitB x 1 = true from hbit))
        generalize popN x 1 = S at *
        go_wp2
        go_round
        case rel => exact ⟨2, by omega, by rw [HE.out], by first | rfl | simp⟩
        case measure => simp [intOf]
      | false =>
        have HE := Lib.hid (PN.out (show bitB x 1 = false from hbit))
        generalize popN x 1 = S at *
        go_wp2
        go_round
        case rel => exact ⟨2, by omega, by rw [HE.out], by first | rfl | simp⟩
        case measure => simp [intOf]
    · cases hbit : (bits BinOp.and IntKind.i64 x 4 != 0) with
      | true =>
        have HE := Lib.hid (PY.out (show bitB x 2 = true from hbit))
        generalize popN x 2 = S at *
        go_wp2
        go_round
        case rel => exact ⟨3, by omega, by rw [HE.out], by first | rfl | simp⟩
        case measure => simp [intOf]
      | false =>
        have HE := Lib.hid (PN.out (show bitB x 2 = false from hbit))
        generalize popN x 2 = S at *
        go_wp2
        go_round
        case rel => exact ⟨3, by omega, by rw [HE.out], by first | rfl | simp⟩
        case measure => simp [intOf]
    · cases hbit : (bits BinOp.and IntKind.i64 x 8 != 0) with
      | true =>
        have HE := Lib.hid (PY.out (show bitB x 3 = true from hbit))
        generalize popN x 3 = S at *
        go_wp2
        go_round
        case rel => exact ⟨4, by omega, by rw [HE.out], by first | rfl | simp⟩
        case measure => simp [intOf]
      | false =>
        have HE := Lib.hid (PN.out (show bitB x 3 = false from hbit))
        generalize popN x 3 = S at *
        go_wp2
        go_round
        case rel => exact ⟨4, by omega, by rw [HE.out], by first | rfl | simp⟩
        case measure => simp [intOf]
    · cases hbit : (bits BinOp.and IntKind.i64 x 16 != 0) with
      | true =>
        have HE := Lib.hid (PY.out (show bitB x 4 = true from hbit))
        generalize popN x 4 = S at *
        go_wp2
        go_round
        case rel => exact ⟨5, by omega, by rw [HE.out], by first | rfl | simp⟩
        case measure => simp [intOf]
      | false =>
        have HE := Lib.hid (PN.out (show bitB x 4 = false from hbit))
        generalize popN x 4 = S at *
        go_wp2
        go_round
        case rel => exact ⟨5, by omega, by rw [HE.out], by first | rfl | simp⟩
        case measure => simp [intOf]
    · cases hbit : (bits BinOp.and IntKind.i64 x 32 != 0) with
      | true =>
        have HE := Lib.hid (PY.out (show bitB x 5 = true from hbit))
        generalize popN x 5 = S at *
        go_wp2
        go_round
        case rel => exact ⟨6, by omega, by rw [HE.out], by first | rfl | simp⟩
        case measure => simp [intOf]
      | false =>
        have HE := Lib.hid (PN.out (show bitB x 5 = false from hbit))
        generalize popN x 5 = S at *
        go_wp2
        go_round
        case rel => exact ⟨6, by omega, by rw [HE.out], by first | rfl | simp⟩
        case measure => simp [intOf]
    · go_wp2
      go_ret
      exact ⟨rfl, rfl⟩

set_option maxHeartbeats 1000000 in
theorem specSizeOf (x : Int) (w : World) :
    Calls Try.prog 29 #[.int .i64 x] w fun e w' => e = .returned (.int .i64 (sizeP x)) ∧ w = w' := by
  cases h1 : inB x 0 63 with
  | false =>
    have HF := Lib.hid (size_no h1)
    go_enter Try.func29, Try.ntmps29
    go_wp2_with fail
    refine (specIn _ _ _ _).mono ?_; rintro e w1 ⟨rfl, rfl⟩
    go_wp2_with fail
    go_ret
    exact ⟨ret_int HF.out.symm, rfl⟩
  | true =>
    have HF := Lib.hid (size_yes h1)
    go_enter Try.func29, Try.ntmps29
    go_wp2_with fail
    refine (specIn _ _ _ _).mono ?_; rintro e w1 ⟨rfl, rfl⟩
    go_wp2_with fail
    refine (specCount x _).mono ?_; rintro e w1 ⟨rfl, rfl⟩
    go_wp2_with fail
    go_ret
    exact ⟨ret_int HF.out.symm, rfl⟩
end Go.Proofs.Ytpmdmlchmojfmaa
