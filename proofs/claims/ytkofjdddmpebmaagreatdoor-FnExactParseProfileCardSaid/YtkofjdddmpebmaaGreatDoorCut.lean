/- The library's Cut at one sign: walked, for a sign alone it reads no variable. -/
import Derived.Test.YtkofjdddmpebmaaGreatDoorCutL
import Derived.OwnWalk
namespace Go.Proofs.YtkofjdddmpebmaaGreatDoor
open Go.RowKit
set_option maxRecDepth 100000

theorem idxB_eq (c : UInt8) : ∀ l : List UInt8, Lib.indexByte l c = Lib.index l [c]
  | [] => rfl
  | b :: l => by
    rw [Lib.indexByte, index_cons, idxB_eq c l]
    simp
theorem ret_cut {a b a' b' : ByteArray} {x : Bool} (h1 : a = a') (h2 : b = b') : Ending.returned (.tuple #[.string a, .string b, .bool x]) = .returned (.tuple #[.string a', .string b', .bool x]) := by rw [h1, h2]
theorem ext_head (s : ByteArray) (j : Nat) : s.extract 0 j = ⟨(s.data.toList.take j).toArray⟩ := by
  apply ByteArray.ext
  apply Array.toList_inj.1
  rw [Lib.extract_data]
  simp
theorem ext_tail (s : ByteArray) (j : Nat) : s.extract j s.size = ⟨(s.data.toList.drop j).toArray⟩ := by
  apply ByteArray.ext
  apply Array.toList_inj.1
  rw [Lib.extract_data, List.take_of_length_le (by simp)]
set_option maxHeartbeats 1000000 in
theorem liteCutMiss (s : ByteArray) (c : UInt8) (w : World) (h : Lib.index s.data.toList [c] = -1) :
    Calls Tryz.prog 36 #[.string s, .string ⟨#[c]⟩] w fun e w' => e = .returned (.tuple #[.string s, .string ByteArray.empty, .bool false]) ∧ w = w' := by
  have hi : Lib.indexByte s.data.toList c = -1 := by rw [idxB_eq, h]
  have HI := Lib.hid hi; clear hi h
  go_enter Tryz.func36, Tryz.ntmps36
  go_wp2_with fail
  refine (Tryz.stringslite_Index_one s c _).mono ?_; rintro e w1 ⟨rfl, hw⟩
  subst hw
  rw [HI.out]
  go_wp2_with fail
  go_ret3
  exact ⟨rfl, rfl⟩
set_option maxHeartbeats 1000000 in
theorem liteCutHit (s : ByteArray) (c : UInt8) (j : Nat) (w : World) (hs : s.size ≤ 1048576) (h : Lib.index s.data.toList [c] = j) :
    Calls Tryz.prog 36 #[.string s, .string ⟨#[c]⟩] w fun e w' => e = .returned (.tuple #[.string ⟨(s.data.toList.take j).toArray⟩, .string ⟨(s.data.toList.drop (j + 1)).toArray⟩, .bool true]) ∧ Below w.heap.size w w' := by
  have hi : Lib.indexByte s.data.toList c = j := by rw [idxB_eq, h]
  have hj : j < s.size := by have := (cutL_hit h).2.2; simpa using this
  have HI := Lib.hid hi; clear hi h
  have HE1 := Lib.hid (ext_head s j)
  have HE2 := Lib.hid (ext_tail s (j + 1))
  have hj1 : (j : Int) ≤ s.size := by omega
  have hj2 : (j : Int) + 1 ≤ s.size := by omega
  have hjw : IntKind.i64.wrap ((j : Int) + 1) = (j : Int) + 1 := by rw [IntKind.wrap_i64]; omega
  go_enter Tryz.func36, Tryz.ntmps36
  go_wp2_with fail
  refine (Tryz.stringslite_Index_one s c _).mono ?_; rintro e w1 ⟨rfl, hw⟩
  subst hw
  rw [HI.out]
  go_wp2_with fail
  go_quiet (fail)
  go_wp2_with fail
  go_ret3
  exact ⟨ret_cut HE1.out HE2.out, below_drewN (Below.refl _ _) _⟩
theorem libCutMiss (s : ByteArray) (c : UInt8) (w : World) (h : Lib.index s.data.toList [c] = -1) :
    Calls Tryz.prog 18 #[.string s, .string ⟨#[c]⟩] w fun e w' => e = .returned (.tuple #[.string s, .string ByteArray.empty, .bool false]) ∧ w = w' := by
  have HC := Lib.hid h; clear h
  go_enter Tryz.func18, Tryz.ntmps18
  go_wp2_with fail
  refine (liteCutMiss s c _ HC.out).mono ?_; rintro e w1 ⟨rfl, rfl⟩
  go_wp2_with fail
  go_ret3
  exact ⟨rfl, rfl⟩
theorem libCutHit (s : ByteArray) (c : UInt8) (j : Nat) (w : World) (hs : s.size ≤ 1048576) (h : Lib.index s.data.toList [c] = j) :
    Calls Tryz.prog 18 #[.string s, .string ⟨#[c]⟩] w fun e w' => e = .returned (.tuple #[.string ⟨(s.data.toList.take j).toArray⟩, .string ⟨(s.data.toList.drop (j + 1)).toArray⟩, .bool true]) ∧ Below w.heap.size w w' := by
  have HC := Lib.hid h; clear h
  go_enter Tryz.func18, Tryz.ntmps18
  go_wp2_with fail
  refine (liteCutHit s c j _ hs HC.out).mono ?_; rintro e w1 ⟨rfl, b1⟩
  go_wp2_with fail
  go_ret3
  exact ⟨rfl, b1⟩
end Go.Proofs.YtkofjdddmpebmaaGreatDoor
