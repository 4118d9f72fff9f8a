/- The plain text functions: IsDigits and IsName of the program and of the reference compute the same Boolean of the bytes. -/
import Derived.Test.YtkofjdddmpebmaaGreatDoorRows
import Derived.Test.YtkofjdddmpebmaaGreatDoorRange
import Derived.WalkKit
import Derived.WalkSpells
import Derived.WalkLawsBesides
import Derived.Lib.Hide
import Derived.Lib.Strings
namespace Go.Proofs.YtkofjdddmpebmaaGreatDoor
open Go.RowKit

theorem take_snocB (s : ByteArray) (k : Nat) (h : k < s.size) : s.data.toList.take (k + 1) = s.data.toList.take k ++ [s[k]] := by
  rw [List.take_succ_eq_append_getElem (by simpa using h)]; rfl
theorem all_snoc {p : UInt8 → Bool} {s : ByteArray} {k : Nat} (h : k < s.size) : (s.data.toList.take (k + 1)).all p = ((s.data.toList.take k).all p && p s[k]) := by
  rw [take_snocB s k h]; simp
theorem all_whole {p : UInt8 → Bool} {s : ByteArray} {k : Nat} (h : ¬ k < s.size) : (s.data.toList.take k).all p = s.data.toList.all p := by
  rw [List.take_of_length_le (by simp; omega)]
theorem all_false {p : UInt8 → Bool} {s : ByteArray} {k : Nat} (h : k < s.size) (hp : p s[k] = false) : s.data.toList.all p = false := by
  rw [List.all_eq_false]
  exact ⟨s[k], by exact List.getElem_mem (by simpa using h), by simp [hp]⟩
def digB (c : UInt8) : Bool := decide (48 ≤ (c.toNat : Int)) && decide ((c.toNat : Int) ≤ 57)
def lowB (c : UInt8) : Bool := decide (97 ≤ (c.toNat : Int)) && decide ((c.toNat : Int) ≤ 122)
def isDigitsP (l : List UInt8) : Bool := l.all digB && decide (0 < l.length)

theorem digB_true {c : UInt8} (h : 48 ≤ (c.toNat : Int)) (h' : (c.toNat : Int) ≤ 57) : digB c = true := by unfold digB; simp; omega
theorem digB_false {c : UInt8} (h : (c.toNat : Int) < 48 ∨ 57 < (c.toNat : Int)) : digB c = false := by
  rw [Bool.eq_false_iff]; unfold digB; simp; omega

set_option maxHeartbeats 400000 in
theorem specIsDigits (s : ByteArray) (w : World) (hs : s.size ≤ 4611686018427387904) :
    Calls Tryz.prog 23 #[.string s] w fun e w' => e = .returned (.bool (isDigitsP s.data.toList)) ∧ w = w' := by
  go_enter Tryz.func23, Tryz.ntmps23
  go_wp2
  go_loop [3] (fun i => ∃ k : Nat, k ≤ s.size ∧ i = .int .i64 k ∧ (s.data.toList.take k).all digB = true) (fun i => s.size - (intOf i).toNat)
  case atStart => exact ⟨0, Nat.zero_le _, rfl, by simp⟩
  case round =>
    obtain ⟨k, hk, rfl, hall⟩ := hrel
    by_cases hlt : k < s.size
    · have H := Lib.hid hall; clear hall
      by_cases hd : 48 ≤ (s[k].toNat : Int) ∧ (s[k].toNat : Int) ≤ 57
      · obtain ⟨h1, h2⟩ := hd
        go_wp2
        go_round
        case rel => exact ⟨k + 1, by omega, by go_num, by rw [all_snoc hlt, H.out, digB_true h1 h2]; rfl⟩
        case measure => simp [intOf]; omega
      · have hf := digB_false (c := s[k]) (by omega)
        have hfin : isDigitsP s.data.toList = false := by unfold isDigitsP; rw [all_false hlt hf]; rfl
        have HF := Lib.hid hfin; clear hfin hf
        by_cases h1 : (s[k].toNat : Int) < 48
        · go_wp2
          go_ret
          exact ⟨ret_bool HF.out.symm, rfl⟩
        · have h2 : 57 < (s[k].toNat : Int) := by omega
          go_wp2
          go_ret
          exact ⟨ret_bool HF.out.symm, rfl⟩
    · have H := Lib.hid hall; clear hall
      go_wp2
      go_ret
      exact ⟨ret_bool (by unfold isDigitsP; rw [← all_whole hlt, H.out]; simp), rfl⟩

/-! ### In a range -/
/-! ### IsName -/
def nameB (c : UInt8) : Bool := lowB c || digB c
def isNameP (l : List UInt8) : Bool := inB l.length 1 8 && lowB (l.headD 0) && l.all nameB

theorem lowB_true {c : UInt8} (h : 97 ≤ (c.toNat : Int)) (h' : (c.toNat : Int) ≤ 122) : lowB c = true := by unfold lowB; simp; omega
theorem lowB_false {c : UInt8} (h : (c.toNat : Int) < 97 ∨ 122 < (c.toNat : Int)) : lowB c = false := by
  rw [Bool.eq_false_iff]; unfold lowB; simp; omega
theorem head_eq (s : ByteArray) (h : 0 < s.size) : s.data.toList.headD 0 = s[0] := by
  have : 0 < s.data.toList.length := by simpa using h
  rw [List.headD_eq_head?_getD, List.head?_eq_getElem?, List.getElem?_eq_getElem this]; rfl
theorem len_eq (s : ByteArray) : (s.data.toList.length : Int) = (s.size : Int) := by simp
theorem name_of_low {c : UInt8} (h : lowB c = true) : nameB c = true := by simp [nameB, h]
theorem name_of_dig {c : UInt8} (h : digB c = true) : nameB c = true := by simp [nameB, h]
theorem name_not {c : UInt8} (h : lowB c = false) (h' : digB c = false) : nameB c = false := by simp [nameB, h, h']
theorem isName_bad {s : ByteArray} {k : Nat} (h : k < s.size) (h' : nameB s[k] = false) : isNameP s.data.toList = false := by
  unfold isNameP; rw [all_false h h']; simp
theorem isName_head {s : ByteArray} (h : 0 < s.size) (h' : lowB s[0] = false) : isNameP s.data.toList = false := by
  unfold isNameP; rw [head_eq s h, h']; simp
theorem isName_len {s : ByteArray} (h : ¬ (1 ≤ (s.size : Int) ∧ (s.size : Int) ≤ 8)) : isNameP s.data.toList = false := by
  unfold isNameP; rw [len_eq, inB_false h]; rfl
theorem isName_end {s : ByteArray} (h : (s.data.toList).all nameB = true) (h' : 0 < s.size → lowB (s.data.toList.headD 0) = true) : isNameP s.data.toList = inB s.size 1 8 := by
  unfold isNameP; rw [h, len_eq]
  by_cases h0 : 0 < s.size
  · rw [h' h0]; simp
  · rw [inB_false (by omega)]; rfl

theorem digits_one (s : ByteArray) (k : Nat) (h : k < s.size) : isDigitsP (s.extract k (k + 1)).data.toList = digB s[k] := by
  have h1 : (s.extract k (k + 1)).data.toList = [s[k]] := by
    rw [Lib.extract_data, show k + 1 - k = 1 from by omega, List.drop_eq_getElem_cons (by simpa using h)]
    rfl
  rw [h1]; simp [isDigitsP]
end Go.Proofs.YtkofjdddmpebmaaGreatDoor
