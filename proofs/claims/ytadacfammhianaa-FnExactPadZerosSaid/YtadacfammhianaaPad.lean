/- A text with zeros ahead: what the program's and the reference's functions compute. -/
import Derived.Test.YtadacfammhianaaInts
import Derived.Test.YtadacfammhianaaShelf
import Derived.Laws.Concat
namespace Go.Proofs.Ytadacfammhianaa
open Go.RowKit

theorem ret_string {a b : ByteArray} (h : a = b) : Ending.returned (.string a) = .returned (.string b) := by rw [h]
/-- k zeros ahead. -/
def padK (s : ByteArray) : Nat → ByteArray
  | 0 => s
  | k + 1 => (⟨#[48]⟩ : ByteArray) ++ padK s k
theorem padK_size (s : ByteArray) (k : Nat) : (padK s k).size = k + s.size := by
  induction k with
  | zero => simp [padK]
  | succ k ih => rw [padK, ByteArray.size_append, ih]; have : (⟨#[48]⟩ : ByteArray).size = 1 := rfl; omega
theorem padK_repeat (s : ByteArray) (k : Nat) : (⟨(Lib.repeatL [48] k).toArray⟩ : ByteArray) ++ s = padK s k := by
  apply ByteArray.ext
  induction k with
  | zero => simp [padK, Lib.repeatL]
  | succ k ih =>
    rw [padK]
    simp only [ByteArray.data_append] at ih ⊢
    rw [← ih, ← Array.append_assoc]
    congr 1
    simp [Lib.repeatL]
def padP (s : ByteArray) (n : Int) : ByteArray := if n ≤ s.size ∨ 2000 < n then s else padK s (n - s.size).toNat
theorem pad_no {s : ByteArray} {n : Int} (h : n ≤ s.size ∨ 2000 < n) : padP s n = s := if_pos h
theorem pad_yes {s : ByteArray} {n : Int} (h : ¬ (n ≤ s.size ∨ 2000 < n)) : padP s n = padK s (n - s.size).toNat := if_neg h

def strLen : Value → Int
  | .string s => s.size
  | _ => 0

set_option maxHeartbeats 1000000 in
theorem specPadZeros (s : ByteArray) (n : Int) (w : World) (hs : (s.size : Int) ≤ 1048576) :
    Calls Try.prog 18 #[.string s, .int .i64 n] w fun e w' => e = .returned (.string (padP s n)) ∧ w = w' := by
  by_cases h1 : 2000 < n
  · have HF := Lib.hid (pad_no (s := s) (n := n) (Or.inr h1))
    go_enter Try.func18, Try.ntmps18
    go_wp2
    go_ret
    exact ⟨ret_string HF.out.symm, rfl⟩
  · go_enter Try.func18, Try.ntmps18
    go_wp2
    go_loop [0] (fun u => ∃ k : Nat, (k = 0 ∨ (k : Int) + s.size ≤ n) ∧ u = .string (padK s k)) (fun u => (n - strLen u).toNat)
    case atStart => exact ⟨0, Or.inl rfl, rfl⟩
    case round =>
      obtain ⟨k, hk, rfl⟩ := hrel
      have hz := padK_size s k
      have hz2 : ((padK s k).size : Int) = (k : Int) + (s.size : Int) := by omega
      have hz3 : ((padK s k).size : Int) ≤ 1050576 := by omega
      have HZ := Lib.hid hz; clear hz
      have hz4 := padK_size s (k + 1)
      have HZ4 := Lib.hid hz4; clear hz4
      by_cases hlt : ((padK s k).size : Int) < n
      · have HK : Hid ((⟨#[48]⟩ : ByteArray) ++ padK s k = padK s (k + 1)) := rfl
        have HZ2 := Lib.hid hz2; clear hz2
        go_wp2
        go_round
        case rel => exact ⟨k + 1, Or.inr (by have := HZ2.out; omega), by rw [HK.out]⟩
        case measure => rw [HK.out]; simp only [strLen]; have := HZ.out; have := HZ4.out; omega
      · have HF : Hid (padK s k = padP s n) := by
          unfold Hid
          rcases hk with rfl | hk
          · rw [pad_no (Or.inl (by omega))]; rfl
          · by_cases hk0 : k = 0
            · subst hk0; rw [pad_no (Or.inl (by omega))]; rfl
            · rw [pad_yes (by omega)]; congr 1; omega
        have HZ2 := Lib.hid hz2; clear hz2
        go_wp2
        go_ret
        exact ⟨ret_string HF.out, rfl⟩

set_option maxHeartbeats 1000000 in
theorem implPadZeros (s : ByteArray) (n : Int) (w : World) (hs : (s.size : Int) ≤ 1048576) (hn : -9223372036854775808 ≤ n ∧ n ≤ 9223372036854775807) :
    Calls Try.prog 19 #[.string s, .int .i64 n] w fun e w' => e = .returned (.string (padP s n)) ∧ Below w.heap.size w w' := by
  by_cases h1 : n ≤ s.size
  · have HF := Lib.hid (pad_no (s := s) (n := n) (Or.inl h1))
    go_enter Try.func19, Try.ntmps19
    go_wp2_with fail
    go_ret
    exact ⟨ret_string HF.out.symm, Below.refl _ _⟩
  · by_cases h2 : 2000 < n
    · have HF := Lib.hid (pad_no (s := s) (n := n) (Or.inr h2))
      go_enter Try.func19, Try.ntmps19
      go_wp2_with fail
      go_ret
      exact ⟨ret_string HF.out.symm, Below.refl _ _⟩
    · obtain ⟨k, hk⟩ : ∃ k : Nat, (k : Int) = n - s.size := ⟨(n - s.size).toNat, by omega⟩
      have HF : Hid (padP s n = (⟨(Lib.repeatL [48] k).toArray⟩ : ByteArray) ++ s) := by
        rw [Hid, padK_repeat, pad_yes (by omega)]; congr 1; omega
      have hk2 : k ≤ 2000 := by omega
      have HK := Lib.hid hk; clear hk
      have hr : ((⟨(Lib.repeatL [48] k).toArray⟩ : ByteArray).size : Int) ≤ 2000 := by
        have e : (⟨(Lib.repeatL [48] k).toArray⟩ : ByteArray).size = (Lib.repeatL [48] k).length := by simp [ByteArray.size]
        rw [e, Lib.repeatL_length]; simp; omega
      go_enter Try.func19, Try.ntmps19
      go_wp2_with fail
      rw [← HK.out]
      refine (Try.strings_Repeat (⟨#[48]⟩ : ByteArray) k _ (by omega) (by show 1 * k ≤ 140737488355328; omega)).mono ?_; rintro e w1 ⟨rfl, b1⟩
      generalize (⟨(Lib.repeatL (⟨#[48]⟩ : ByteArray).data.toList k).toArray⟩ : ByteArray) = Z at *
      go_wp2_with fail
      go_ret
      exact ⟨ret_string HF.out.symm, b1⟩
end Go.Proofs.Ytadacfammhianaa
