/- Numbers as decimal text, in plain terms. -/
import Derived.Test.YtkofjdddmpebmaaGreatDoorWords
import Derived.Laws.BytesArg
import Derived.Laws.Concat
namespace Go.Proofs.YtkofjdddmpebmaaGreatDoor
open Go.RowKit

/-- The decimal digits, none for 0. -/
def digs (n : Nat) : List Int := if _h : n = 0 then [] else digs (n / 10) ++ [48 + ((n % 10 : Nat) : Int)]
termination_by n
decreasing_by omega
theorem digs_zero : digs 0 = [] := by rw [digs]; rfl
theorem digs_pos {n : Nat} (h : n ≠ 0) : digs n = digs (n / 10) ++ [48 + ((n % 10 : Nat) : Int)] := by rw [digs, dif_neg h]
theorem digs_len : ∀ (k n : Nat), n < 10 ^ k → (digs n).length ≤ k
  | 0, n, h => by
    obtain rfl : n = 0 := by simpa using h
    rw [digs_zero]; exact Nat.le_refl _
  | k + 1, n, h => by
    by_cases h0 : n = 0
    · subst h0; rw [digs_zero]; exact Nat.zero_le _
    · rw [digs_pos h0, List.length_append]
      have := digs_len k (n / 10) (by rw [Nat.pow_succ] at h; omega)
      simp; omega
theorem digs_len20 {n : Nat} (h : (n : Int) ≤ 9223372036854775807) : (digs n).length ≤ 19 := digs_len 19 n (by omega)
theorem strn_append (a b : List Int) : strOfNums a ++ strOfNums b = strOfNums (a ++ b) := by
  apply ByteArray.ext
  simp [strOfNums]
/-- The decimal digits, one for 0. -/
def decP (n : Nat) : List Int := digs (n / 10) ++ [48 + ((n % 10 : Nat) : Int)]
theorem decP_small {n : Nat} (h : n < 10) : decP n = [48 + (n : Int)] := by
  rw [decP, show n / 10 = 0 by omega, digs_zero, show n % 10 = n by omega]
  rfl
theorem decP_step {n : Nat} (h : 9 < n) : decP n = decP (n / 10) ++ [48 + ((n % 10 : Nat) : Int)] := by
  rw [decP, digs_pos (n := n / 10) (by omega)]
  rfl
theorem decP_len {n : Nat} (h : n ≤ 9223372036854775808) : (decP n).length ≤ 19 := by
  rw [decP, List.length_append]
  have := digs_len 18 (n / 10) (by omega)
  simp only [List.length_cons, List.length_nil]
  omega
theorem digs_byte : ∀ (n : Nat) (x : Int), x ∈ digs n → 48 ≤ x ∧ x ≤ 57 := by
  intro n
  induction n using Nat.strongRecOn with
  | _ n ih =>
    intro x hx
    by_cases h : n = 0
    · subst h; rw [digs_zero] at hx; cases hx
    · rw [digs_pos h, List.mem_append] at hx
      rcases hx with hx | hx
      · exact ih (n / 10) (by omega) x hx
      · rw [List.mem_singleton] at hx
        omega
theorem decP_byte {n : Nat} {x : Int} (h : x ∈ decP n) : 48 ≤ x ∧ x ≤ 57 := by
  rw [decP, List.mem_append] at h
  rcases h with h | h
  · exact digs_byte _ _ h
  · rw [List.mem_singleton] at h
    omega
/-- The number that digits spell. -/
def valI (xs : List Int) : Int := xs.foldl (fun a d => a * 10 + (d - 48)) 0
theorem valI_snoc (xs : List Int) (d : Int) : valI (xs ++ [d]) = valI xs * 10 + (d - 48) := by simp [valI]
theorem valI_digs : ∀ n : Nat, valI (digs n) = n := by
  intro n
  induction n using Nat.strongRecOn with
  | _ n ih =>
    by_cases h : n = 0
    · subst h; rw [digs_zero]; rfl
    · rw [digs_pos h, valI_snoc, ih (n / 10) (by omega)]
      omega
theorem valI_decP (n : Nat) : valI (decP n) = n := by
  rw [decP, valI_snoc, valI_digs]
  omega
theorem decP_inj {a b : Nat} (h : decP a = decP b) : a = b := by
  have := congrArg valI h
  rw [valI_decP, valI_decP] at this
  omega
/-- The decimal text of a number. -/
def fmtI (n : Int) : List Int := if n < 0 then 45 :: decP n.natAbs else decP n.natAbs
theorem fmtI_nat (n : Nat) : fmtI (n : Int) = decP n := by rw [fmtI, if_neg (by omega), Int.natAbs_natCast]
theorem fmtI_len {n : Int} (h1 : -9223372036854775808 ≤ n) (h2 : n ≤ 9223372036854775807) : (fmtI n).length ≤ 20 := by
  have := decP_len (n := n.natAbs) (by omega)
  rw [fmtI]
  split
  · simp only [List.length_cons]; omega
  · omega
theorem fmtI_pos (n : Int) : 0 < (fmtI n).length := by
  rw [fmtI]
  split
  · simp
  · simp [decP]

/-! ### Strings of numbers -/
theorem bytes_inj : ∀ {xs ys : List Int}, (∀ x ∈ xs, 0 ≤ x ∧ x < 256) → (∀ y ∈ ys, 0 ≤ y ∧ y < 256) → xs.map (fun n => UInt8.ofNat n.toNat) = ys.map (fun n => UInt8.ofNat n.toNat) → xs = ys
  | [], [], _, _, _ => rfl
  | [], _ :: _, _, _, h => by cases h
  | _ :: _, [], _, _, h => by cases h
  | x :: xs, y :: ys, h1, h2, h => by
    rw [List.map_cons, List.map_cons] at h
    injection h with h3 h4
    have e := bytes_inj (fun z hz => h1 z (List.mem_cons_of_mem _ hz)) (fun z hz => h2 z (List.mem_cons_of_mem _ hz)) h4
    have hx := h1 x List.mem_cons_self
    have hy := h2 y List.mem_cons_self
    have h5 := congrArg UInt8.toNat h3
    rw [UInt8.toNat_ofNat_of_lt' (by show x.toNat < 256; omega), UInt8.toNat_ofNat_of_lt' (by show y.toNat < 256; omega)] at h5
    rw [e, show x = y by omega]
theorem strn_inj {xs ys : List Int} (h1 : ∀ x ∈ xs, 0 ≤ x ∧ x < 256) (h2 : ∀ y ∈ ys, 0 ≤ y ∧ y < 256) (h : strOfNums xs = strOfNums ys) : xs = ys := by
  have := congrArg (fun t : ByteArray => t.data.toList) h
  simp only [strOfNums_data] at this
  exact bytes_inj h1 h2 this

/-! ### What is parted by a sign -/
theorem sep_inj {s : Int} : ∀ {a a' b b' : List Int}, s ∉ a → s ∉ a' → a ++ s :: b = a' ++ s :: b' → a = a' ∧ b = b'
  | [], [], _, _, _, _, h => by injection h with _ h; exact ⟨rfl, h⟩
  | [], x :: a', _, _, _, h2, h => by
    injection h with h _
    exact absurd (h ▸ List.mem_cons_self) h2
  | x :: a, [], _, _, h1, _, h => by
    injection h with h _
    exact absurd (h ▸ List.mem_cons_self) h1
  | x :: a, y :: a', b, b', h1, h2, h => by
    rw [List.cons_append, List.cons_append] at h
    injection h with h3 h4
    obtain ⟨e1, e2⟩ := sep_inj (fun hm => h1 (List.mem_cons_of_mem _ hm)) (fun hm => h2 (List.mem_cons_of_mem _ hm)) h4
    exact ⟨by rw [h3, e1], e2⟩
end Go.Proofs.YtkofjdddmpebmaaGreatDoor
