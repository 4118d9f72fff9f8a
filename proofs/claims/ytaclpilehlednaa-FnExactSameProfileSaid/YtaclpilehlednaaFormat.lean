/- Rankings as text: what the program's and the reference's functions compute. -/
import Derived.Test.YtaclpilehlednaaPeak
import Derived.Test.YtaclpilehlednaaAppend
import Derived.Laws.BytesArg
import Derived.Laws.Concat
namespace Go.Proofs.Ytaclpilehlednaa
open Go.RowKit

theorem ret_str {a b : ByteArray} (h : a = b) : Ending.returned (.string a) = .returned (.string b) := by rw [h]
theorem infoByte : (Try.prog.info? 5).map (fun i => (i.zero, i.size, i.bytes)) = some (some (.int .u8 0), 1, 1) := by kernel_rfl
/-- The letters of the first k. -/
def letters (xs : List Int) (k : Nat) : List Int := (xs.take k).map fun x => 97 + x
def fmtP (xs : List Int) : ByteArray := if rankOkP xs.length xs then strOfNums (letters xs xs.length) else ByteArray.empty
theorem letters_len {xs : List Int} {k : Nat} (h : k ≤ xs.length) : (letters xs k).length = k := by simp [letters]; omega
theorem letters_succ {xs : List Int} {k : Nat} (h : k < xs.length) : letters xs (k + 1) = letters xs k ++ [97 + nth xs k] := by
  unfold letters
  rw [List.take_succ_eq_append_getElem h, nth_get h, List.map_append]
  rfl
theorem str_append (a b : List Int) : strOfNums a ++ strOfNums b = strOfNums (a ++ b) := by
  apply ByteArray.ext
  simp [strOfNums]
theorem str_nil : strOfNums [] = ByteArray.empty := rfl
theorem fmt_no {n : Nat} {xs : List Int} (h : xs.length = n) (h1 : rankOkP n xs = false) : fmtP xs = ByteArray.empty := by simp [fmtP, h, h1]
theorem fmt_yes {n : Nat} {xs : List Int} (h : xs.length = n) (h1 : rankOkP n xs = true) : fmtP xs = strOfNums (letters xs n) := by simp [fmtP, h, h1]

set_option maxHeartbeats 1000000 in
theorem specLetter (x : Int) (w : World) (h1 : 0 ≤ x) (h2 : x ≤ 25) :
    Calls Try.prog 114 #[.int .i64 x] w fun e w' => e = .returned (.string (strOfNums [97 + x])) ∧ Below w.heap.size w w' := by
  have hcv := run_convert_bytes_arg (P := Try.prog) (w.alloc (.cells #[.int .u8 (97 + x)] 5)) 31 5 Try.underlying31 Try.underlying5 w.heap.size 0 1 1 [97 + x] rfl (fun i hi => by have e : i = 0 := (by omega); subst e; simp) 9 Try.underlying9
  go_enter Try.func114, Try.ntmps114
  go_wp2
  go_ret
  exact ⟨rfl, (Below.refl _ _).alloc (Nat.le_refl _) _⟩

set_option maxHeartbeats 2000000 in
theorem specFormatRanking (A : Option Addr) (n c : Nat) (xs : List Int) (w : World) (h : Ints w A n xs) (hn : (n : Int) ≤ 1048576) :
    Calls Try.prog 102 #[.slice A n c] w fun e w' => e = .returned (.string (fmtP xs)) ∧ Below w.heap.size w w' := by
  have hl := h.1
  cases h1 : rankOkP n xs with
  | false =>
    have HF := Lib.hid (fmt_no hl h1)
    clear hl
    go_enter Try.func102, Try.ntmps102
    go_wp2_with fail
    refine (specRankingOk _ _ _ _ xs _ h hn).mono ?_; rintro e w1 ⟨rfl, b1⟩
    go_wp2_with fail
    go_ret
    exact ⟨ret_str HF.out.symm, b1⟩
  | true =>
    have HF := Lib.hid (fmt_yes hl h1)
    have HL := Lib.hid hl
    have n5 := (of_rank h1).1
    have HR := Lib.hid (of_rank h1).2.2.1
    clear hl
    go_enter Try.func102, Try.ntmps102
    go_wp2_with fail
    refine (specRankingOk _ _ _ _ xs _ h hn).mono ?_; rintro e w1 ⟨rfl, b1⟩
    go_wp2_with fail
    go_loopw [3, 13] (fun u v wr => ∃ k : Nat, (k : Int) ≤ n ∧ u = .string (strOfNums (letters xs k)) ∧ v = .int .i64 k ∧ Below w.heap.size w wr) (fun _ v _ => n - (intOf v).toNat)
    case atStart => exact ⟨0, by omega, by simp [letters, str_nil]; rfl, rfl, b1⟩
    case round =>
      obtain ⟨k, hk, rfl, rfl, hb⟩ := hrel
      by_cases hlt : (k : Int) < n
      · obtain ⟨b, o, rfl, hbs, hc⟩ := (h.on hb).at_ (k := k) (by omega)
        have hx := HR.out k (by rw [HL.out]; omega)
        obtain ⟨hx1, hx2⟩ := hx
        have HS := Lib.hid (letters_succ (xs := xs) (k := k) (by rw [HL.out]; omega))
        have hs1 : ((strOfNums (letters xs k)).size : Int) ≤ 10 := by rw [strOfNums_size, letters_len (by rw [HL.out]; omega)]; omega
        have hs2 : ((strOfNums [97 + nth xs k]).size : Int) = 1 := by rw [strOfNums_size]; rfl
        have HS2 := Lib.hid hs2; clear hs2
        have hs3 : ((strOfNums [97 + nth xs k]).size : Int) ≤ 1 := by rw [HS2.out]; omega
        go_wp2_with fail
        refine (specLetter _ _ hx1 (by omega)).mono ?_; rintro e w2 ⟨rfl, b2⟩
        go_wp2_with fail
        go_roundw
        case rel => exact ⟨k + 1, by omega, by rw [HS.out, ← str_append], by go_num, Below.on hb b2⟩
        case measure => simp [intOf]; omega
      · obtain rfl : k = n := by omega
        go_wp2
        go_ret
        exact ⟨ret_str HF.out.symm, hb⟩

end Go.Proofs.Ytaclpilehlednaa
