/- Rankings as text: what the program's and the reference's functions compute. -/
import Derived.Test.YtkofjdddmpebmaaGreatDoorPeak
import Derived.Test.YtkofjdddmpebmaaGreatDoorAppend
import Derived.Laws.BytesArg
import Derived.Laws.Concat
namespace Go.Proofs.YtkofjdddmpebmaaGreatDoor
open Go.RowKit

theorem ret_str {a b : ByteArray} (h : a = b) : Ending.returned (.string a) = .returned (.string b) := by rw [h]
theorem infoByte : (Tryz.prog.info? 5).map (fun i => (i.zero, i.size, i.bytes)) = some (some (.int .u8 0), 1, 1) := by kernel_rfl
/-- The letters of the first k. -/
def letters (xs : List Int) (k : Nat) : List Int := (xs.take k).map fun x => 97 + x
def fmtP (xs : List Int) : ByteArray := if rankOkP xs.length xs then strOfNums (letters xs xs.length) else ByteArray.empty
theorem letters_len {xs : List Int} {k : Nat} (h : k ≤ xs.length) : (letters xs k).length = k := by simp [letters]; omega
theorem letters_succ {xs : List Int} {k : Nat} (h : k < xs.length) : letters xs (k + 1) = letters xs k ++ [97 + nth xs k] := by
  unfold letters
  rw [List.take_succ_eq_append_getElem h, nth_get h, List.map_append]
  rfl
theorem str_append (a b : List Int) : strOfNums a ++ strOfNums b = strOfNums (a ++ b) := by
  apply ByteArray.ext
  simp [strOfNums]
theorem str_nil : strOfNums [] = ByteArray.empty := rfl
theorem fmt_no {n : Nat} {xs : List Int} (h : xs.length = n) (h1 : rankOkP n xs = false) : fmtP xs = ByteArray.empty := by simp [fmtP, h, h1]
theorem fmt_yes {n : Nat} {xs : List Int} (h : xs.length = n) (h1 : rankOkP n xs = true) : fmtP xs = strOfNums (letters xs n) := by simp [fmtP, h, h1]

set_option maxHeartbeats 1000000 in
theorem specLetter (x : Int) (w : World) (h1 : 0 ≤ x) (h2 : x ≤ 25) :
    Calls Tryz.prog 41 #[.int .i64 x] w fun e w' => e = .returned (.string (strOfNums [97 + x])) ∧ Below w.heap.size w w' := by
  have hcv := run_convert_bytes_arg (P := Tryz.prog) (w.alloc (.cells #[.int .u8 (97 + x)] 5)) 65 5 Tryz.underlying65 Tryz.underlying5 w.heap.size 0 1 1 [97 + x] rfl (fun i hi => by have e : i = 0 := (by omega); subst e; simp) 9 Tryz.underlying9
  go_enter Tryz.func41, Tryz.ntmps41
  go_wp2
  go_ret
  exact ⟨rfl, (Below.refl _ _).alloc (Nat.le_refl _) _⟩

set_option maxHeartbeats 2000000 in
theorem specFormatRanking (A : Option Addr) (n c : Nat) (xs : List Int) (w : World) (h : Ints w A n xs) (hn : (n : Int) ≤ 1048576) :
    Calls Tryz.prog 28 #[.slice A n c] w fun e w' => e = .returned (.string (fmtP xs)) ∧ Below w.heap.size w w' := by
  have hl := h.1
  cases h1 : rankOkP n xs with
  | false =>
    have HF := Lib.hid (fmt_no hl h1)
    clear hl
    go_enter Tryz.func28, Tryz.ntmps28
    go_wp2_with fail
    refine (specRankingOk _ _ _ _ xs _ h hn).mono ?_; rintro e w1 ⟨rfl, b1⟩
    go_wp2_with fail
    go_ret
    exact ⟨ret_str HF.out.symm, b1⟩
  | true =>
    have HF := Lib.hid (fmt_yes hl h1)
    have HL := Lib.hid hl
    have n5 := (of_rank h1).1
    have HR := Lib.hid (of_rank h1).2.2.1
    clear hl
    go_enter Tryz.func28, Tryz.ntmps28
    go_wp2_with fail
    refine (specRankingOk _ _ _ _ xs _ h hn).mono ?_; rintro e w1 ⟨rfl, b1⟩
    go_wp2_with fail
    go_loopw [3, 13] (fun u v wr => ∃ k : Nat, (k : Int) ≤ n ∧ u = .string (strOfNums (letters xs k)) ∧ v = .int .i64 k ∧ Below w.heap.size w wr) (fun _ v _ => n - (intOf v).toNat)
    case atStart => exact ⟨0, by omega, by simp [letters, str_nil]; rfl, rfl, b1⟩
    case round =>
      obtain ⟨k, hk, rfl, rfl, hb⟩ := hrel
      by_cases hlt : (k : Int) < n
      · obtain ⟨b, o, rfl, hbs, hc⟩ := (h.on hb).at_ (k := k) (by omega)
        have hx := HR.out k (by rw [HL.out]; omega)
        obtain ⟨hx1, hx2⟩ := hx
        have HS := Lib.hid (letters_succ (xs := xs) (k := k) (by rw [HL.out]; omega))
        have hs1 : ((strOfNums (letters xs k)).size : Int) ≤ 10 := by rw [strOfNums_size, letters_len (by rw [HL.out]; omega)]; omega
        have hs2 : ((strOfNums [97 + nth xs k]).size : Int) = 1 := by rw [strOfNums_size]; rfl
        have HS2 := Lib.hid hs2; clear hs2
        have hs3 : ((strOfNums [97 + nth xs k]).size : Int) ≤ 1 := by rw [HS2.out]; omega
        go_wp2_with fail
        refine (specLetter _ _ hx1 (by omega)).mono ?_; rintro e w2 ⟨rfl, b2⟩
        go_wp2_with fail
        go_roundw
        case rel => exact ⟨k + 1, by omega, by rw [HS.out, ← str_append], by go_num, Below.on hb b2⟩
        case measure => simp [intOf]; omega
      · obtain rfl : k = n := by omega
        go_wp2
        go_ret
        exact ⟨ret_str HF.out.symm, hb⟩

set_option maxHeartbeats 2000000 in
theorem implFormatRanking (A : Option Addr) (n c : Nat) (xs : List Int) (w : World) (h : Ints w A n xs) (hn : (n : Int) ≤ 1048576) (hcap : (n : Int) ≤ c) :
    Calls Tryz.prog 50 #[.slice A n c] w fun e w' => e = .returned (.string (fmtP xs)) ∧ Below w.heap.size w w' := by
  have hl := h.1
  cases h1 : rankOkP n xs with
  | false =>
    have HF := Lib.hid (fmt_no hl h1)
    clear hl
    go_enter Tryz.func50, Tryz.ntmps50
    go_wp2_with fail
    refine (implIsRanking _ _ _ xs _ h hn hcap).mono ?_; rintro e w1 ⟨rfl, rfl⟩
    go_wp2_with fail
    go_ret
    exact ⟨ret_str HF.out.symm, Below.refl _ _⟩
  | true =>
    have HF := Lib.hid (fmt_yes hl h1)
    have HL := Lib.hid hl
    have n5 := (of_rank h1).1
    have HR := Lib.hid (of_rank h1).2.2.1
    clear hl
    have hmk := run_make_row' (P := Tryz.prog) 65 5 (.int .u8 0) 1 Tryz.underlying65 infoByte rfl .i64 .i64 n (by omega) (by omega)
    go_enter Tryz.func50, Tryz.ntmps50
    go_wp2_with fail
    refine (implIsRanking _ _ _ xs _ h hn hcap).mono ?_; rintro e w1 ⟨rfl, rfl⟩
    go_wp2_with fail
    have HM := Lib.hid hmk; clear hmk
    have hst : (w.alloc (.cells (madeCells #[.int .u8 0] n) 5)).rowIs w.heap.size 5 n (fun j => .int .u8 (if j < 0 then 97 + nth xs j else 0)) := (World.rowIs_made w (.int .u8 0) n 5).congr fun j _ => by simp
    have hbl : Below w.heap.size w (w.alloc (.cells (madeCells #[.int .u8 0] n) 5)) := (Below.refl _ _).alloc (Nat.le_refl _) _
    generalize w.alloc (.cells (madeCells #[.int .u8 0] n) 5) = W at *
    go_loopw [14] (fun u wr => ∃ k : Nat, (k : Int) ≤ n ∧ u = .int .i64 k ∧ wr.rowIs w.heap.size 5 n (fun j => .int .u8 (if j < k then 97 + nth xs j else 0)) ∧ Below w.heap.size w wr) (fun u _ => n - (intOf u).toNat)
    case atStart => exact ⟨0, by omega, rfl, hst, hbl⟩
    case round =>
      obtain ⟨k, hk, rfl, hrow, hb⟩ := hrel
      by_cases hlt : (k : Int) < n
      · obtain ⟨b, o, rfl, hbs, hc⟩ := (h.on hb).at_ (k := k) (by omega)
        have hx := HR.out k (by rw [HL.out]; omega)
        obtain ⟨hx1, hx2⟩ := hx
        have hc2 := hrow.cell (i := k) (by omega)
        have hf2 := hrow.frozen k
        go_wp2
        go_roundw
        case rel =>
          refine ⟨k + 1, by omega, by go_num, (hrow.set k _).congr fun j _ => ?_, hb.setCell (Nat.le_refl _) _⟩
          by_cases e : j = k
          · subst e; rw [if_pos rfl, if_pos (by omega)]
          · rw [if_neg e]
            by_cases e2 : j < k
            · rw [if_pos e2, if_pos (by omega)]
            · rw [if_neg e2, if_neg (by omega)]
        case measure => simp [intOf]; omega
      · obtain rfl : k = n := by omega
        have hcv := run_convert_bytes_arg (P := Tryz.prog) wr 65 5 Tryz.underlying65 Tryz.underlying5 w.heap.size 0 k k (letters xs k) (letters_len (by rw [HL.out]; omega)) (fun i hi => by
          have e := hrow.cell (i := i) hi
          rw [if_pos hi] at e
          rw [Nat.zero_add, e, nth_get (by rw [HL.out]; exact hi)]
          have hi2 : i < xs.length := by rw [HL.out]; exact hi
          simp [letters, hi, hi2]) 9 Tryz.underlying9
        go_wp2
        go_ret
        exact ⟨ret_str HF.out.symm, hb⟩

end Go.Proofs.YtkofjdddmpebmaaGreatDoor
