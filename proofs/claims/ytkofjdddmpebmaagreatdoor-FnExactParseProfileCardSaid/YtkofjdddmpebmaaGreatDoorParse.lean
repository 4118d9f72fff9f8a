/- Rankings out of a text: what the program's and the reference's functions compute. -/
import Derived.Test.YtkofjdddmpebmaaGreatDoorFormat
import Derived.Lib.SlicesS
namespace Go.Proofs.YtkofjdddmpebmaaGreatDoor
open Go.RowKit

/-- The first k letters as numbers. -/
def nums (s : ByteArray) (k : Nat) : List Int := (s.data.toList.take k).map fun b => (b.toNat : Int) - 97
def parseOk (s : ByteArray) : Bool := rankOkP s.size (nums s s.size)
def parseP (s : ByteArray) : List Int := if parseOk s then nums s s.size else []
theorem nums_len {s : ByteArray} {k : Nat} (h : k ≤ s.size) : (nums s k).length = k := by
  have : s.data.toList.length = s.size := by simp
  simp only [nums, List.length_map, List.length_take]
  omega
theorem nums_succ {s : ByteArray} {k : Nat} (h : k < s.size) : nums s (k + 1) = nums s k ++ [(s[k].toNat : Int) - 97] := by
  have hl : k < s.data.toList.length := by simpa using h
  unfold nums
  rw [List.take_succ_eq_append_getElem hl, List.map_append]
  rfl
theorem nums_back {s : ByteArray} : strOfNums (letters (nums s s.size) s.size) = s := by
  have hl : s.data.toList.length = s.size := by simp
  apply ByteArray.ext
  unfold strOfNums letters nums
  simp only [List.take_of_length_le (Nat.le_of_eq hl), List.map_map]
  rw [List.take_of_length_le (by simp)]
  rw [List.map_map]
  apply Array.ext'
  conv => rhs; rw [← List.map_id s.data.toList]
  apply List.map_congr_left
  intro b _
  simp only [Function.comp, id]
  have e : (97 + ((b.toNat : Int) - 97)).toNat = b.toNat := by omega
  rw [e]
  exact UInt8.ofNat_toNat
theorem parse_no {s : ByteArray} (h : rankOkP s.size (nums s s.size) = false) : parseOk s = false ∧ parseP s = [] := by
  have e : parseOk s = false := h
  exact ⟨e, by simp [parseP, e]⟩
theorem parse_yes {s : ByteArray} (h : rankOkP s.size (nums s s.size) = true) : parseOk s = true ∧ parseP s = nums s s.size := by
  have e : parseOk s = true := h
  exact ⟨e, by simp [parseP, e]⟩
theorem parse_empty : rankOkP ByteArray.empty.size (nums ByteArray.empty ByteArray.empty.size) = false := by decide +kernel
theorem parse_len (s : ByteArray) : (parseP s).length ≤ s.size := by
  unfold parseP
  split
  · rw [nums_len (Nat.le_refl _)]; exact Nat.le_refl _
  · simp
theorem fmt_back {s : ByteArray} (h : rankOkP s.size (nums s s.size) = true) : fmtP (nums s s.size) = s := by
  rw [fmt_yes (nums_len (Nat.le_refl _)) h, nums_back]

set_option maxHeartbeats 4000000 in
theorem implParseRanking (s : ByteArray) (w : World) (hs : s.size ≤ 1048576) :
    Calls Tryz.prog 19 #[.string s] w fun e w' => ∃ A' c', e = .returned (.tuple #[.slice A' (parseP s).length c', .bool (parseOk s)]) ∧ Own w' w.heap.size A' (parseP s).length c' (parseP s) ∧ Below w.heap.size w w' := by
  by_cases h5 : 5 < (s.size : Int)
  · have h1 := rank_no1 (m := (s.size : Int)) (xs := nums s s.size) (by omega)
    obtain ⟨e1, e2⟩ := parse_no h1
    rw [e1, e2]
    clear e1 e2 h1
    go_enter Tryz.func19, Tryz.ntmps19
    go_wp2
    go_ret2
    exact ⟨none, 0, rfl, own_nil _ _, Below.refl _ _⟩
  · have h5' : (s.size : Int) ≤ 5 := by omega
    go_enter Tryz.func19, Tryz.ntmps19
    go_wp2_with fail
    go_loopw [4, 11] (fun u v wr => ∃ (k : Nat) (A : Option Addr) (c : Nat), (k : Int) ≤ s.size ∧ u = .slice A k c ∧ v = .int .i64 k ∧ Own wr w.heap.size A k c (nums s k) ∧ Below w.heap.size w wr) (fun _ v _ => s.size - (intOf v).toNat)
    case atStart => exact ⟨0, none, 0, by omega, rfl, rfl, own_nil _ _, Below.refl _ _⟩
    case round =>
      obtain ⟨k, A, c, hk, rfl, rfl, hown, hb⟩ := hrel
      by_cases hlt : k < s.size
      · have hsz := hb.size
        have HS := Lib.hid (nums_succ hlt)
        have hb8 := s[k].toNat_lt
        go_wp2_with (first | (at_builtin; refine wpList_ap _ rfl _ _ rfl w.heap.size A k c (nums s k) rfl (own_alloc hown _) (some ⟨wr.heap.size, 0, none⟩) 1 1 [(s[k].toNat : Int) - 97] rfl (ints_one wr _ _) (by omega) (by simp; omega) ?_; intro A' c' w3 hown' hg hblk))
        rw [← HS.out] at hown'
        go_roundw
        case rel => exact ⟨k + 1, A', c', by omega, rfl, by go_num, hown', below_ap (hb.alloc hsz _) (own_alloc hown _) hg (by simp; omega)⟩
        case measure => simp [intOf]; omega
      · obtain rfl : k = s.size := by omega
        go_wp2_with fail
        refine (implIsRanking _ _ _ (nums s s.size) _ (Ints.of_own hown) (by omega) (by have := (own_cap hown).1; omega)).mono ?_; rintro e w1 ⟨rfl, rfl⟩
        cases h1 : rankOkP s.size (nums s s.size) with
        | false =>
          obtain ⟨e1, e2⟩ := parse_no h1
          have E1 := Lib.hid e1
          have E2 := Lib.hid e2
          clear e1 e2
          go_wp2_with fail
          go_ret2
          rw [E1.out, E2.out]
          exact ⟨none, 0, rfl, own_nil _ _, hb⟩
        | true =>
          obtain ⟨e1, e2⟩ := parse_yes h1
          have E1 := Lib.hid e1
          have E2 := Lib.hid e2
          clear e1 e2
          go_wp2_with fail
          go_ret2
          rw [E1.out, E2.out, nums_len (Nat.le_refl _)]
          exact ⟨A, c, rfl, hown, hb⟩

set_option maxHeartbeats 4000000 in
theorem specParseRanking (s : ByteArray) (w : World) (hs : s.size ≤ 1048576) :
    Calls Tryz.prog 25 #[.string s] w fun e w' => ∃ A' c', e = .returned (.tuple #[.slice A' (parseP s).length c', .bool (parseOk s)]) ∧ Own w' w.heap.size A' (parseP s).length c' (parseP s) ∧ Below w.heap.size w w' := by
    go_enter Tryz.func25, Tryz.ntmps25
    go_wp2_with fail
    go_loopw [4, 5] (fun u v wr => ∃ (k : Nat) (A : Option Addr) (c : Nat), (k : Int) ≤ s.size ∧ u = .slice A k c ∧ v = .int .i64 k ∧ Own wr w.heap.size A k c (nums s k) ∧ Below w.heap.size w wr) (fun _ v _ => s.size - (intOf v).toNat)
    case atStart => exact ⟨0, some ⟨w.heap.size, 0, none⟩, 0, by omega, rfl, rfl, own_empty _ (Nat.le_refl _), (Below.refl _ _).alloc (Nat.le_refl _) _⟩
    case round =>
      obtain ⟨k, A, c, hk, rfl, rfl, hown, hb⟩ := hrel
      by_cases hlt : k < s.size
      · have hsz := hb.size
        have HS := Lib.hid (nums_succ hlt)
        have hb8 := s[k].toNat_lt
        go_wp2_with (first | (at_builtin; refine wpList_ap _ rfl _ _ rfl w.heap.size A k c (nums s k) rfl (own_alloc hown _) (some ⟨wr.heap.size, 0, none⟩) 1 1 [(s[k].toNat : Int) - 97] rfl (ints_one wr _ _) (by omega) (by simp; omega) ?_; intro A' c' w3 hown' hg hblk))
        rw [← HS.out] at hown'
        go_roundw
        case rel => exact ⟨k + 1, A', c', by omega, rfl, by go_num, hown', below_ap (hb.alloc hsz _) (own_alloc hown _) hg (by simp; omega)⟩
        case measure => simp [intOf]; omega
      · obtain rfl : k = s.size := by omega
        by_cases he : s = ByteArray.empty
        · subst he
          obtain ⟨e1, e2⟩ := parse_no parse_empty
          have E1 := Lib.hid e1
          have E2 := Lib.hid e2
          clear e1 e2
          go_wp2_with fail
          go_ret2
          rw [E1.out, E2.out]
          exact ⟨none, 0, rfl, own_nil _ _, hb⟩
        · have hem : (s.toList == ByteArray.empty.toList) = false := (Lib.bytes_beq_false_iff _ _).2 he
          have hem2 : (s.toList == []) = false := by rw [show ByteArray.empty.toList = [] by rw [ByteArray.toList_eq]; rfl] at hem; exact hem
          have HE := Lib.hid he; clear he
          cases h1 : rankOkP s.size (nums s s.size) with
          | false =>
            have hf : ((fmtP (nums s s.size)).toList == s.toList) = false := by
              rw [fmt_no (nums_len (Nat.le_refl _)) h1]; exact (Lib.bytes_beq_false_iff _ _).2 (fun e => HE.out e.symm)
            obtain ⟨e1, e2⟩ := parse_no h1
            have E1 := Lib.hid e1
            have E2 := Lib.hid e2
            clear e1 e2
            go_wp2_with fail
            refine (specFormatRanking _ _ _ (nums s s.size) _ (Ints.of_own hown) (by omega)).mono ?_; rintro e w1 ⟨rfl, b1⟩
            go_wp2_with fail
            go_ret2
            rw [E1.out, E2.out]
            exact ⟨none, 0, rfl, own_nil _ _, Below.on hb b1⟩
          | true =>
            have hf : ((fmtP (nums s s.size)).toList == s.toList) = true := by rw [fmt_back h1]; simp
            obtain ⟨e1, e2⟩ := parse_yes h1
            have E1 := Lib.hid e1
            have E2 := Lib.hid e2
            clear e1 e2
            go_wp2_with fail
            refine (specFormatRanking _ _ _ (nums s s.size) _ (Ints.of_own hown) (by omega)).mono ?_; rintro e w1 ⟨rfl, b1⟩
            go_wp2_with fail
            go_ret2
            rw [E1.out, E2.out, nums_len (Nat.le_refl _)]
            exact ⟨A, c, rfl, own_below hown b1 (Nat.le_refl _), Below.on hb b1⟩

end Go.Proofs.YtkofjdddmpebmaaGreatDoor
