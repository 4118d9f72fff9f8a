/- Texts joined: what the laws' helpers, the program's and the reference's functions compute. -/
import Derived.Test.YtadacfammhianaaStrs
import Derived.Test.YtadacfammhianaaShelf
import Derived.Lib.Join
namespace Go.Proofs.Ytadacfammhianaa
open Go.RowKit
set_option maxRecDepth 100000

theorem ret_stringJ {a b : ByteArray} (h : a = b) : Ending.returned (.string a) = .returned (.string b) := by rw [h]
/-- How many bytes the first k hold. -/
def sumSz (ss : List ByteArray) (k : Nat) : Nat := ((List.range k).map fun j => (snth ss j).size).sum
theorem sumSz_succ (ss : List ByteArray) (k : Nat) : sumSz ss (k + 1) = sumSz ss k + (snth ss k).size := by simp [sumSz, List.range_succ]
theorem sumSz_mono (ss : List ByteArray) {k n : Nat} (h : k ≤ n) : sumSz ss k ≤ sumSz ss n := by
  induction n with
  | zero =>
    obtain rfl : k = 0 := by omega
    exact Nat.le_refl _
  | succ n ih =>
    by_cases e : k = n + 1
    · subst e; exact Nat.le_refl _
    · rw [sumSz_succ]; have := ih (by omega); omega
/-- The first k, joined. -/
def jK (ss : List ByteArray) (sep : ByteArray) : Nat → ByteArray
  | 0 => ByteArray.empty
  | k + 1 => (if k = 0 then jK ss sep k else jK ss sep k ++ sep) ++ snth ss k
theorem jK_size (ss : List ByteArray) (sep : ByteArray) (k : Nat) : (jK ss sep k).size ≤ sumSz ss k + k * sep.size := by
  induction k with
  | zero => simp [jK, sumSz]
  | succ k ih =>
    rw [jK, ByteArray.size_append, sumSz_succ, Nat.add_mul, Nat.one_mul]
    split
    · omega
    · rw [ByteArray.size_append]; omega
theorem jK_bd {ss : List ByteArray} {sep : ByteArray} {k n : Nat} (hk : k ≤ n) (hn : n ≤ 1048576) (hs : sumSz ss n ≤ 1048576) (hp : sep.size ≤ 1048576) : (jK ss sep k).size ≤ 1099512676352 := by
  have h1 := jK_size ss sep k
  have h2 := sumSz_mono ss hk
  have h3 : k * sep.size ≤ 1048576 * 1048576 := Nat.mul_le_mul (by omega) hp
  omega
theorem jK_first {ss : List ByteArray} {sep : ByteArray} : jK ss sep 1 = snth ss 0 := by simp [jK]
theorem jK_next {ss : List ByteArray} {sep : ByteArray} {k : Nat} (h : k ≠ 0) : jK ss sep (k + 1) = (jK ss sep k ++ sep) ++ snth ss k := by rw [jK, if_neg h]
theorem take_map_one {ss : List ByteArray} {k : Nat} (h : k < ss.length) (f : ByteArray → List UInt8) : (ss.take (k + 1)).map f = (ss.take k).map f ++ [f (snth ss k)] := by
  rw [List.take_succ_eq_append_getElem h, List.map_append, snth_get h]; rfl
theorem joinTail_snoc (sep : List UInt8) (r : List (List UInt8)) (x : List UInt8) : Lib.joinTail sep (r ++ [x]) = Lib.joinTail sep r ++ (sep ++ x) := by simp [Lib.joinTail]
theorem jK_join {ss : List ByteArray} {sep : ByteArray} : ∀ k, k ≤ ss.length → (jK ss sep k).data.toList = Lib.join ((ss.take k).map (·.data.toList)) sep.data.toList
  | 0, _ => by simp [jK, Lib.join_nil]
  | k + 1, h => by
    have ih := jK_join (ss := ss) (sep := sep) k (by omega)
    cases ss with
    | nil => simp at h
    | cons s r =>
      cases k with
      | zero =>
        rw [jK, if_pos rfl]
        simp [jK, snth, Lib.join_one]
      | succ k =>
        rw [jK_next (by omega), ByteArray.data_append, ByteArray.data_append, Array.toList_append, Array.toList_append, ih, take_map_one (k := k + 1) (by omega)]
        rw [List.take_succ_cons, List.map_cons, List.cons_append, Lib.join_cons, Lib.join_cons, joinTail_snoc, List.append_assoc, List.append_assoc]
theorem jK_all {ss : List ByteArray} {sep : ByteArray} {n : Nat} (h : ss.length = n) : (⟨(Lib.join (ss.map (·.data.toList)) sep.data.toList).toArray⟩ : ByteArray) = jK ss sep n := by
  apply ByteArray.ext
  have := jK_join (ss := ss) (sep := sep) n (by omega)
  rw [List.take_of_length_le (by omega)] at this
  show (Lib.join (ss.map (·.data.toList)) sep.data.toList).toArray = _
  rw [← this]

set_option maxHeartbeats 1000000 in
theorem toStringS (A : Option Addr) (n c : Nat) (ss : List ByteArray) (w : World) (h : Strs w A n ss) (hn : (n : Int) ≤ 1048576) :
    Calls Try.prog 16 #[.slice A n c] w fun e w' => e = .returned (.slice (some ⟨w.heap.size, 0, none⟩) n n) ∧ OwnS w' w.heap.size (some ⟨w.heap.size, 0, none⟩) n n ss ∧ Below w.heap.size w w' := by
  have hmk := run_make_row' (P := Try.prog) 22 9 (.string ByteArray.empty) 16 Try.underlying22 infoStr rfl .i64 .i64 n (by omega) (by omega)
  go_enter Try.func16, Try.ntmps16
  go_wp2
  have HM := Lib.hid hmk; clear hmk
  have hst : (w.alloc (.cells (madeCells #[.string ByteArray.empty] n) 9)).rowIs w.heap.size 9 n (fun j => if j < 0 then .string (snth ss j) else .string ByteArray.empty) := (World.rowIs_made w (.string ByteArray.empty) n 9).congr fun j _ => by simp
  have hbl : Below w.heap.size w (w.alloc (.cells (madeCells #[.string ByteArray.empty] n) 9)) := (Below.refl _ _).alloc (Nat.le_refl _) _
  generalize w.alloc (.cells (madeCells #[.string ByteArray.empty] n) 9) = W at *
  go_loopw [4] (fun u wr => ∃ k : Nat, (k : Int) ≤ n ∧ u = .int .i64 k ∧ wr.rowIs w.heap.size 9 n (fun j => if j < k then .string (snth ss j) else .string ByteArray.empty) ∧ Below w.heap.size w wr) (fun u _ => n - (intOf u).toNat)
  case atStart => exact ⟨0, by omega, rfl, hst, hbl⟩
  case round =>
    obtain ⟨k, hk, rfl, hrow, hb⟩ := hrel
    by_cases hlt : (k : Int) < n
    · obtain ⟨b, o, rfl, hbs, hc⟩ := (h.on hb).at_ (k := k) (by omega)
      have hc2 := hrow.cell (i := k) (by omega)
      rw [if_neg (by omega)] at hc2
      have hf2 := hrow.frozen k
      go_wp2
      go_roundw
      case rel =>
        refine ⟨k + 1, by omega, by go_num, (hrow.set k _).congr fun j _ => ?_, hb.setCell (Nat.le_refl _) _⟩
        by_cases e : j = k
        · subst e; rw [if_pos rfl, if_pos (by omega)]
        · rw [if_neg e]
          by_cases e2 : j < k
          · rw [if_pos e2, if_pos (by omega)]
          · rw [if_neg e2, if_neg (by omega)]
      case measure => simp [intOf]; omega
    · go_wp2
      go_ret
      obtain rfl : k = n := by omega
      exact ⟨rfl, own_of_row hrow (Nat.le_refl _) (by simp only [maxLen]; omega) (by rw [svs_len]; exact h.1) (fun j hj => by rw [svs_at (by rw [h.1]; exact hj), if_pos hj]), hb⟩

set_option maxHeartbeats 1000000 in
theorem szStringS (A : Option Addr) (n c : Nat) (ss : List ByteArray) (w : World) (h : Strs w A n ss) (hn : n ≤ maxLen) (hsz : ∀ j, (snth ss j).size ≤ maxLen) :
    Calls Try.prog 14 #[.slice A n c, .int .i64 1048576] w fun e w' => (∃ r : Int, e = .returned (.int .i64 r) ∧ -1 ≤ r ∧ r ≤ 1048576 ∧ (0 ≤ r → (n : Int) ≤ 1048576 ∧ sumSz ss n ≤ 1048576)) ∧ w = w' := by
  have hmx : maxLen = 9223372036854775807 := rfl
  have hn' : (n : Int) ≤ 9223372036854775807 := by omega
  have HZ : Hid (∀ j, ((snth ss j).size : Int) ≤ 9223372036854775807) := fun j => by have := hsz j; omega
  clear hsz
  by_cases h0 : 1048576 - (n : Int) < 0
  · go_enter Try.func14, Try.ntmps14
    go_wp2
    go_ret
    exact ⟨⟨-1, rfl, by omega, by omega, by omega⟩, rfl⟩
  · go_enter Try.func14, Try.ntmps14
    go_wp2
    go_loop [1, 5] (fun u v => ∃ (k : Nat) (left : Int), (k : Int) ≤ n ∧ 0 ≤ left ∧ left ≤ 1048576 ∧ u = .int .i64 left ∧ v = .int .i64 k ∧ left + (n : Int) + (sumSz ss k : Int) = 1048576) (fun _ v => n - (intOf v).toNat)
    case atStart => exact ⟨0, 1048576 - n, by omega, by omega, by omega, rfl, rfl, by simp [sumSz]⟩
    case round =>
      obtain ⟨k, left, hk, hl0, hl1, rfl, rfl, hsum⟩ := hrel
      have HS := Lib.hid hsum; clear hsum
      by_cases hlt : (k : Int) < n
      · obtain ⟨b, o, rfl, hbs, hc⟩ := h.at_ (k := k) (by omega)
        have hz := HZ.out k
        have HN := Lib.hid (sumSz_succ ss k)
        have hz0 : 0 ≤ ((snth ss k).size : Int) := by omega
        by_cases hneg : left - ((snth ss k).size : Int) < 0
        · go_wp2
          go_ret
          exact ⟨⟨-1, rfl, by omega, by omega, by omega⟩, rfl⟩
        · go_wp2
          go_round
          case rel => exact ⟨k + 1, left - (snth ss k).size, by omega, by omega, by omega, rfl, by go_num, by rw [HN.out]; have := HS.out; omega⟩
          case measure => simp [intOf]; omega
      · obtain rfl : k = n := by omega
        have hs := HS.out
        have HQ : Hid ((k : Int) ≤ 1048576 ∧ sumSz ss k ≤ 1048576) := ⟨by omega, by omega⟩
        clear hs
        go_wp2
        go_ret
        exact ⟨⟨left, rfl, by omega, hl1, fun _ => HQ.out⟩, rfl⟩

set_option maxHeartbeats 1000000 in
theorem implJoin (A : Option Addr) (n c : Nat) (ss : List ByteArray) (sep : ByteArray) (w : World) (h : Strs w A n ss) (hn : (n : Int) ≤ 1048576) (hcap : n ≤ c) (hs : sumSz ss n ≤ 1048576) (hp : (sep.size : Int) ≤ 1048576) :
    Calls Try.prog 17 #[.slice A n c, .string sep] w fun e w' => e = .returned (.string (jK ss sep n)) ∧ Below w.heap.size w w' := by
  have HA := Lib.hid (jK_all (ss := ss) (sep := sep) h.1)
  by_cases h0 : n = 0
  · subst h0
    have HE : Hid ((⟨#[]⟩ : ByteArray) = jK ss sep 0) := rfl
    go_enter Try.func17, Try.ntmps17
    go_wp2_with fail
    refine (Try.strings_Join_none A c sep _).mono ?_; rintro e w1 ⟨rfl, hw⟩
    subst hw
    go_wp2_with fail
    go_ret
    exact ⟨ret_stringJ HE.out, Below.refl _ _⟩
  · obtain ⟨b, o, rfl, hb, hc⟩ := h.2 (by omega)
    have hl := h.1
    have hlen : (Lib.join (ss.map (·.data.toList)) sep.data.toList).length ≤ 140737488355328 := by
      have e : (Lib.join (ss.map (·.data.toList)) sep.data.toList).length = (jK ss sep n).size := by rw [← HA.out]; simp [ByteArray.size]
      rw [e]
      have := jK_bd (ss := ss) (sep := sep) (k := n) (n := n) (Nat.le_refl _) (by omega) hs (by omega)
      omega
    have hcall := Try.strings_Join b o c ss sep w (fun j x hx => by
      have hj : j < ss.length := (List.getElem?_eq_some_iff.1 hx).1
      rw [hc j (by omega), snth_get hj]
      rw [List.getElem?_eq_getElem hj] at hx
      injection hx with hx
      rw [hx]) hb (by omega) (by omega) hlen
    rw [hl] at hcall
    have HC := Lib.hid hcall
    clear hcall hc hlen hl h
    go_enter Try.func17, Try.ntmps17
    go_wp2_with fail
    refine HC.out.mono ?_; rintro e w1 ⟨rfl, b1⟩
    rw [HA.out]
    go_wp2_with fail
    go_ret
    exact ⟨rfl, b1⟩

set_option maxHeartbeats 2000000 in
theorem specJoin (A : Option Addr) (n c : Nat) (ss : List ByteArray) (sep : ByteArray) (w : World) (h : Strs w A n ss) (hn : (n : Int) ≤ 1048576) (hs : sumSz ss n ≤ 1048576) (hp : (sep.size : Int) ≤ 1048576) :
    Calls Try.prog 15 #[.slice A n c, .string sep] w fun e w' => e = .returned (.string (jK ss sep n)) ∧ w = w' := by
  have HB : Hid (∀ k, k ≤ n → ((jK ss sep k).size : Int) ≤ 1099512676352) := fun k hk => by have := jK_bd (ss := ss) (sep := sep) hk (by omega) hs (by omega); omega
  have HS : Hid (∀ k, k < n → ((snth ss k).size : Int) ≤ 1048576) := fun k hk => by
    have h1 := sumSz_mono ss (show k + 1 ≤ n by omega)
    rw [sumSz_succ] at h1
    omega
  clear hs
  go_enter Try.func15, Try.ntmps15
  go_wp2
  go_loop [5, 10] (fun u v => ∃ k : Nat, (k : Int) ≤ n ∧ u = .string (jK ss sep k) ∧ v = .int .i64 k) (fun _ v => n - (intOf v).toNat)
  case atStart => exact ⟨0, by omega, rfl, rfl⟩
  case round =>
    obtain ⟨k, hk, rfl, rfl⟩ := hrel
    have hb := HB.out k (by omega)
    by_cases hlt : (k : Int) < n
    · obtain ⟨b, o, rfl, hbs, hc⟩ := h.at_ (k := k) (by omega)
      have hz := HS.out k (by omega)
      by_cases hk0 : 0 < (k : Int)
      · have HN := Lib.hid (jK_next (ss := ss) (sep := sep) (k := k) (by omega))
        have hb2 : ((jK ss sep k ++ sep).size : Int) ≤ 1099513724928 := by rw [ByteArray.size_append]; omega
        go_wp2
        go_round
        case rel => exact ⟨k + 1, by omega, by rw [HN.out], by go_num⟩
        case measure => simp [intOf]; omega
      · obtain rfl : k = 0 := by omega
        have HN := Lib.hid (jK_first (ss := ss) (sep := sep))
        have HJ : Hid (jK ss sep 0 = ByteArray.empty) := rfl
        rw [HJ.out] at hb ⊢
        rw [Nat.add_zero] at hc
        go_wp2
        go_round
        case rel => exact ⟨1, by omega, by first | rw [HN.out] | (simp [HN.out]), rfl⟩
        case measure => simp [intOf]; omega
    · obtain rfl : k = n := by omega
      go_wp2
      go_ret
      exact ⟨rfl, rfl⟩
end Go.Proofs.Ytadacfammhianaa
