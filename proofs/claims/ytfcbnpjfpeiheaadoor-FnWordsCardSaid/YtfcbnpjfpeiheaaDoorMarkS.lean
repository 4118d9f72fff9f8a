/- Slices of strings: marks laid and marks found; numbers as digits. -/
import Derived.Test.YtfcbnpjfpeiheaaDoorStrs
import Derived.Test.YtfcbnpjfpeiheaaDoorDec
namespace Go.Proofs.YtfcbnpjfpeiheaaDoor
open Go.RowKit
set_option maxRecDepth 100000

/-- The mark of a string. -/
def mtB (k : Int) : ByteArray := if k ≤ 0 then ⟨#[109, 48]⟩ else (⟨#[109]⟩ : ByteArray) ++ strOfNums (digs k.toNat)
theorem ret_stringS {a b : ByteArray} (h : a = b) : Ending.returned (.string a) = .returned (.string b) := by rw [h]

set_option maxHeartbeats 2000000 in
theorem lawMarkText (k : Int) (w : World) (hk : k ≤ 9223372036854775807) :
    Calls Tryd.prog 45 #[.int .i64 k] w fun e w' => e = .returned (.string (mtB k)) ∧ Below w.heap.size w w' := by
  by_cases h0 : k ≤ 0
  · have HF : Hid (mtB k = ⟨#[109, 48]⟩) := if_pos h0
    go_enter Tryd.func45, Tryd.ntmps45
    go_wp2
    go_ret
    exact ⟨ret_stringS HF.out.symm, Below.refl _ _⟩
  · obtain ⟨m, rfl⟩ : ∃ m : Nat, k = (m : Int) := ⟨k.toNat, by omega⟩
    have HF : Hid (mtB (m : Int) = (⟨#[109]⟩ : ByteArray) ++ strOfNums (digs m)) := by rw [Hid, mtB, if_neg h0, Int.toNat_natCast]
    have hl := digs_len20 hk
    go_enter Tryd.func45, Tryd.ntmps45
    go_wp2
    go_loopw [0, 3] (fun u v wr => ∃ (q : Nat) (t : List Int), (q : Int) ≤ m ∧ u = .int .i64 q ∧ v = .string (strOfNums t) ∧ digs q ++ t = digs m ∧ Below w.heap.size w wr) (fun u _ _ => (intOf u).toNat)
    case atStart => exact ⟨m, [], by omega, rfl, rfl, by simp, Below.refl _ _⟩
    case round =>
      obtain ⟨q, t, hq, rfl, rfl, hdig, hb⟩ := hrel
      have hsz : ((strOfNums t).size : Int) ≤ 19 := by
        rw [strOfNums_size]
        have := congrArg List.length hdig
        rw [List.length_append] at this
        omega
      have HD := Lib.hid hdig; clear hdig
      by_cases hq0 : 0 < (q : Int)
      · have HP := Lib.hid (digs_pos (n := q) (by omega))
        have hm0 : 0 ≤ (q : Int) % 10 := by omega
        have hm9 : (q : Int) % 10 ≤ 9 := by omega
        have hcv := run_convert_bytes_arg (P := Tryd.prog) (wr.alloc (.cells #[.int .u8 (48 + (q : Int) % 10)] 5)) 28 5 Tryd.underlying28 Tryd.underlying5 wr.heap.size 0 1 1 [48 + (q : Int) % 10] rfl (fun i hi => by have e : i = 0 := (by omega); subst e; simp) 9 Tryd.underlying9
        have hs1 : ((strOfNums [48 + (q : Int) % 10]).size : Int) ≤ 1 := by rw [strOfNums_size]; simp
        go_wp2
        go_roundw
        case rel =>
          refine ⟨q / 10, [48 + (q : Int) % 10] ++ t, by omega, by first | rfl | (congr 1), by rw [strn_append], ?_, hb.alloc hb.size _⟩
          rw [← HD.out, HP.out, List.append_assoc]
          rfl
        case measure => simp [intOf]; omega
      · obtain rfl : q = 0 := by omega
        have hfin : strOfNums t = strOfNums (digs m) := by rw [← HD.out, digs_zero, List.nil_append]
        rw [hfin] at hsz ⊢
        clear hfin
        go_wp2
        go_ret
        exact ⟨ret_stringS HF.out.symm, hb⟩

/-- The marks. -/
def mks (m : Int) (n : Nat) : List ByteArray := (List.range n).map fun (j : Nat) => mtB (m + (j : Int))
theorem mks_len (m : Int) (n : Nat) : (mks m n).length = n := by simp [mks]
theorem mks_at (m : Int) {n j : Nat} (hj : j < n) : snth (mks m n) j = mtB (m + j) := by simp [mks, snth, List.getD, hj]
theorem mks_snoc (m : Int) (k : Nat) : mks m (k + 1) = mks m k ++ [mtB (m + k)] := by simp [mks, List.range_succ]
def markedS (m : Int) (k : Nat) (vs : List Value) : List Value := svs (mks m k) ++ vs.drop k
theorem markedS_zero (m : Int) (vs : List Value) : markedS m 0 vs = vs := by simp [markedS, mks, svs]
theorem markedS_all (m : Int) {n : Nat} {vs : List Value} (h : vs.length = n) : markedS m n vs = svs (mks m n) := by subst h; simp [markedS]
theorem markedS_set (m : Int) {k : Nat} {vs : List Value} (h : k < vs.length) : (markedS m k vs).set k (.string (mtB (m + k))) = markedS m (k + 1) vs := by
  have hl : (svs (mks m k)).length = k := by rw [svs_len, mks_len]
  have hd : vs.drop k = vs[k] :: vs.drop (k + 1) := List.drop_eq_getElem_cons h
  unfold markedS
  rw [List.set_append_right _ _ (by omega), hl, Nat.sub_self, hd, List.set_cons_zero, mks_snoc]
  simp [svs]
theorem markedS_len (m : Int) {k : Nat} {vs : List Value} (h : k ≤ vs.length) : (markedS m k vs).length = vs.length := by
  simp [markedS, svs, mks]; omega
theorem grown_below' {w w' : World} {row : Option Nat} (h : Below w.heap.size w w') : w.grownBy w' row := ⟨h.os, h.tape, h.output, h.size, fun k hk _ => h.block k hk⟩

set_option maxHeartbeats 1000000 in
theorem markStringS (A : Option Addr) (n c base : Nat) (vs : List Value) (m : Int) (w : World) (h : w.ownsRow base 9 1 (.slice A n c) n vs) (hn : (n : Int) ≤ 1099511627776) (hm : 0 ≤ m ∧ m ≤ 1152921504606846976) :
    Calls Tryd.prog 26 #[.slice A n c, .int .i64 m] w fun e w' => e = .returned (.int .i64 (m + n)) ∧ OwnS w' base A n c (mks m n) ∧ w.grownBy w' (A.map (·.block)) := by
  have hl : vs.length = n := by have := h.1; omega
  go_enter Tryd.func26, Tryd.ntmps26
  go_wp2_with fail
  go_loopw [1, 5] (fun u v wr => ∃ k : Nat, (k : Int) ≤ n ∧ u = .int .i64 (m + k) ∧ v = .int .i64 k ∧ wr.ownsRow base 9 1 (.slice A n c) n (markedS m k vs) ∧ w.grownBy wr (A.map (·.block))) (fun _ v _ => n - (intOf v).toNat)
  case atStart => exact ⟨0, by omega, by simp, rfl, by rw [markedS_zero]; exact h, World.grownBy.refl _ _⟩
  case round =>
    obtain ⟨k, hk, rfl, rfl, hown, hg⟩ := hrel
    by_cases hlt : (k : Int) < n
    · obtain ⟨g, rfl, hb, hgs⟩ := own_form hown (by omega)
      have hml := markedS_len m (k := k) (vs := vs) (by omega)
      go_wp2_with fail
      refine (lawMarkText (m + k) _ (by omega)).mono ?_; rintro e w1 ⟨rfl, b1⟩
      have hown1 := own_below hown b1 (Nat.le_refl _)
      have hg1 := grown_trans hg (grown_below' (row := some g) b1)
      have hc : w1.cell? ⟨g, k, none⟩ = some ((markedS m k vs)[k]'(by omega)) := by rw [hown1.cellAt k (by omega)]; exact List.getElem?_eq_getElem (by omega)
      have hf := hown1.frozenAt k
      have hs := hown1.stored k (.string (mtB (m + k)))
      rw [markedS_set m (by omega)] at hs
      have HS := Lib.hid hs; clear hs
      generalize (markedS m k vs)[k]'(by omega) = old at hc
      go_wp2_with fail
      go_roundw
      case rel => exact ⟨k + 1, by omega, by go_num, by go_num, HS.out.1, grown_trans hg1 HS.out.2⟩
      case measure => simp [intOf]; omega
    · go_wp2
      go_ret
      obtain rfl : k = n := by omega
      exact ⟨rfl, by rw [markedS_all m hl] at hown; exact hown, hg⟩

attribute [local go_sem ↓] Go.wp_at_zero Go.wp_at_succ
set_option maxHeartbeats 2000000 in
theorem heldStringS (A : Option Addr) (n c : Nat) (m : Int) (w : World) (h : Strs w A n (mks m n)) (hn : (n : Int) ≤ 1099511627776) (hm : 0 ≤ m ∧ m ≤ 1152921504606846976) :
    Calls Tryd.prog 27 #[.slice A n c, .int .i64 m] w fun e w' => e = .returned (.int .i64 (m + n)) ∧ Below w.heap.size w w' := by
  go_enter Tryd.func27, Tryd.ntmps27
  go_wp2_with fail
  go_loopw [1, 5] (fun u v wr => ∃ k : Nat, (k : Int) ≤ n ∧ u = .int .i64 (m + k) ∧ v = .int .i64 k ∧ Below w.heap.size w wr) (fun _ v _ => n - (intOf v).toNat)
  case atStart => exact ⟨0, by omega, by simp, rfl, Below.refl _ _⟩
  case round =>
    obtain ⟨k, hk, rfl, rfl, hb⟩ := hrel
    by_cases hlt : (k : Int) < n
    · obtain ⟨b, o, rfl, hbs, hc⟩ := (h.on hb).at_ (k := k) (by omega)
      rw [mks_at m (by omega)] at hc
      have hk2 : m + (k : Int) ≤ 9223372036854775807 := by omega
      have bd := Below.drew (Below.refl wr.heap.size wr)
      go_wp2_with fail
      go_region_with (go_at_call 45; refine (lawMarkText (m + k) _ hk2).mono ?_; rintro e w1 ⟨rfl, b1⟩; have hb1 := Below.on hb (bd.trans b1); have hc1 := (b1.cell (p := ⟨b, o + k, none⟩) hbs).trans hc)
      all_goals (
        go_simp
        go_wp2
        go_roundw
        case rel => first | exact ⟨k + 1, by omega, by go_num, by go_num, hb1⟩ | exact ⟨k + 1, by omega, by go_num, by go_num, hb1.drew⟩
        case measure => simp [intOf]; omega)
    · go_wp2
      go_ret
      obtain rfl : k = n := by omega
      exact ⟨rfl, hb⟩
end Go.Proofs.YtfcbnpjfpeiheaaDoor
