/- Slices of strings: marks laid and marks found; numbers as digits. -/
import Derived.Test.YtkofjdddmpebmaaGreatDoorStrs
import Derived.Test.YtkofjdddmpebmaaGreatDoorDec
namespace Go.Proofs.YtkofjdddmpebmaaGreatDoor
open Go.RowKit
set_option maxRecDepth 100000

/-- The mark of a string. -/
def mtB (k : Int) : ByteArray := if k ≤ 0 then ⟨#[109, 48]⟩ else (⟨#[109]⟩ : ByteArray) ++ strOfNums (digs k.toNat)
theorem ret_stringS {a b : ByteArray} (h : a = b) : Ending.returned (.string a) = .returned (.string b) := by rw [h]

/-- The marks. -/
def mks (m : Int) (n : Nat) : List ByteArray := (List.range n).map fun (j : Nat) => mtB (m + (j : Int))
theorem mks_len (m : Int) (n : Nat) : (mks m n).length = n := by simp [mks]
theorem mks_at (m : Int) {n j : Nat} (hj : j < n) : snth (mks m n) j = mtB (m + j) := by simp [mks, snth, List.getD, hj]
theorem mks_snoc (m : Int) (k : Nat) : mks m (k + 1) = mks m k ++ [mtB (m + k)] := by simp [mks, List.range_succ]
def markedS (m : Int) (k : Nat) (vs : List Value) : List Value := svs (mks m k) ++ vs.drop k
theorem markedS_zero (m : Int) (vs : List Value) : markedS m 0 vs = vs := by simp [markedS, mks, svs]
theorem markedS_all (m : Int) {n : Nat} {vs : List Value} (h : vs.length = n) : markedS m n vs = svs (mks m n) := by subst h; simp [markedS]
theorem markedS_set (m : Int) {k : Nat} {vs : List Value} (h : k < vs.length) : (markedS m k vs).set k (.string (mtB (m + k))) = markedS m (k + 1) vs := by
  have hl : (svs (mks m k)).length = k := by rw [svs_len, mks_len]
  have hd : vs.drop k = vs[k] :: vs.drop (k + 1) := List.drop_eq_getElem_cons h
  unfold markedS
  rw [List.set_append_right _ _ (by omega), hl, Nat.sub_self, hd, List.set_cons_zero, mks_snoc]
  simp [svs]
theorem markedS_len (m : Int) {k : Nat} {vs : List Value} (h : k ≤ vs.length) : (markedS m k vs).length = vs.length := by
  simp [markedS, svs, mks]; omega
theorem grown_below' {w w' : World} {row : Option Nat} (h : Below w.heap.size w w') : w.grownBy w' row := ⟨h.os, h.tape, h.output, h.size, fun k hk _ => h.block k hk⟩

attribute [local go_sem ↓] Go.wp_at_zero Go.wp_at_succ
end Go.Proofs.YtkofjdddmpebmaaGreatDoor
