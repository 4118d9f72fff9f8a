/- The program's FormatInt, where the library's table of powers of ten reads as it was laid. -/
import Derived.Test.YtkofjdddmpebmaaGreatDoorFmtS
import Derived.Test.YtkofjdddmpebmaaGreatDoorShelf
import Derived.Lib.AppendIntMem
namespace Go.Proofs.YtkofjdddmpebmaaGreatDoor
open Go.RowKit
set_option maxRecDepth 100000

theorem decDigits_dec : ∀ n : Nat, Lib.decDigits n = (decP n).map fun x => UInt8.ofNat x.toNat := by
  intro n
  induction n using Nat.strongRecOn with
  | _ n ih =>
    rw [Lib.decDigits]
    by_cases h : n < 10
    · rw [dif_pos h, decP_small h]
      simp only [List.map_cons, List.map_nil]
      rw [show (48 + (n : Int)).toNat = 48 + n by omega]
    · rw [dif_neg h, decP_step (by omega), ih (n / 10) (by omega), List.map_append]
      simp only [List.map_cons, List.map_nil]
      rw [show (48 + ((n % 10 : Nat) : Int)).toNat = 48 + n % 10 by omega]
theorem itoa_fmt (n : Int) : (⟨(Lib.itoa n).toArray⟩ : ByteArray) = strOfNums (fmtI n) := by
  apply ByteArray.ext
  show (Lib.itoa n).toArray = ((fmtI n).map fun n => UInt8.ofNat n.toNat).toArray
  congr 1
  rw [Lib.itoa, fmtI]
  by_cases h : n < 0
  · rw [if_pos h, if_pos h, decDigits_dec]
    rfl
  · rw [if_neg h, if_neg h, show n.toNat = n.natAbs by omega, decDigits_dec]
/-- The library's table of powers of ten. -/
def Pow (w : World) : Prop := Lib.TabIs Tryz.prog w "internal/strconv.uint64pow10" .u64 Lib.pow10Tab
theorem Pow.on {w w' : World} (h : Pow w) (b : Below w.heap.size w w') : Pow w' := Lib.tabBelow_of_tabIs h w' b

theorem implFormatInt (n : Int) (w : World) (h1 : -9223372036854775808 ≤ n) (h2 : n ≤ 9223372036854775807) (ht : Pow w) :
    Calls Tryz.prog 32 #[.int .i64 n] w fun e w' => e = .returned (.string (strOfNums (fmtI n))) ∧ Below w.heap.size w w' := by
  have HI := Lib.hid (itoa_fmt n)
  have HT := Lib.hid ht; clear ht
  go_enter Tryz.func32, Tryz.ntmps32
  go_wp2_with fail
  refine (Tryz.strconv_Itoa n h1 h2 w HT.out).mono ?_; rintro e w1 ⟨rfl, k, os, rfl⟩
  have b1 := Lib.below_grow w.heap.size w (Nat.le_refl _) k os
  rw [HI.out]
  generalize Sort.grow (w.drewN k) os = W at *
  go_wp2_with fail
  go_ret
  exact ⟨rfl, b1⟩
end Go.Proofs.YtkofjdddmpebmaaGreatDoor
