/- A profile that is valid and has a text: what the program's function computes. -/
import Derived.Test.YtkofjdddmpebmaaGreatDoorFmtProfI
namespace Go.Proofs.YtkofjdddmpebmaaGreatDoor
open Go.RowKit
set_option maxRecDepth 100000

/-- The profile is valid, and the text is its text. -/
def fOk (m : Int) (vs : List (List Int × Int)) (t : ByteArray) : Bool := profP m vs && decide (textB m vs = t)
theorem f_no1 {m : Int} {vs : List (List Int × Int)} {t : ByteArray} (h : profP m vs = false) : fOk m vs t = false := by rw [fOk, h]; rfl
theorem f_no2 {m : Int} {vs : List (List Int × Int)} {t : ByteArray} (h : textB m vs ≠ t) : fOk m vs t = false := by rw [fOk, decide_eq_false h, Bool.and_false]
theorem f_yes {m : Int} {vs : List (List Int × Int)} {t : ByteArray} (h : profP m vs = true) (h2 : textB m vs = t) : fOk m vs t = true := by rw [fOk, h, decide_eq_true h2]; rfl
theorem bytes_ne {a b : ByteArray} (h : a ≠ b) : (a.toList == b.toList) = false := by
  rw [beq_eq_false_iff_ne]
  intro e
  apply h
  apply ByteArray.ext
  apply Array.toList_inj.1
  rw [ByteArray.toList_eq, ByteArray.toList_eq] at e
  exact e

set_option maxHeartbeats 4000000 in
theorem implFmtd1 (m : Int) (A : Option Addr) (n c : Nat) (vs : List (List Int × Int)) (t : ByteArray) (w : World) (h : Votes w A n vs) (hn : (n : Int) ≤ 1048576) (hm : ∀ j, j < n → (rl vs j : Int) ≤ 1048576) (hp : profP m vs = false) :
    Calls Tryz.prog 16 #[.agg #[.int .i64 m, .slice A n c], .string t] w fun e w' => e = .returned (.tuple #[.agg #[.int .i64 0, .slice none 0 0], .bool false]) ∧ Below w.heap.size w w' := by
  have HM := Lib.hid hm; clear hm
  have bl : Below w.heap.size w ((w.alloc (.cells #[.int .i64 m, .slice A n c] 24)).alloc (.cells #[.int .i64 0, .slice none 0 0] 24)) := ((Below.refl _ _).alloc (Nat.le_refl _) _).alloc (by simp) _
  have k0 : ((w.alloc (.cells #[.int .i64 m, .slice A n c] 24)).alloc (.cells #[.int .i64 0, .slice none 0 0] 24)).cell? ⟨w.heap.size, 0, none⟩ = some (.int .i64 m) := by simp [go_sem]
  have k1 : ((w.alloc (.cells #[.int .i64 m, .slice A n c] 24)).alloc (.cells #[.int .i64 0, .slice none 0 0] 24)).cell? ⟨w.heap.size, 1, none⟩ = some (.slice A n c) := by simp [go_sem]
  have r0 : ((w.alloc (.cells #[.int .i64 m, .slice A n c] 24)).alloc (.cells #[.int .i64 0, .slice none 0 0] 24)).cell? ⟨w.heap.size + 1, 0, none⟩ = some (.int .i64 0) := by simp [go_sem]
  have r1 : ((w.alloc (.cells #[.int .i64 m, .slice A n c] 24)).alloc (.cells #[.int .i64 0, .slice none 0 0] 24)).cell? ⟨w.heap.size + 1, 1, none⟩ = some (.slice none 0 0) := by simp [go_sem]
  have rf0 : ((w.alloc (.cells #[.int .i64 m, .slice A n c] 24)).alloc (.cells #[.int .i64 0, .slice none 0 0] 24)).frozen? ⟨w.heap.size + 1, 0, none⟩ = false := by simp [go_sem]
  have rf1 : ((w.alloc (.cells #[.int .i64 m, .slice A n c] 24)).alloc (.cells #[.int .i64 0, .slice none 0 0] 24)).frozen? ⟨w.heap.size + 1, 1, none⟩ = false := by simp [go_sem]
  have sr : w.heap.size + 1 < ((w.alloc (.cells #[.int .i64 m, .slice A n c] 24)).alloc (.cells #[.int .i64 0, .slice none 0 0] 24)).heap.size := by simp
  have sk : w.heap.size < ((w.alloc (.cells #[.int .i64 m, .slice A n c] 24)).alloc (.cells #[.int .i64 0, .slice none 0 0] 24)).heap.size := by omega
  have hV := h.on bl
  go_enter Tryz.func16, Tryz.ntmps16
  go_wp2_with fail
  generalize ((w.alloc (.cells #[.int .i64 m, .slice A n c] 24)).alloc (.cells #[.int .i64 0, .slice none 0 0] 24)) = W at *
  refine (implProfileOk m A n c vs _ hV hn HM.out).mono ?_; rintro e w1 ⟨rfl, b1⟩
  rw [hp]
  have bl1 := Below.on bl b1
  replace k0 := (b1.cell (p := ⟨w.heap.size, 0, none⟩) sk).trans k0
  replace k1 := (b1.cell (p := ⟨w.heap.size, 1, none⟩) sk).trans k1
  replace r0 := (b1.cell (p := ⟨w.heap.size + 1, 0, none⟩) sr).trans r0
  replace r1 := (b1.cell (p := ⟨w.heap.size + 1, 1, none⟩) sr).trans r1
  replace rf0 := (b1.frozen (p := ⟨w.heap.size + 1, 0, none⟩) sr).trans rf0
  replace rf1 := (b1.frozen (p := ⟨w.heap.size + 1, 1, none⟩) sr).trans rf1
  replace sk := Nat.lt_of_lt_of_le sk b1.size
  replace sr := Nat.lt_of_lt_of_le sr b1.size
  clear b1
  go_wp2_with fail
  exact bodyPost_ret (v := .tuple #[.agg #[.int .i64 0, .slice none 0 0], .bool false]) (by simp [results, Tryz.results16, go_sem, r0, r1]) rfl ⟨rfl, (bl1.setCell (by show w.heap.size ≤ w.heap.size + 1; omega) _).setCell (by show w.heap.size ≤ w.heap.size + 1; omega) _⟩

set_option maxHeartbeats 4000000 in
theorem implFmtd2 (m : Int) (A : Option Addr) (n c : Nat) (vs : List (List Int × Int)) (t : ByteArray) (w : World) (h : Votes w A n vs) (hn : (n : Int) ≤ 1048576) (hm : ∀ j, j < n → (rl vs j : Int) ≤ 1048576) (hpw : Pow w) (hp : profP m vs = true) (hne : textB m vs ≠ t) :
    Calls Tryz.prog 16 #[.agg #[.int .i64 m, .slice A n c], .string t] w fun e w' => e = .returned (.tuple #[.agg #[.int .i64 0, .slice none 0 0], .bool false]) ∧ Below w.heap.size w w' := by
  have hq := bytes_ne hne
  clear hne
  have HPW := Lib.hid hpw; clear hpw
  have HM := Lib.hid hm; clear hm
  have bl : Below w.heap.size w ((w.alloc (.cells #[.int .i64 m, .slice A n c] 24)).alloc (.cells #[.int .i64 0, .slice none 0 0] 24)) := ((Below.refl _ _).alloc (Nat.le_refl _) _).alloc (by simp) _
  have k0 : ((w.alloc (.cells #[.int .i64 m, .slice A n c] 24)).alloc (.cells #[.int .i64 0, .slice none 0 0] 24)).cell? ⟨w.heap.size, 0, none⟩ = some (.int .i64 m) := by simp [go_sem]
  have k1 : ((w.alloc (.cells #[.int .i64 m, .slice A n c] 24)).alloc (.cells #[.int .i64 0, .slice none 0 0] 24)).cell? ⟨w.heap.size, 1, none⟩ = some (.slice A n c) := by simp [go_sem]
  have r0 : ((w.alloc (.cells #[.int .i64 m, .slice A n c] 24)).alloc (.cells #[.int .i64 0, .slice none 0 0] 24)).cell? ⟨w.heap.size + 1, 0, none⟩ = some (.int .i64 0) := by simp [go_sem]
  have r1 : ((w.alloc (.cells #[.int .i64 m, .slice A n c] 24)).alloc (.cells #[.int .i64 0, .slice none 0 0] 24)).cell? ⟨w.heap.size + 1, 1, none⟩ = some (.slice none 0 0) := by simp [go_sem]
  have rf0 : ((w.alloc (.cells #[.int .i64 m, .slice A n c] 24)).alloc (.cells #[.int .i64 0, .slice none 0 0] 24)).frozen? ⟨w.heap.size + 1, 0, none⟩ = false := by simp [go_sem]
  have rf1 : ((w.alloc (.cells #[.int .i64 m, .slice A n c] 24)).alloc (.cells #[.int .i64 0, .slice none 0 0] 24)).frozen? ⟨w.heap.size + 1, 1, none⟩ = false := by simp [go_sem]
  have sr : w.heap.size + 1 < ((w.alloc (.cells #[.int .i64 m, .slice A n c] 24)).alloc (.cells #[.int .i64 0, .slice none 0 0] 24)).heap.size := by simp
  have sk : w.heap.size < ((w.alloc (.cells #[.int .i64 m, .slice A n c] 24)).alloc (.cells #[.int .i64 0, .slice none 0 0] 24)).heap.size := by omega
  have hV := h.on bl
  go_enter Tryz.func16, Tryz.ntmps16
  go_wp2_with fail
  generalize ((w.alloc (.cells #[.int .i64 m, .slice A n c] 24)).alloc (.cells #[.int .i64 0, .slice none 0 0] 24)) = W at *
  refine (implProfileOk m A n c vs _ hV hn HM.out).mono ?_; rintro e w1 ⟨rfl, b1⟩
  rw [hp]
  have bl1 := Below.on bl b1
  replace k0 := (b1.cell (p := ⟨w.heap.size, 0, none⟩) sk).trans k0
  replace k1 := (b1.cell (p := ⟨w.heap.size, 1, none⟩) sk).trans k1
  replace r0 := (b1.cell (p := ⟨w.heap.size + 1, 0, none⟩) sr).trans r0
  replace r1 := (b1.cell (p := ⟨w.heap.size + 1, 1, none⟩) sr).trans r1
  replace rf0 := (b1.frozen (p := ⟨w.heap.size + 1, 0, none⟩) sr).trans rf0
  replace rf1 := (b1.frozen (p := ⟨w.heap.size + 1, 1, none⟩) sr).trans rf1
  replace sk := Nat.lt_of_lt_of_le sk b1.size
  replace sr := Nat.lt_of_lt_of_le sr b1.size
  clear b1 hV
  go_wp2_with fail
  refine (implFormatProfile m A n c vs _ (h.on bl1) hn HM.out (HPW.out.on bl1)).mono ?_; rintro e w2 ⟨rfl, b2⟩
  have bl2 := Below.on bl1 b2
  replace k0 := (b2.cell (p := ⟨w.heap.size, 0, none⟩) sk).trans k0
  replace k1 := (b2.cell (p := ⟨w.heap.size, 1, none⟩) sk).trans k1
  replace r0 := (b2.cell (p := ⟨w.heap.size + 1, 0, none⟩) sr).trans r0
  replace r1 := (b2.cell (p := ⟨w.heap.size + 1, 1, none⟩) sr).trans r1
  replace rf0 := (b2.frozen (p := ⟨w.heap.size + 1, 0, none⟩) sr).trans rf0
  replace rf1 := (b2.frozen (p := ⟨w.heap.size + 1, 1, none⟩) sr).trans rf1
  replace sk := Nat.lt_of_lt_of_le sk b2.size
  replace sr := Nat.lt_of_lt_of_le sr b2.size
  clear b2 bl1
  go_wp2_with fail
  exact bodyPost_ret (v := .tuple #[.agg #[.int .i64 0, .slice none 0 0], .bool false]) (by simp [results, Tryz.results16, go_sem, r0, r1]) rfl ⟨rfl, (bl2.setCell (by show w.heap.size ≤ w.heap.size + 1; omega) _).setCell (by show w.heap.size ≤ w.heap.size + 1; omega) _⟩

set_option maxHeartbeats 4000000 in
theorem implFmtd3 (m : Int) (A : Option Addr) (n c : Nat) (vs : List (List Int × Int)) (t : ByteArray) (w : World) (h : Votes w A n vs) (hn : (n : Int) ≤ 1048576) (hm : ∀ j, j < n → (rl vs j : Int) ≤ 1048576) (hpw : Pow w) (hp : profP m vs = true) (heq : textB m vs = t) :
    Calls Tryz.prog 16 #[.agg #[.int .i64 m, .slice A n c], .string t] w fun e w' => e = .returned (.tuple #[.agg #[.int .i64 m, .slice A n c], .bool true]) ∧ Below w.heap.size w w' := by
  subst heq
  have hq : ((textB m vs).toList == (textB m vs).toList) = true := by simp
  have HPW := Lib.hid hpw; clear hpw
  have HM := Lib.hid hm; clear hm
  have bl : Below w.heap.size w ((w.alloc (.cells #[.int .i64 m, .slice A n c] 24)).alloc (.cells #[.int .i64 0, .slice none 0 0] 24)) := ((Below.refl _ _).alloc (Nat.le_refl _) _).alloc (by simp) _
  have k0 : ((w.alloc (.cells #[.int .i64 m, .slice A n c] 24)).alloc (.cells #[.int .i64 0, .slice none 0 0] 24)).cell? ⟨w.heap.size, 0, none⟩ = some (.int .i64 m) := by simp [go_sem]
  have k1 : ((w.alloc (.cells #[.int .i64 m, .slice A n c] 24)).alloc (.cells #[.int .i64 0, .slice none 0 0] 24)).cell? ⟨w.heap.size, 1, none⟩ = some (.slice A n c) := by simp [go_sem]
  have r0 : ((w.alloc (.cells #[.int .i64 m, .slice A n c] 24)).alloc (.cells #[.int .i64 0, .slice none 0 0] 24)).cell? ⟨w.heap.size + 1, 0, none⟩ = some (.int .i64 0) := by simp [go_sem]
  have r1 : ((w.alloc (.cells #[.int .i64 m, .slice A n c] 24)).alloc (.cells #[.int .i64 0, .slice none 0 0] 24)).cell? ⟨w.heap.size + 1, 1, none⟩ = some (.slice none 0 0) := by simp [go_sem]
  have rf0 : ((w.alloc (.cells #[.int .i64 m, .slice A n c] 24)).alloc (.cells #[.int .i64 0, .slice none 0 0] 24)).frozen? ⟨w.heap.size + 1, 0, none⟩ = false := by simp [go_sem]
  have rf1 : ((w.alloc (.cells #[.int .i64 m, .slice A n c] 24)).alloc (.cells #[.int .i64 0, .slice none 0 0] 24)).frozen? ⟨w.heap.size + 1, 1, none⟩ = false := by simp [go_sem]
  have sr : w.heap.size + 1 < ((w.alloc (.cells #[.int .i64 m, .slice A n c] 24)).alloc (.cells #[.int .i64 0, .slice none 0 0] 24)).heap.size := by simp
  have sk : w.heap.size < ((w.alloc (.cells #[.int .i64 m, .slice A n c] 24)).alloc (.cells #[.int .i64 0, .slice none 0 0] 24)).heap.size := by omega
  have hV := h.on bl
  go_enter Tryz.func16, Tryz.ntmps16
  go_wp2_with fail
  generalize ((w.alloc (.cells #[.int .i64 m, .slice A n c] 24)).alloc (.cells #[.int .i64 0, .slice none 0 0] 24)) = W at *
  refine (implProfileOk m A n c vs _ hV hn HM.out).mono ?_; rintro e w1 ⟨rfl, b1⟩
  rw [hp]
  have bl1 := Below.on bl b1
  replace k0 := (b1.cell (p := ⟨w.heap.size, 0, none⟩) sk).trans k0
  replace k1 := (b1.cell (p := ⟨w.heap.size, 1, none⟩) sk).trans k1
  replace r0 := (b1.cell (p := ⟨w.heap.size + 1, 0, none⟩) sr).trans r0
  replace r1 := (b1.cell (p := ⟨w.heap.size + 1, 1, none⟩) sr).trans r1
  replace rf0 := (b1.frozen (p := ⟨w.heap.size + 1, 0, none⟩) sr).trans rf0
  replace rf1 := (b1.frozen (p := ⟨w.heap.size + 1, 1, none⟩) sr).trans rf1
  replace sk := Nat.lt_of_lt_of_le sk b1.size
  replace sr := Nat.lt_of_lt_of_le sr b1.size
  clear b1 hV
  go_wp2_with fail
  refine (implFormatProfile m A n c vs _ (h.on bl1) hn HM.out (HPW.out.on bl1)).mono ?_; rintro e w2 ⟨rfl, b2⟩
  have bl2 := Below.on bl1 b2
  replace k0 := (b2.cell (p := ⟨w.heap.size, 0, none⟩) sk).trans k0
  replace k1 := (b2.cell (p := ⟨w.heap.size, 1, none⟩) sk).trans k1
  replace r0 := (b2.cell (p := ⟨w.heap.size + 1, 0, none⟩) sr).trans r0
  replace r1 := (b2.cell (p := ⟨w.heap.size + 1, 1, none⟩) sr).trans r1
  replace rf0 := (b2.frozen (p := ⟨w.heap.size + 1, 0, none⟩) sr).trans rf0
  replace rf1 := (b2.frozen (p := ⟨w.heap.size + 1, 1, none⟩) sr).trans rf1
  replace sk := Nat.lt_of_lt_of_le sk b2.size
  replace sr := Nat.lt_of_lt_of_le sr b2.size
  clear b2 bl1
  go_wp2_with fail
  exact bodyPost_ret (v := .tuple #[.agg #[.int .i64 m, .slice A n c], .bool true]) (by simp [results, Tryz.results16, go_sem, r0, r1]) rfl ⟨rfl, (bl2.setCell (by show w.heap.size ≤ w.heap.size + 1; omega) _).setCell (by show w.heap.size ≤ w.heap.size + 1; omega) _⟩

theorem implFormatted (m : Int) (A : Option Addr) (n c : Nat) (vs : List (List Int × Int)) (t : ByteArray) (w : World) (h : Votes w A n vs) (hn : (n : Int) ≤ 1048576) (hm : ∀ j, j < n → (rl vs j : Int) ≤ 1048576) (hpw : Pow w) :
    Calls Tryz.prog 16 #[.agg #[.int .i64 m, .slice A n c], .string t] w fun e w' => e = .returned (.tuple #[if fOk m vs t then .agg #[.int .i64 m, .slice A n c] else .agg #[.int .i64 0, .slice none 0 0], .bool (fOk m vs t)]) ∧ Below w.heap.size w w' := by
  cases hp : profP m vs with
  | false => rw [f_no1 hp]; exact implFmtd1 m A n c vs t w h hn hm hp
  | true =>
    by_cases he : textB m vs = t
    · rw [f_yes hp he]; exact implFmtd3 m A n c vs t w h hn hm hpw hp he
    · rw [f_no2 he]; exact implFmtd2 m A n c vs t w h hn hm hpw hp he
end Go.Proofs.YtkofjdddmpebmaaGreatDoor
