/- One ranking of a profile is replaced: what the program's and the reference's functions compute. -/
import Derived.Test.YtblofiimfhbkdaaCloneV
namespace Go.Proofs.Ytblofiimfhbkdaa
open Go.RowKit
set_option maxRecDepth 100000

set_option maxHeartbeats 2000000 in
theorem specWithRankingF1 (m : Int) (A : Option Addr) (n c : Nat) (vs : List (List Int × Int)) (kk : Int) (D : Option Addr) (nd cd : Nat) (_ys : List Int) (w : World) (h : Votes w A n vs) (hn : (n : Int) ≤ 1048576) (hm : ∀ j, j < n → (rl vs j : Int) ≤ 1048576) (hp : profP m vs = false) :
    Calls Try.prog 39 #[.agg #[.int .i64 m, .slice A n c], .int .i64 kk, .slice D nd cd] w fun e w' => e = .returned (.tuple #[.agg #[.int .i64 0, .slice none 0 0], .bool false]) ∧ Below w.heap.size w w' := by
  have HM := Lib.hid hm; clear hm
  have HP : Hid (profP m vs = false) := hp
  clear hp
  have bl : Below w.heap.size w ((w.alloc (.cells #[.int .i64 m, .slice A n c] 40)).alloc (.cells #[.int .i64 0, .slice none 0 0] 40)) := ((Below.refl _ _).alloc (Nat.le_refl _) _).alloc (by simp) _
  have k0 : ((w.alloc (.cells #[.int .i64 m, .slice A n c] 40)).alloc (.cells #[.int .i64 0, .slice none 0 0] 40)).cell? ⟨w.heap.size, 0, none⟩ = some (.int .i64 m) := by simp [go_sem]
  have k1 : ((w.alloc (.cells #[.int .i64 m, .slice A n c] 40)).alloc (.cells #[.int .i64 0, .slice none 0 0] 40)).cell? ⟨w.heap.size, 1, none⟩ = some (.slice A n c) := by simp [go_sem]
  have r0 : ((w.alloc (.cells #[.int .i64 m, .slice A n c] 40)).alloc (.cells #[.int .i64 0, .slice none 0 0] 40)).cell? ⟨w.heap.size + 1, 0, none⟩ = some (.int .i64 0) := by simp [go_sem]
  have r1 : ((w.alloc (.cells #[.int .i64 m, .slice A n c] 40)).alloc (.cells #[.int .i64 0, .slice none 0 0] 40)).cell? ⟨w.heap.size + 1, 1, none⟩ = some (.slice none 0 0) := by simp [go_sem]
  have rf0 : ((w.alloc (.cells #[.int .i64 m, .slice A n c] 40)).alloc (.cells #[.int .i64 0, .slice none 0 0] 40)).frozen? ⟨w.heap.size + 1, 0, none⟩ = false := by simp [go_sem]
  have rf1 : ((w.alloc (.cells #[.int .i64 m, .slice A n c] 40)).alloc (.cells #[.int .i64 0, .slice none 0 0] 40)).frozen? ⟨w.heap.size + 1, 1, none⟩ = false := by simp [go_sem]
  have sp : w.heap.size < ((w.alloc (.cells #[.int .i64 m, .slice A n c] 40)).alloc (.cells #[.int .i64 0, .slice none 0 0] 40)).heap.size := by simp; omega
  have sr : w.heap.size + 1 < ((w.alloc (.cells #[.int .i64 m, .slice A n c] 40)).alloc (.cells #[.int .i64 0, .slice none 0 0] 40)).heap.size := by simp
  have hV := h.on bl
  go_enter Try.func39, Try.ntmps39
  go_wp2_with fail
  refine (specProfileOk m A n c vs _ hV hn HM.out).mono ?_; rintro e w1 ⟨rfl, b1⟩
  rw [HP.out]
  have bl1 := Below.on bl b1
  replace k0 := (b1.cell (p := ⟨w.heap.size, 0, none⟩) sp).trans k0
  replace k1 := (b1.cell (p := ⟨w.heap.size, 1, none⟩) sp).trans k1
  replace r0 := (b1.cell (p := ⟨w.heap.size + 1, 0, none⟩) sr).trans r0
  replace r1 := (b1.cell (p := ⟨w.heap.size + 1, 1, none⟩) sr).trans r1
  replace rf0 := (b1.frozen (p := ⟨w.heap.size + 1, 0, none⟩) sr).trans rf0
  replace rf1 := (b1.frozen (p := ⟨w.heap.size + 1, 1, none⟩) sr).trans rf1
  have hqr : w.heap.size + 1 < w1.heap.size := Nat.lt_of_lt_of_le sr b1.size
  have hqw : w.heap.size ≤ w1.heap.size := by omega
  clear b1 sp sr
  go_wp2_with fail
  exact bodyPost_ret (v := .tuple #[.agg #[.int .i64 0, .slice none 0 0], .bool false]) (by simp [results, Try.results39, go_sem, r0, r1]) rfl ⟨rfl, (bl1.setCell (Nat.le_succ _) _).setCell (Nat.le_succ _) _⟩

set_option maxHeartbeats 2000000 in
theorem specWithRankingF2 (m : Int) (A : Option Addr) (n c : Nat) (vs : List (List Int × Int)) (kk : Int) (D : Option Addr) (nd cd : Nat) (_ys : List Int) (w : World) (h : Votes w A n vs) (hn : (n : Int) ≤ 1048576) (hm : ∀ j, j < n → (rl vs j : Int) ≤ 1048576) (hp : profP m vs = true) (hk : inB kk 0 ((n : Int) - 1) = false) :
    Calls Try.prog 39 #[.agg #[.int .i64 m, .slice A n c], .int .i64 kk, .slice D nd cd] w fun e w' => e = .returned (.tuple #[.agg #[.int .i64 0, .slice none 0 0], .bool false]) ∧ Below w.heap.size w w' := by
  have HK := Lib.hid hk; clear hk
  have HM := Lib.hid hm; clear hm
  have HP : Hid (profP m vs = true) := hp
  clear hp
  have bl : Below w.heap.size w ((w.alloc (.cells #[.int .i64 m, .slice A n c] 40)).alloc (.cells #[.int .i64 0, .slice none 0 0] 40)) := ((Below.refl _ _).alloc (Nat.le_refl _) _).alloc (by simp) _
  have k0 : ((w.alloc (.cells #[.int .i64 m, .slice A n c] 40)).alloc (.cells #[.int .i64 0, .slice none 0 0] 40)).cell? ⟨w.heap.size, 0, none⟩ = some (.int .i64 m) := by simp [go_sem]
  have k1 : ((w.alloc (.cells #[.int .i64 m, .slice A n c] 40)).alloc (.cells #[.int .i64 0, .slice none 0 0] 40)).cell? ⟨w.heap.size, 1, none⟩ = some (.slice A n c) := by simp [go_sem]
  have r0 : ((w.alloc (.cells #[.int .i64 m, .slice A n c] 40)).alloc (.cells #[.int .i64 0, .slice none 0 0] 40)).cell? ⟨w.heap.size + 1, 0, none⟩ = some (.int .i64 0) := by simp [go_sem]
  have r1 : ((w.alloc (.cells #[.int .i64 m, .slice A n c] 40)).alloc (.cells #[.int .i64 0, .slice none 0 0] 40)).cell? ⟨w.heap.size + 1, 1, none⟩ = some (.slice none 0 0) := by simp [go_sem]
  have rf0 : ((w.alloc (.cells #[.int .i64 m, .slice A n c] 40)).alloc (.cells #[.int .i64 0, .slice none 0 0] 40)).frozen? ⟨w.heap.size + 1, 0, none⟩ = false := by simp [go_sem]
  have rf1 : ((w.alloc (.cells #[.int .i64 m, .slice A n c] 40)).alloc (.cells #[.int .i64 0, .slice none 0 0] 40)).frozen? ⟨w.heap.size + 1, 1, none⟩ = false := by simp [go_sem]
  have sp : w.heap.size < ((w.alloc (.cells #[.int .i64 m, .slice A n c] 40)).alloc (.cells #[.int .i64 0, .slice none 0 0] 40)).heap.size := by simp; omega
  have sr : w.heap.size + 1 < ((w.alloc (.cells #[.int .i64 m, .slice A n c] 40)).alloc (.cells #[.int .i64 0, .slice none 0 0] 40)).heap.size := by simp
  have hV := h.on bl
  go_enter Try.func39, Try.ntmps39
  go_wp2_with fail
  refine (specProfileOk m A n c vs _ hV hn HM.out).mono ?_; rintro e wa ⟨rfl, ba⟩
  rw [HP.out]
  have k0a := (ba.cell (p := ⟨w.heap.size, 0, none⟩) sp).trans k0
  have k1a := (ba.cell (p := ⟨w.heap.size, 1, none⟩) sp).trans k1
  go_wp2_with fail
  refine (specIn _ _ _ _).mono ?_; rintro e wb ⟨rfl, rfl⟩
  rw [HK.out]
  have b1 := ba
  clear k0a k1a
  have bl1 := Below.on bl b1
  replace k0 := (b1.cell (p := ⟨w.heap.size, 0, none⟩) sp).trans k0
  replace k1 := (b1.cell (p := ⟨w.heap.size, 1, none⟩) sp).trans k1
  replace r0 := (b1.cell (p := ⟨w.heap.size + 1, 0, none⟩) sr).trans r0
  replace r1 := (b1.cell (p := ⟨w.heap.size + 1, 1, none⟩) sr).trans r1
  replace rf0 := (b1.frozen (p := ⟨w.heap.size + 1, 0, none⟩) sr).trans rf0
  replace rf1 := (b1.frozen (p := ⟨w.heap.size + 1, 1, none⟩) sr).trans rf1
  have hqr : w.heap.size + 1 < wa.heap.size := Nat.lt_of_lt_of_le sr b1.size
  have hqw : w.heap.size ≤ wa.heap.size := by omega
  clear b1 sp sr
  go_wp2_with fail
  exact bodyPost_ret (v := .tuple #[.agg #[.int .i64 0, .slice none 0 0], .bool false]) (by simp [results, Try.results39, go_sem, r0, r1]) rfl ⟨rfl, (bl1.setCell (Nat.le_succ _) _).setCell (Nat.le_succ _) _⟩

set_option maxHeartbeats 2000000 in
theorem specWithRankingF3 (m : Int) (A : Option Addr) (n c : Nat) (vs : List (List Int × Int)) (kk : Int) (D : Option Addr) (nd cd : Nat) (ys : List Int) (w : World) (h : Votes w A n vs) (hn : (n : Int) ≤ 1048576) (hm : ∀ j, j < n → (rl vs j : Int) ≤ 1048576) (hy : Ints w D nd ys) (hnd : (nd : Int) ≤ 1048576) (hp : profP m vs = true) (hk : inB kk 0 ((n : Int) - 1) = true) (hok : rankOkP m ys = false) :
    Calls Try.prog 39 #[.agg #[.int .i64 m, .slice A n c], .int .i64 kk, .slice D nd cd] w fun e w' => e = .returned (.tuple #[.agg #[.int .i64 0, .slice none 0 0], .bool false]) ∧ Below w.heap.size w w' := by
  have HK := Lib.hid hk; clear hk
  have HOK := Lib.hid hok; clear hok
  have HM := Lib.hid hm; clear hm
  have HP : Hid (profP m vs = true) := hp
  clear hp
  have bl : Below w.heap.size w ((w.alloc (.cells #[.int .i64 m, .slice A n c] 40)).alloc (.cells #[.int .i64 0, .slice none 0 0] 40)) := ((Below.refl _ _).alloc (Nat.le_refl _) _).alloc (by simp) _
  have k0 : ((w.alloc (.cells #[.int .i64 m, .slice A n c] 40)).alloc (.cells #[.int .i64 0, .slice none 0 0] 40)).cell? ⟨w.heap.size, 0, none⟩ = some (.int .i64 m) := by simp [go_sem]
  have k1 : ((w.alloc (.cells #[.int .i64 m, .slice A n c] 40)).alloc (.cells #[.int .i64 0, .slice none 0 0] 40)).cell? ⟨w.heap.size, 1, none⟩ = some (.slice A n c) := by simp [go_sem]
  have r0 : ((w.alloc (.cells #[.int .i64 m, .slice A n c] 40)).alloc (.cells #[.int .i64 0, .slice none 0 0] 40)).cell? ⟨w.heap.size + 1, 0, none⟩ = some (.int .i64 0) := by simp [go_sem]
  have r1 : ((w.alloc (.cells #[.int .i64 m, .slice A n c] 40)).alloc (.cells #[.int .i64 0, .slice none 0 0] 40)).cell? ⟨w.heap.size + 1, 1, none⟩ = some (.slice none 0 0) := by simp [go_sem]
  have rf0 : ((w.alloc (.cells #[.int .i64 m, .slice A n c] 40)).alloc (.cells #[.int .i64 0, .slice none 0 0] 40)).frozen? ⟨w.heap.size + 1, 0, none⟩ = false := by simp [go_sem]
  have rf1 : ((w.alloc (.cells #[.int .i64 m, .slice A n c] 40)).alloc (.cells #[.int .i64 0, .slice none 0 0] 40)).frozen? ⟨w.heap.size + 1, 1, none⟩ = false := by simp [go_sem]
  have sp : w.heap.size < ((w.alloc (.cells #[.int .i64 m, .slice A n c] 40)).alloc (.cells #[.int .i64 0, .slice none 0 0] 40)).heap.size := by simp; omega
  have sr : w.heap.size + 1 < ((w.alloc (.cells #[.int .i64 m, .slice A n c] 40)).alloc (.cells #[.int .i64 0, .slice none 0 0] 40)).heap.size := by simp
  have hV := h.on bl
  go_enter Try.func39, Try.ntmps39
  go_wp2_with fail
  refine (specProfileOk m A n c vs _ hV hn HM.out).mono ?_; rintro e wa ⟨rfl, ba⟩
  rw [HP.out]
  have k0a := (ba.cell (p := ⟨w.heap.size, 0, none⟩) sp).trans k0
  have k1a := (ba.cell (p := ⟨w.heap.size, 1, none⟩) sp).trans k1
  have hya := hy.on (Below.on bl ba)
  go_wp2_with fail
  refine (specIn _ _ _ _).mono ?_; rintro e wb ⟨rfl, rfl⟩
  rw [HK.out]
  go_wp2_with fail
  refine (specRankingOk m D nd cd ys _ hya hnd).mono ?_; rintro e w1 ⟨rfl, bb⟩
  rw [HOK.out]
  have b1 := Below.on ba bb
  clear ba bb k0a k1a hya
  have bl1 := Below.on bl b1
  replace k0 := (b1.cell (p := ⟨w.heap.size, 0, none⟩) sp).trans k0
  replace k1 := (b1.cell (p := ⟨w.heap.size, 1, none⟩) sp).trans k1
  replace r0 := (b1.cell (p := ⟨w.heap.size + 1, 0, none⟩) sr).trans r0
  replace r1 := (b1.cell (p := ⟨w.heap.size + 1, 1, none⟩) sr).trans r1
  replace rf0 := (b1.frozen (p := ⟨w.heap.size + 1, 0, none⟩) sr).trans rf0
  replace rf1 := (b1.frozen (p := ⟨w.heap.size + 1, 1, none⟩) sr).trans rf1
  have hqr : w.heap.size + 1 < w1.heap.size := Nat.lt_of_lt_of_le sr b1.size
  have hqw : w.heap.size ≤ w1.heap.size := by omega
  clear b1 sp sr
  go_wp2_with fail
  exact bodyPost_ret (v := .tuple #[.agg #[.int .i64 0, .slice none 0 0], .bool false]) (by simp [results, Try.results39, go_sem, r0, r1]) rfl ⟨rfl, (bl1.setCell (Nat.le_succ _) _).setCell (Nat.le_succ _) _⟩

set_option maxHeartbeats 4000000 in
theorem specWithRankingT (m : Int) (A : Option Addr) (n c : Nat) (vs : List (List Int × Int)) (kk : Int) (D : Option Addr) (nd cd : Nat) (ys : List Int) (w : World) (h : Votes w A n vs) (hn : (n : Int) ≤ 1048576) (hm : ∀ j, j < n → (rl vs j : Int) ≤ 1048576) (hy : Ints w D nd ys) (hnd : (nd : Int) ≤ 1048576) (hp : profP m vs = true) (hk : inB kk 0 ((n : Int) - 1) = true) (hok : rankOkP m ys = true) :
    Calls Try.prog 39 #[.agg #[.int .i64 m, .slice A n c], .int .i64 kk, .slice D nd cd] w fun e w' => ∃ A' c' G C, e = .returned (.tuple #[.agg #[.int .i64 m, .slice A' n c'], .bool true]) ∧ OwnV w' w.heap.size A' n c' G C (fun j => if j = kk.toNat then ys else rk vs j) (ct vs) ∧ Below w.heap.size w w' := by
  obtain ⟨k, rfl⟩ : ∃ k : Nat, kk = (k : Int) := ⟨kk.toNat, by have := of_inB hk; omega⟩
  have hkn : k < n := by have := of_inB hk; omega
  have hkn0 : (k : Int) < n := by omega
  rw [show (k : Int).toNat = k by omega]
  have HK := Lib.hid hk; clear hk
  have HOK := Lib.hid hok; clear hok
  have HM := Lib.hid hm; clear hm
  have HP : Hid (profP m vs = true) := hp
  clear hp
  have bl : Below w.heap.size w ((w.alloc (.cells #[.int .i64 m, .slice A n c] 40)).alloc (.cells #[.int .i64 0, .slice none 0 0] 40)) := ((Below.refl _ _).alloc (Nat.le_refl _) _).alloc (by simp) _
  have k0 : ((w.alloc (.cells #[.int .i64 m, .slice A n c] 40)).alloc (.cells #[.int .i64 0, .slice none 0 0] 40)).cell? ⟨w.heap.size, 0, none⟩ = some (.int .i64 m) := by simp [go_sem]
  have k1 : ((w.alloc (.cells #[.int .i64 m, .slice A n c] 40)).alloc (.cells #[.int .i64 0, .slice none 0 0] 40)).cell? ⟨w.heap.size, 1, none⟩ = some (.slice A n c) := by simp [go_sem]
  have r0 : ((w.alloc (.cells #[.int .i64 m, .slice A n c] 40)).alloc (.cells #[.int .i64 0, .slice none 0 0] 40)).cell? ⟨w.heap.size + 1, 0, none⟩ = some (.int .i64 0) := by simp [go_sem]
  have r1 : ((w.alloc (.cells #[.int .i64 m, .slice A n c] 40)).alloc (.cells #[.int .i64 0, .slice none 0 0] 40)).cell? ⟨w.heap.size + 1, 1, none⟩ = some (.slice none 0 0) := by simp [go_sem]
  have rf0 : ((w.alloc (.cells #[.int .i64 m, .slice A n c] 40)).alloc (.cells #[.int .i64 0, .slice none 0 0] 40)).frozen? ⟨w.heap.size + 1, 0, none⟩ = false := by simp [go_sem]
  have rf1 : ((w.alloc (.cells #[.int .i64 m, .slice A n c] 40)).alloc (.cells #[.int .i64 0, .slice none 0 0] 40)).frozen? ⟨w.heap.size + 1, 1, none⟩ = false := by simp [go_sem]
  have sp : w.heap.size < ((w.alloc (.cells #[.int .i64 m, .slice A n c] 40)).alloc (.cells #[.int .i64 0, .slice none 0 0] 40)).heap.size := by simp; omega
  have sr : w.heap.size + 1 < ((w.alloc (.cells #[.int .i64 m, .slice A n c] 40)).alloc (.cells #[.int .i64 0, .slice none 0 0] 40)).heap.size := by simp
  have hV := h.on bl
  go_enter Try.func39, Try.ntmps39
  go_wp2_with fail
  refine (specProfileOk m A n c vs _ hV hn HM.out).mono ?_; rintro e wa ⟨rfl, ba⟩
  rw [HP.out]
  have k0a := (ba.cell (p := ⟨w.heap.size, 0, none⟩) sp).trans k0
  have k1a := (ba.cell (p := ⟨w.heap.size, 1, none⟩) sp).trans k1
  have hya := hy.on (Below.on bl ba)
  go_wp2_with fail
  refine (specIn _ _ _ _).mono ?_; rintro e wb ⟨rfl, rfl⟩
  rw [HK.out]
  go_wp2_with fail
  refine (specRankingOk m D nd cd ys _ hya hnd).mono ?_; rintro e w1 ⟨rfl, bb⟩
  rw [HOK.out]
  have b1 := Below.on ba bb
  clear ba bb k0a k1a hya
  have bl1 := Below.on bl b1
  replace k0 := (b1.cell (p := ⟨w.heap.size, 0, none⟩) sp).trans k0
  replace k1 := (b1.cell (p := ⟨w.heap.size, 1, none⟩) sp).trans k1
  replace r0 := (b1.cell (p := ⟨w.heap.size + 1, 0, none⟩) sr).trans r0
  replace r1 := (b1.cell (p := ⟨w.heap.size + 1, 1, none⟩) sr).trans r1
  replace rf0 := (b1.frozen (p := ⟨w.heap.size + 1, 0, none⟩) sr).trans rf0
  replace rf1 := (b1.frozen (p := ⟨w.heap.size + 1, 1, none⟩) sr).trans rf1
  have hqr : w.heap.size + 1 < w1.heap.size := Nat.lt_of_lt_of_le sr b1.size
  have hqw : w.heap.size ≤ w1.heap.size := by omega
  clear b1 sp sr
  have hV1 := h.on bl1
  have hy1 := hy.on bl1
  go_wp2_with fail
  refine (specL04Copy m A n c vs _ hV1 hn HM.out).mono ?_; rintro e w2 ⟨A2, c2, G, C, rfl, o2, b2⟩
  have bl2 := Below.on bl1 b2
  have hy2 := hy1.on b2
  have sw := bl1.size
  have s2 := b2.size
  replace r0 := (b2.cell (p := ⟨w.heap.size + 1, 0, none⟩) hqr).trans r0
  replace r1 := (b2.cell (p := ⟨w.heap.size + 1, 1, none⟩) hqr).trans r1
  replace rf0 := (b2.frozen (p := ⟨w.heap.size + 1, 0, none⟩) hqr).trans rf0
  replace rf1 := (b2.frozen (p := ⟨w.heap.size + 1, 1, none⟩) hqr).trans rf1
  obtain ⟨g, rfl, hg0, hg1, gc, gi, gz, gz1⟩ := o2.cells hkn
  have hin := o2.inn
  have bV : Below w.heap.size w (w2.alloc (.cells #[.int .i64 m, .slice (some ⟨g, 0, none⟩) n c2] 40)) := bl2.alloc (by omega) _
  have q0 : (w2.alloc (.cells #[.int .i64 m, .slice (some ⟨g, 0, none⟩) n c2] 40)).cell? ⟨w2.heap.size, 0, none⟩ = some (.int .i64 m) := by simp
  have q1 : (w2.alloc (.cells #[.int .i64 m, .slice (some ⟨g, 0, none⟩) n c2] 40)).cell? ⟨w2.heap.size, 1, none⟩ = some (.slice (some ⟨g, 0, none⟩) n c2) := by simp
  have hqV : w2.heap.size < (w2.alloc (.cells #[.int .i64 m, .slice (some ⟨g, 0, none⟩) n c2] 40)).heap.size := by simp
  have bA : Below w2.heap.size w2 (w2.alloc (.cells #[.int .i64 m, .slice (some ⟨g, 0, none⟩) n c2] 40)) := (Below.refl _ _).alloc (Nat.le_refl _) _
  have hrw : w.heap.size + 1 < w2.heap.size := by omega
  replace r0 := (bA.cell (p := ⟨w.heap.size + 1, 0, none⟩) hrw).trans r0
  replace r1 := (bA.cell (p := ⟨w.heap.size + 1, 1, none⟩) hrw).trans r1
  replace rf0 := (bA.frozen (p := ⟨w.heap.size + 1, 0, none⟩) hrw).trans rf0
  replace rf1 := (bA.frozen (p := ⟨w.heap.size + 1, 1, none⟩) hrw).trans rf1
  replace gc := (bA.cell (p := ⟨g, k * 2, none⟩) hg1).trans gc
  replace gz := (bA.frozen (p := ⟨g, k * 2, none⟩) hg1).trans gz
  have hgV : g < (w2.alloc (.cells #[.int .i64 m, .slice (some ⟨g, 0, none⟩) n c2] 40)).heap.size := by omega
  have hyV := (hy2.on bA).drew
  have oV := o2.on bA
  have hgq : ¬ g = w2.heap.size := by omega
  have hqg : ¬ w2.heap.size = g := by omega
  have hgr : ¬ g = w.heap.size + 1 := by omega
  have hrg : ¬ w.heap.size + 1 = g := by omega
  have hWg : w1.heap.size ≤ g := hg0
  have HIN := Lib.hid hin; clear hin
  have HYL := Lib.hid hy.1
  have hnd2 : nd ≤ 1099511627776 := by omega
  have HOV := Lib.hid oV
  have sVw : w1.heap.size ≤ (w2.alloc (.cells #[.int .i64 m, .slice (some ⟨g, 0, none⟩) n c2] 40)).heap.size := by omega
  clear o2 oV bl1 b2 bl2 hV1 hy1 hy2 bA gi gz1
  go_wp2_with fail
  generalize w2.alloc (.cells #[.int .i64 m, .slice (some ⟨g, 0, none⟩) n c2] 40) = V at *
  generalize w2.heap.size = q at *
  go_region_held_law (fun w' => w'.cell? ⟨q, 1, none⟩ = some (.slice (some ⟨g, 0, none⟩) n c2)) (go_keep) (first
    | (refine step_apnew V.drew rfl (.tmp 34) (.tmp 35) rfl rfl D nd cd ys rfl hyV hnd2 ?_; intro A3 c3 w3 o3 b3; have bV3 := (Below.drew (Below.refl V.heap.size V)).trans b3; have e1 := (bV3.cell (p := ⟨q, 1, none⟩) hqV).trans q1; have g0 := (bV3.cell (p := ⟨g, k * 2, none⟩) hgV).trans gc; have gf := (bV3.frozen (p := ⟨g, k * 2, none⟩) hgV).trans gz))
  have hr3 : w.heap.size + 1 < V.heap.size := by omega
  have z0 := (bV3.cell (p := ⟨w.heap.size + 1, 0, none⟩) hr3).trans r0
  have z1 := (bV3.cell (p := ⟨w.heap.size + 1, 1, none⟩) hr3).trans r1
  have zf0 := (bV3.frozen (p := ⟨w.heap.size + 1, 0, none⟩) hr3).trans rf0
  have zf1 := (bV3.frozen (p := ⟨w.heap.size + 1, 1, none⟩) hr3).trans rf1
  have e0 := (bV3.cell (p := ⟨q, 0, none⟩) hqV).trans q0
  have ho3 : Own w3 w1.heap.size A3 ys.length c3 ys := by rw [HYL.out]; exact own_mono o3 sVw
  have hO3 := (HOV.out.on bV3).setRank hkn ho3 HIN.out (fun a ha => by have h9 := (own_ge o3 a ha).1; have h8 : V.drew.heap.size = V.heap.size := rfl; omega)
  rw [HYL.out] at hO3
  have hO4 := (hO3.setOther (p := ⟨w.heap.size + 1, 0, none⟩) hqr (.int .i64 m)).setOther (p := ⟨w.heap.size + 1, 1, none⟩) hqr (.slice (some ⟨g, 0, none⟩) n c2)
  have HO4 := Lib.hid (hO4.mono sw)
  have bF := (((Below.on bV bV3).setCell (p := ⟨g, k * 2, none⟩) (by show w.heap.size ≤ g; omega) (.slice A3 nd c3)).setCell (p := ⟨w.heap.size + 1, 0, none⟩) (Nat.le_succ _) (.int .i64 m)).setCell (p := ⟨w.heap.size + 1, 1, none⟩) (Nat.le_succ _) (.slice (some ⟨g, 0, none⟩) n c2)
  have HBF := Lib.hid bF
  clear hO3 hO4 ho3 o3 bV3 bF
  go_simp
  go_wp2_with fail
  exact bodyPost_ret (v := .tuple #[.agg #[.int .i64 m, .slice (some ⟨g, 0, none⟩) n c2], .bool true]) (by simp [results, Try.results39, go_sem, z0, z1]) rfl ⟨_, _, _, _, rfl, HO4.out, HBF.out⟩

theorem specWithRanking (m : Int) (A : Option Addr) (n c : Nat) (vs : List (List Int × Int)) (kk : Int) (D : Option Addr) (nd cd : Nat) (ys : List Int) (w : World) (h : Votes w A n vs) (hn : (n : Int) ≤ 1048576) (hm : ∀ j, j < n → (rl vs j : Int) ≤ 1048576) (hy : Ints w D nd ys) (hnd : (nd : Int) ≤ 1048576) :
    Calls Try.prog 39 #[.agg #[.int .i64 m, .slice A n c], .int .i64 kk, .slice D nd cd] w fun e w' => ∃ A' c' G C, e = .returned (.tuple #[.agg #[.int .i64 (wrM m vs kk ys), .slice A' (wrV m vs kk ys).length c'], .bool (wrOk m vs kk ys)]) ∧ OwnV w' w.heap.size A' (wrV m vs kk ys).length c' G C (rk (wrV m vs kk ys)) (ct (wrV m vs kk ys)) ∧ Below w.heap.size w w' := by
  have hl := h.1
  have no : wrOk m vs kk ys = false → (Calls Try.prog 39 #[.agg #[.int .i64 m, .slice A n c], .int .i64 kk, .slice D nd cd] w fun e w' => e = .returned (.tuple #[.agg #[.int .i64 0, .slice none 0 0], .bool false]) ∧ Below w.heap.size w w') → (Calls Try.prog 39 #[.agg #[.int .i64 m, .slice A n c], .int .i64 kk, .slice D nd cd] w fun e w' => ∃ A' c' G C, e = .returned (.tuple #[.agg #[.int .i64 (wrM m vs kk ys), .slice A' (wrV m vs kk ys).length c'], .bool (wrOk m vs kk ys)]) ∧ OwnV w' w.heap.size A' (wrV m vs kk ys).length c' G C (rk (wrV m vs kk ys)) (ct (wrV m vs kk ys)) ∧ Below w.heap.size w w') := by
    intro hf hc
    have eM : wrM m vs kk ys = 0 := by unfold wrM; rw [hf]; rfl
    have eV : wrV m vs kk ys = [] := by unfold wrV; rw [hf]; rfl
    rw [eM, eV, hf]
    refine hc.mono ?_; rintro e w1 ⟨rfl, b⟩
    exact ⟨none, 0, fun _ => none, fun _ => 0, rfl, OwnV.nil_ _ _ _ _ _ _, b⟩
  cases hp : profP m vs with
  | false => exact no (by simp [wrOk, hp]) (specWithRankingF1 m A n c vs kk D nd cd ys w h hn hm hp)
  | true =>
    cases hk : inB kk 0 ((n : Int) - 1) with
    | false => exact no (by rw [← hl] at hk; simp [wrOk, hk]) (specWithRankingF2 m A n c vs kk D nd cd ys w h hn hm hp hk)
    | true =>
      cases hok : rankOkP m ys with
      | false => exact no (by simp [wrOk, hok]) (specWithRankingF3 m A n c vs kk D nd cd ys w h hn hm hy hnd hp hk hok)
      | true =>
        have hf : wrOk m vs kk ys = true := by have hk2 := hk; rw [← hl] at hk2; simp [wrOk, hp, hk2, hok]
        have eM : wrM m vs kk ys = m := by unfold wrM; rw [hf]; rfl
        have eV : wrV m vs kk ys = setV vs kk.toNat ys := by unfold wrV; rw [hf]; rfl
        have eL : (setV vs kk.toNat ys).length = n := by rw [setV_len]; exact hl
        rw [eM, eV, eL, hf]
        refine (specWithRankingT m A n c vs kk D nd cd ys w h hn hm hy hnd hp hk hok).mono ?_; rintro e w1 ⟨A1, c1, G1, C1, rfl, o, b⟩
        exact ⟨A1, c1, G1, C1, rfl, o.congr (fun j hj => (setV_rk _ (by omega)).symm) (fun j hj => (setV_ct _ (by omega)).symm), b⟩

set_option maxHeartbeats 2000000 in
theorem implWithRankingF1 (m : Int) (A : Option Addr) (n c : Nat) (vs : List (List Int × Int)) (kk : Int) (D : Option Addr) (nd cd : Nat) (_ys : List Int) (w : World) (h : Votes w A n vs) (hn : (n : Int) ≤ 1048576) (hm : ∀ j, j < n → (rl vs j : Int) ≤ 1048576) (hp : profP m vs = false) :
    Calls Try.prog 40 #[.agg #[.int .i64 m, .slice A n c], .int .i64 kk, .slice D nd cd] w fun e w' => e = .returned (.tuple #[.agg #[.int .i64 0, .slice none 0 0], .bool false]) ∧ Below w.heap.size w w' := by
  have HM := Lib.hid hm; clear hm
  have HP : Hid (profP m vs = false) := hp
  clear hp
  have bl : Below w.heap.size w ((w.alloc (.cells #[.int .i64 m, .slice A n c] 40)).alloc (.cells #[.int .i64 0, .slice none 0 0] 40)) := ((Below.refl _ _).alloc (Nat.le_refl _) _).alloc (by simp) _
  have k0 : ((w.alloc (.cells #[.int .i64 m, .slice A n c] 40)).alloc (.cells #[.int .i64 0, .slice none 0 0] 40)).cell? ⟨w.heap.size, 0, none⟩ = some (.int .i64 m) := by simp [go_sem]
  have k1 : ((w.alloc (.cells #[.int .i64 m, .slice A n c] 40)).alloc (.cells #[.int .i64 0, .slice none 0 0] 40)).cell? ⟨w.heap.size, 1, none⟩ = some (.slice A n c) := by simp [go_sem]
  have r0 : ((w.alloc (.cells #[.int .i64 m, .slice A n c] 40)).alloc (.cells #[.int .i64 0, .slice none 0 0] 40)).cell? ⟨w.heap.size + 1, 0, none⟩ = some (.int .i64 0) := by simp [go_sem]
  have r1 : ((w.alloc (.cells #[.int .i64 m, .slice A n c] 40)).alloc (.cells #[.int .i64 0, .slice none 0 0] 40)).cell? ⟨w.heap.size + 1, 1, none⟩ = some (.slice none 0 0) := by simp [go_sem]
  have rf0 : ((w.alloc (.cells #[.int .i64 m, .slice A n c] 40)).alloc (.cells #[.int .i64 0, .slice none 0 0] 40)).frozen? ⟨w.heap.size + 1, 0, none⟩ = false := by simp [go_sem]
  have rf1 : ((w.alloc (.cells #[.int .i64 m, .slice A n c] 40)).alloc (.cells #[.int .i64 0, .slice none 0 0] 40)).frozen? ⟨w.heap.size + 1, 1, none⟩ = false := by simp [go_sem]
  have sp : w.heap.size < ((w.alloc (.cells #[.int .i64 m, .slice A n c] 40)).alloc (.cells #[.int .i64 0, .slice none 0 0] 40)).heap.size := by simp; omega
  have sr : w.heap.size + 1 < ((w.alloc (.cells #[.int .i64 m, .slice A n c] 40)).alloc (.cells #[.int .i64 0, .slice none 0 0] 40)).heap.size := by simp
  have hV := h.on bl
  go_enter Try.func40, Try.ntmps40
  go_wp2_with fail
  refine (implProfileOk m A n c vs _ hV hn HM.out).mono ?_; rintro e w1 ⟨rfl, b1⟩
  rw [HP.out]
  have bl1 := Below.on bl b1
  replace k0 := (b1.cell (p := ⟨w.heap.size, 0, none⟩) sp).trans k0
  replace k1 := (b1.cell (p := ⟨w.heap.size, 1, none⟩) sp).trans k1
  replace r0 := (b1.cell (p := ⟨w.heap.size + 1, 0, none⟩) sr).trans r0
  replace r1 := (b1.cell (p := ⟨w.heap.size + 1, 1, none⟩) sr).trans r1
  replace rf0 := (b1.frozen (p := ⟨w.heap.size + 1, 0, none⟩) sr).trans rf0
  replace rf1 := (b1.frozen (p := ⟨w.heap.size + 1, 1, none⟩) sr).trans rf1
  have hqr : w.heap.size + 1 < w1.heap.size := Nat.lt_of_lt_of_le sr b1.size
  have hqw : w.heap.size ≤ w1.heap.size := by omega
  clear b1 sp sr
  go_wp2_with fail
  exact bodyPost_ret (v := .tuple #[.agg #[.int .i64 0, .slice none 0 0], .bool false]) (by simp [results, Try.results40, go_sem, r0, r1]) rfl ⟨rfl, (bl1.setCell (Nat.le_succ _) _).setCell (Nat.le_succ _) _⟩

set_option maxHeartbeats 2000000 in
theorem implWithRankingF2 (m : Int) (A : Option Addr) (n c : Nat) (vs : List (List Int × Int)) (kk : Int) (D : Option Addr) (nd cd : Nat) (_ys : List Int) (w : World) (h : Votes w A n vs) (hn : (n : Int) ≤ 1048576) (hm : ∀ j, j < n → (rl vs j : Int) ≤ 1048576) (hp : profP m vs = true) (hk : inB kk 0 ((n : Int) - 1) = false) :
    Calls Try.prog 40 #[.agg #[.int .i64 m, .slice A n c], .int .i64 kk, .slice D nd cd] w fun e w' => e = .returned (.tuple #[.agg #[.int .i64 0, .slice none 0 0], .bool false]) ∧ Below w.heap.size w w' := by
  have HK := Lib.hid hk; clear hk
  have HM := Lib.hid hm; clear hm
  have HP : Hid (profP m vs = true) := hp
  clear hp
  have bl : Below w.heap.size w ((w.alloc (.cells #[.int .i64 m, .slice A n c] 40)).alloc (.cells #[.int .i64 0, .slice none 0 0] 40)) := ((Below.refl _ _).alloc (Nat.le_refl _) _).alloc (by simp) _
  have k0 : ((w.alloc (.cells #[.int .i64 m, .slice A n c] 40)).alloc (.cells #[.int .i64 0, .slice none 0 0] 40)).cell? ⟨w.heap.size, 0, none⟩ = some (.int .i64 m) := by simp [go_sem]
  have k1 : ((w.alloc (.cells #[.int .i64 m, .slice A n c] 40)).alloc (.cells #[.int .i64 0, .slice none 0 0] 40)).cell? ⟨w.heap.size, 1, none⟩ = some (.slice A n c) := by simp [go_sem]
  have r0 : ((w.alloc (.cells #[.int .i64 m, .slice A n c] 40)).alloc (.cells #[.int .i64 0, .slice none 0 0] 40)).cell? ⟨w.heap.size + 1, 0, none⟩ = some (.int .i64 0) := by simp [go_sem]
  have r1 : ((w.alloc (.cells #[.int .i64 m, .slice A n c] 40)).alloc (.cells #[.int .i64 0, .slice none 0 0] 40)).cell? ⟨w.heap.size + 1, 1, none⟩ = some (.slice none 0 0) := by simp [go_sem]
  have rf0 : ((w.alloc (.cells #[.int .i64 m, .slice A n c] 40)).alloc (.cells #[.int .i64 0, .slice none 0 0] 40)).frozen? ⟨w.heap.size + 1, 0, none⟩ = false := by simp [go_sem]
  have rf1 : ((w.alloc (.cells #[.int .i64 m, .slice A n c] 40)).alloc (.cells #[.int .i64 0, .slice none 0 0] 40)).frozen? ⟨w.heap.size + 1, 1, none⟩ = false := by simp [go_sem]
  have sp : w.heap.size < ((w.alloc (.cells #[.int .i64 m, .slice A n c] 40)).alloc (.cells #[.int .i64 0, .slice none 0 0] 40)).heap.size := by simp; omega
  have sr : w.heap.size + 1 < ((w.alloc (.cells #[.int .i64 m, .slice A n c] 40)).alloc (.cells #[.int .i64 0, .slice none 0 0] 40)).heap.size := by simp
  have hV := h.on bl
  go_enter Try.func40, Try.ntmps40
  go_wp2_with fail
  refine (implProfileOk m A n c vs _ hV hn HM.out).mono ?_; rintro e wa ⟨rfl, ba⟩
  rw [HP.out]
  have k0a := (ba.cell (p := ⟨w.heap.size, 0, none⟩) sp).trans k0
  have k1a := (ba.cell (p := ⟨w.heap.size, 1, none⟩) sp).trans k1
  go_wp2_with fail
  refine (implWithin _ _ _ _).mono ?_; rintro e wb ⟨rfl, rfl⟩
  rw [HK.out]
  have b1 := ba
  clear k0a k1a
  have bl1 := Below.on bl b1
  replace k0 := (b1.cell (p := ⟨w.heap.size, 0, none⟩) sp).trans k0
  replace k1 := (b1.cell (p := ⟨w.heap.size, 1, none⟩) sp).trans k1
  replace r0 := (b1.cell (p := ⟨w.heap.size + 1, 0, none⟩) sr).trans r0
  replace r1 := (b1.cell (p := ⟨w.heap.size + 1, 1, none⟩) sr).trans r1
  replace rf0 := (b1.frozen (p := ⟨w.heap.size + 1, 0, none⟩) sr).trans rf0
  replace rf1 := (b1.frozen (p := ⟨w.heap.size + 1, 1, none⟩) sr).trans rf1
  have hqr : w.heap.size + 1 < wa.heap.size := Nat.lt_of_lt_of_le sr b1.size
  have hqw : w.heap.size ≤ wa.heap.size := by omega
  clear b1 sp sr
  go_wp2_with fail
  exact bodyPost_ret (v := .tuple #[.agg #[.int .i64 0, .slice none 0 0], .bool false]) (by simp [results, Try.results40, go_sem, r0, r1]) rfl ⟨rfl, (bl1.setCell (Nat.le_succ _) _).setCell (Nat.le_succ _) _⟩

set_option maxHeartbeats 2000000 in
theorem implWithRankingF3 (m : Int) (A : Option Addr) (n c : Nat) (vs : List (List Int × Int)) (kk : Int) (D : Option Addr) (nd cd : Nat) (ys : List Int) (w : World) (h : Votes w A n vs) (hn : (n : Int) ≤ 1048576) (hm : ∀ j, j < n → (rl vs j : Int) ≤ 1048576) (hy : Ints w D nd ys) (hnd : (nd : Int) ≤ 1048576) (hdc : (nd : Int) ≤ cd) (hp : profP m vs = true) (hk : inB kk 0 ((n : Int) - 1) = true) (hok : rankOkP m ys = false) :
    Calls Try.prog 40 #[.agg #[.int .i64 m, .slice A n c], .int .i64 kk, .slice D nd cd] w fun e w' => e = .returned (.tuple #[.agg #[.int .i64 0, .slice none 0 0], .bool false]) ∧ Below w.heap.size w w' := by
  have HK := Lib.hid hk; clear hk
  have HOK := Lib.hid hok; clear hok
  have HM := Lib.hid hm; clear hm
  have HP : Hid (profP m vs = true) := hp
  clear hp
  have bl : Below w.heap.size w ((w.alloc (.cells #[.int .i64 m, .slice A n c] 40)).alloc (.cells #[.int .i64 0, .slice none 0 0] 40)) := ((Below.refl _ _).alloc (Nat.le_refl _) _).alloc (by simp) _
  have k0 : ((w.alloc (.cells #[.int .i64 m, .slice A n c] 40)).alloc (.cells #[.int .i64 0, .slice none 0 0] 40)).cell? ⟨w.heap.size, 0, none⟩ = some (.int .i64 m) := by simp [go_sem]
  have k1 : ((w.alloc (.cells #[.int .i64 m, .slice A n c] 40)).alloc (.cells #[.int .i64 0, .slice none 0 0] 40)).cell? ⟨w.heap.size, 1, none⟩ = some (.slice A n c) := by simp [go_sem]
  have r0 : ((w.alloc (.cells #[.int .i64 m, .slice A n c] 40)).alloc (.cells #[.int .i64 0, .slice none 0 0] 40)).cell? ⟨w.heap.size + 1, 0, none⟩ = some (.int .i64 0) := by simp [go_sem]
  have r1 : ((w.alloc (.cells #[.int .i64 m, .slice A n c] 40)).alloc (.cells #[.int .i64 0, .slice none 0 0] 40)).cell? ⟨w.heap.size + 1, 1, none⟩ = some (.slice none 0 0) := by simp [go_sem]
  have rf0 : ((w.alloc (.cells #[.int .i64 m, .slice A n c] 40)).alloc (.cells #[.int .i64 0, .slice none 0 0] 40)).frozen? ⟨w.heap.size + 1, 0, none⟩ = false := by simp [go_sem]
  have rf1 : ((w.alloc (.cells #[.int .i64 m, .slice A n c] 40)).alloc (.cells #[.int .i64 0, .slice none 0 0] 40)).frozen? ⟨w.heap.size + 1, 1, none⟩ = false := by simp [go_sem]
  have sp : w.heap.size < ((w.alloc (.cells #[.int .i64 m, .slice A n c] 40)).alloc (.cells #[.int .i64 0, .slice none 0 0] 40)).heap.size := by simp; omega
  have sr : w.heap.size + 1 < ((w.alloc (.cells #[.int .i64 m, .slice A n c] 40)).alloc (.cells #[.int .i64 0, .slice none 0 0] 40)).heap.size := by simp
  have hV := h.on bl
  go_enter Try.func40, Try.ntmps40
  go_wp2_with fail
  refine (implProfileOk m A n c vs _ hV hn HM.out).mono ?_; rintro e wa ⟨rfl, ba⟩
  rw [HP.out]
  have k0a := (ba.cell (p := ⟨w.heap.size, 0, none⟩) sp).trans k0
  have k1a := (ba.cell (p := ⟨w.heap.size, 1, none⟩) sp).trans k1
  have hya := hy.on (Below.on bl ba)
  go_wp2_with fail
  refine (implWithin _ _ _ _).mono ?_; rintro e wb ⟨rfl, rfl⟩
  rw [HK.out]
  go_wp2_with fail
  refine (implRankingOk m D nd cd ys _ hya hnd hdc).mono ?_; rintro e w1 ⟨rfl, rfl⟩
  rw [HOK.out]
  have b1 := ba
  clear k0a k1a hya
  have bl1 := Below.on bl b1
  replace k0 := (b1.cell (p := ⟨w.heap.size, 0, none⟩) sp).trans k0
  replace k1 := (b1.cell (p := ⟨w.heap.size, 1, none⟩) sp).trans k1
  replace r0 := (b1.cell (p := ⟨w.heap.size + 1, 0, none⟩) sr).trans r0
  replace r1 := (b1.cell (p := ⟨w.heap.size + 1, 1, none⟩) sr).trans r1
  replace rf0 := (b1.frozen (p := ⟨w.heap.size + 1, 0, none⟩) sr).trans rf0
  replace rf1 := (b1.frozen (p := ⟨w.heap.size + 1, 1, none⟩) sr).trans rf1
  have hqr : w.heap.size + 1 < wa.heap.size := Nat.lt_of_lt_of_le sr b1.size
  have hqw : w.heap.size ≤ wa.heap.size := by omega
  clear b1 sp sr
  go_wp2_with fail
  exact bodyPost_ret (v := .tuple #[.agg #[.int .i64 0, .slice none 0 0], .bool false]) (by simp [results, Try.results40, go_sem, r0, r1]) rfl ⟨rfl, (bl1.setCell (Nat.le_succ _) _).setCell (Nat.le_succ _) _⟩

set_option maxHeartbeats 4000000 in
theorem implWithRankingT (m : Int) (A : Option Addr) (n c : Nat) (vs : List (List Int × Int)) (kk : Int) (D : Option Addr) (nd cd : Nat) (ys : List Int) (w : World) (h : Votes w A n vs) (hn : (n : Int) ≤ 1048576) (hm : ∀ j, j < n → (rl vs j : Int) ≤ 1048576) (hy : Ints w D nd ys) (hnd : (nd : Int) ≤ 1048576) (hdc : (nd : Int) ≤ cd) (hp : profP m vs = true) (hk : inB kk 0 ((n : Int) - 1) = true) (hok : rankOkP m ys = true) :
    Calls Try.prog 40 #[.agg #[.int .i64 m, .slice A n c], .int .i64 kk, .slice D nd cd] w fun e w' => ∃ A' c' G C, e = .returned (.tuple #[.agg #[.int .i64 m, .slice A' n c'], .bool true]) ∧ OwnV w' w.heap.size A' n c' G C (fun j => if j = kk.toNat then ys else rk vs j) (ct vs) ∧ Below w.heap.size w w' := by
  obtain ⟨k, rfl⟩ : ∃ k : Nat, kk = (k : Int) := ⟨kk.toNat, by have := of_inB hk; omega⟩
  have hkn : k < n := by have := of_inB hk; omega
  have hkn0 : (k : Int) < n := by omega
  rw [show (k : Int).toNat = k by omega]
  have HK := Lib.hid hk; clear hk
  have HOK := Lib.hid hok; clear hok
  have HM := Lib.hid hm; clear hm
  have HP : Hid (profP m vs = true) := hp
  clear hp
  have bl : Below w.heap.size w ((w.alloc (.cells #[.int .i64 m, .slice A n c] 40)).alloc (.cells #[.int .i64 0, .slice none 0 0] 40)) := ((Below.refl _ _).alloc (Nat.le_refl _) _).alloc (by simp) _
  have k0 : ((w.alloc (.cells #[.int .i64 m, .slice A n c] 40)).alloc (.cells #[.int .i64 0, .slice none 0 0] 40)).cell? ⟨w.heap.size, 0, none⟩ = some (.int .i64 m) := by simp [go_sem]
  have k1 : ((w.alloc (.cells #[.int .i64 m, .slice A n c] 40)).alloc (.cells #[.int .i64 0, .slice none 0 0] 40)).cell? ⟨w.heap.size, 1, none⟩ = some (.slice A n c) := by simp [go_sem]
  have r0 : ((w.alloc (.cells #[.int .i64 m, .slice A n c] 40)).alloc (.cells #[.int .i64 0, .slice none 0 0] 40)).cell? ⟨w.heap.size + 1, 0, none⟩ = some (.int .i64 0) := by simp [go_sem]
  have r1 : ((w.alloc (.cells #[.int .i64 m, .slice A n c] 40)).alloc (.cells #[.int .i64 0, .slice none 0 0] 40)).cell? ⟨w.heap.size + 1, 1, none⟩ = some (.slice none 0 0) := by simp [go_sem]
  have rf0 : ((w.alloc (.cells #[.int .i64 m, .slice A n c] 40)).alloc (.cells #[.int .i64 0, .slice none 0 0] 40)).frozen? ⟨w.heap.size + 1, 0, none⟩ = false := by simp [go_sem]
  have rf1 : ((w.alloc (.cells #[.int .i64 m, .slice A n c] 40)).alloc (.cells #[.int .i64 0, .slice none 0 0] 40)).frozen? ⟨w.heap.size + 1, 1, none⟩ = false := by simp [go_sem]
  have sp : w.heap.size < ((w.alloc (.cells #[.int .i64 m, .slice A n c] 40)).alloc (.cells #[.int .i64 0, .slice none 0 0] 40)).heap.size := by simp; omega
  have sr : w.heap.size + 1 < ((w.alloc (.cells #[.int .i64 m, .slice A n c] 40)).alloc (.cells #[.int .i64 0, .slice none 0 0] 40)).heap.size := by simp
  have hV := h.on bl
  go_enter Try.func40, Try.ntmps40
  go_wp2_with fail
  refine (implProfileOk m A n c vs _ hV hn HM.out).mono ?_; rintro e wa ⟨rfl, ba⟩
  rw [HP.out]
  have k0a := (ba.cell (p := ⟨w.heap.size, 0, none⟩) sp).trans k0
  have k1a := (ba.cell (p := ⟨w.heap.size, 1, none⟩) sp).trans k1
  have hya := hy.on (Below.on bl ba)
  go_wp2_with fail
  refine (implWithin _ _ _ _).mono ?_; rintro e wb ⟨rfl, rfl⟩
  rw [HK.out]
  go_wp2_with fail
  refine (implRankingOk m D nd cd ys _ hya hnd hdc).mono ?_; rintro e w1 ⟨rfl, rfl⟩
  rw [HOK.out]
  have b1 := ba
  clear k0a k1a hya
  have bl1 := Below.on bl b1
  replace k0 := (b1.cell (p := ⟨w.heap.size, 0, none⟩) sp).trans k0
  replace k1 := (b1.cell (p := ⟨w.heap.size, 1, none⟩) sp).trans k1
  replace r0 := (b1.cell (p := ⟨w.heap.size + 1, 0, none⟩) sr).trans r0
  replace r1 := (b1.cell (p := ⟨w.heap.size + 1, 1, none⟩) sr).trans r1
  replace rf0 := (b1.frozen (p := ⟨w.heap.size + 1, 0, none⟩) sr).trans rf0
  replace rf1 := (b1.frozen (p := ⟨w.heap.size + 1, 1, none⟩) sr).trans rf1
  have hqr : w.heap.size + 1 < wa.heap.size := Nat.lt_of_lt_of_le sr b1.size
  have hqw : w.heap.size ≤ wa.heap.size := by omega
  clear b1 sp sr
  have hV1 := h.on bl1
  have hy1 := hy.on bl1
  go_wp2_with fail
  refine (implClone m A n c vs _ hV1 hn HM.out).mono ?_; rintro e w2 ⟨A2, c2, G, C, rfl, o2, b2⟩
  have bl2 := Below.on bl1 b2
  have hy2 := hy1.on b2
  have sw := bl1.size
  have s2 := b2.size
  replace r0 := (b2.cell (p := ⟨w.heap.size + 1, 0, none⟩) hqr).trans r0
  replace r1 := (b2.cell (p := ⟨w.heap.size + 1, 1, none⟩) hqr).trans r1
  replace rf0 := (b2.frozen (p := ⟨w.heap.size + 1, 0, none⟩) hqr).trans rf0
  replace rf1 := (b2.frozen (p := ⟨w.heap.size + 1, 1, none⟩) hqr).trans rf1
  obtain ⟨g, rfl, hg0, hg1, gc, gi, gz, gz1⟩ := o2.cells hkn
  have hin := o2.inn
  have bV : Below w.heap.size w (w2.alloc (.cells #[.int .i64 m, .slice (some ⟨g, 0, none⟩) n c2] 40)) := bl2.alloc (by omega) _
  have q0 : (w2.alloc (.cells #[.int .i64 m, .slice (some ⟨g, 0, none⟩) n c2] 40)).cell? ⟨w2.heap.size, 0, none⟩ = some (.int .i64 m) := by simp
  have q1 : (w2.alloc (.cells #[.int .i64 m, .slice (some ⟨g, 0, none⟩) n c2] 40)).cell? ⟨w2.heap.size, 1, none⟩ = some (.slice (some ⟨g, 0, none⟩) n c2) := by simp
  have hqV : w2.heap.size < (w2.alloc (.cells #[.int .i64 m, .slice (some ⟨g, 0, none⟩) n c2] 40)).heap.size := by simp
  have bA : Below w2.heap.size w2 (w2.alloc (.cells #[.int .i64 m, .slice (some ⟨g, 0, none⟩) n c2] 40)) := (Below.refl _ _).alloc (Nat.le_refl _) _
  have hrw : w.heap.size + 1 < w2.heap.size := by omega
  replace r0 := (bA.cell (p := ⟨w.heap.size + 1, 0, none⟩) hrw).trans r0
  replace r1 := (bA.cell (p := ⟨w.heap.size + 1, 1, none⟩) hrw).trans r1
  replace rf0 := (bA.frozen (p := ⟨w.heap.size + 1, 0, none⟩) hrw).trans rf0
  replace rf1 := (bA.frozen (p := ⟨w.heap.size + 1, 1, none⟩) hrw).trans rf1
  replace gc := (bA.cell (p := ⟨g, k * 2, none⟩) hg1).trans gc
  replace gz := (bA.frozen (p := ⟨g, k * 2, none⟩) hg1).trans gz
  have hgV : g < (w2.alloc (.cells #[.int .i64 m, .slice (some ⟨g, 0, none⟩) n c2] 40)).heap.size := by omega
  have hyV := (hy2.on bA).drew
  have oV := o2.on bA
  have hgq : ¬ g = w2.heap.size := by omega
  have hqg : ¬ w2.heap.size = g := by omega
  have hgr : ¬ g = w.heap.size + 1 := by omega
  have hrg : ¬ w.heap.size + 1 = g := by omega
  have hWg : wa.heap.size ≤ g := hg0
  have HIN := Lib.hid hin; clear hin
  have HYL := Lib.hid hy.1
  have hnd2 : nd ≤ 1099511627776 := by omega
  have HOV := Lib.hid oV
  have sVw : wa.heap.size ≤ (w2.alloc (.cells #[.int .i64 m, .slice (some ⟨g, 0, none⟩) n c2] 40)).heap.size := by omega
  clear o2 oV bl1 b2 bl2 hV1 hy1 hy2 bA gi gz1
  go_wp2_with fail
  generalize w2.alloc (.cells #[.int .i64 m, .slice (some ⟨g, 0, none⟩) n c2] 40) = V at *
  generalize w2.heap.size = q at *
  go_region_held_law (fun w' => w'.cell? ⟨q, 1, none⟩ = some (.slice (some ⟨g, 0, none⟩) n c2)) (go_keep) (first
    | (go_simp; go_at_call 79; refine (libClone D nd cd ys V.drew hyV hnd).mono ?_; rintro e w3 ⟨A3, c3, rfl, o3, b3⟩; have bV3 := (Below.drew (Below.refl V.heap.size V)).trans b3; have e1 := (bV3.cell (p := ⟨q, 1, none⟩) hqV).trans q1; have g0 := (bV3.cell (p := ⟨g, k * 2, none⟩) hgV).trans gc; have gf := (bV3.frozen (p := ⟨g, k * 2, none⟩) hgV).trans gz))
  have hr3 : w.heap.size + 1 < V.heap.size := by omega
  have z0 := (bV3.cell (p := ⟨w.heap.size + 1, 0, none⟩) hr3).trans r0
  have z1 := (bV3.cell (p := ⟨w.heap.size + 1, 1, none⟩) hr3).trans r1
  have zf0 := (bV3.frozen (p := ⟨w.heap.size + 1, 0, none⟩) hr3).trans rf0
  have zf1 := (bV3.frozen (p := ⟨w.heap.size + 1, 1, none⟩) hr3).trans rf1
  have e0 := (bV3.cell (p := ⟨q, 0, none⟩) hqV).trans q0
  have ho3 : Own w3 wa.heap.size A3 ys.length c3 ys := by rw [HYL.out]; exact own_mono o3 sVw
  have hO3 := (HOV.out.on bV3).setRank hkn ho3 HIN.out (fun a ha => by have h9 := (own_ge o3 a ha).1; have h8 : V.drew.heap.size = V.heap.size := rfl; omega)
  rw [HYL.out] at hO3
  have hO4 := (hO3.setOther (p := ⟨w.heap.size + 1, 0, none⟩) hqr (.int .i64 m)).setOther (p := ⟨w.heap.size + 1, 1, none⟩) hqr (.slice (some ⟨g, 0, none⟩) n c2)
  have HO4 := Lib.hid (hO4.mono sw)
  have bF := (((Below.on bV bV3).setCell (p := ⟨g, k * 2, none⟩) (by show w.heap.size ≤ g; omega) (.slice A3 nd c3)).setCell (p := ⟨w.heap.size + 1, 0, none⟩) (Nat.le_succ _) (.int .i64 m)).setCell (p := ⟨w.heap.size + 1, 1, none⟩) (Nat.le_succ _) (.slice (some ⟨g, 0, none⟩) n c2)
  have HBF := Lib.hid bF
  clear hO3 hO4 ho3 o3 bV3 bF
  go_simp
  go_wp2_with fail
  exact bodyPost_ret (v := .tuple #[.agg #[.int .i64 m, .slice (some ⟨g, 0, none⟩) n c2], .bool true]) (by simp [results, Try.results40, go_sem, z0, z1]) rfl ⟨_, _, _, _, rfl, HO4.out, HBF.out⟩

theorem implWithRanking (m : Int) (A : Option Addr) (n c : Nat) (vs : List (List Int × Int)) (kk : Int) (D : Option Addr) (nd cd : Nat) (ys : List Int) (w : World) (h : Votes w A n vs) (hn : (n : Int) ≤ 1048576) (hm : ∀ j, j < n → (rl vs j : Int) ≤ 1048576) (hy : Ints w D nd ys) (hnd : (nd : Int) ≤ 1048576) (hdc : (nd : Int) ≤ cd) :
    Calls Try.prog 40 #[.agg #[.int .i64 m, .slice A n c], .int .i64 kk, .slice D nd cd] w fun e w' => ∃ A' c' G C, e = .returned (.tuple #[.agg #[.int .i64 (wrM m vs kk ys), .slice A' (wrV m vs kk ys).length c'], .bool (wrOk m vs kk ys)]) ∧ OwnV w' w.heap.size A' (wrV m vs kk ys).length c' G C (rk (wrV m vs kk ys)) (ct (wrV m vs kk ys)) ∧ Below w.heap.size w w' := by
  have hl := h.1
  have no : wrOk m vs kk ys = false → (Calls Try.prog 40 #[.agg #[.int .i64 m, .slice A n c], .int .i64 kk, .slice D nd cd] w fun e w' => e = .returned (.tuple #[.agg #[.int .i64 0, .slice none 0 0], .bool false]) ∧ Below w.heap.size w w') → (Calls Try.prog 40 #[.agg #[.int .i64 m, .slice A n c], .int .i64 kk, .slice D nd cd] w fun e w' => ∃ A' c' G C, e = .returned (.tuple #[.agg #[.int .i64 (wrM m vs kk ys), .slice A' (wrV m vs kk ys).length c'], .bool (wrOk m vs kk ys)]) ∧ OwnV w' w.heap.size A' (wrV m vs kk ys).length c' G C (rk (wrV m vs kk ys)) (ct (wrV m vs kk ys)) ∧ Below w.heap.size w w') := by
    intro hf hc
    have eM : wrM m vs kk ys = 0 := by unfold wrM; rw [hf]; rfl
    have eV : wrV m vs kk ys = [] := by unfold wrV; rw [hf]; rfl
    rw [eM, eV, hf]
    refine hc.mono ?_; rintro e w1 ⟨rfl, b⟩
    exact ⟨none, 0, fun _ => none, fun _ => 0, rfl, OwnV.nil_ _ _ _ _ _ _, b⟩
  cases hp : profP m vs with
  | false => exact no (by simp [wrOk, hp]) (implWithRankingF1 m A n c vs kk D nd cd ys w h hn hm hp)
  | true =>
    cases hk : inB kk 0 ((n : Int) - 1) with
    | false => exact no (by rw [← hl] at hk; simp [wrOk, hk]) (implWithRankingF2 m A n c vs kk D nd cd ys w h hn hm hp hk)
    | true =>
      cases hok : rankOkP m ys with
      | false => exact no (by simp [wrOk, hok]) (implWithRankingF3 m A n c vs kk D nd cd ys w h hn hm hy hnd hdc hp hk hok)
      | true =>
        have hf : wrOk m vs kk ys = true := by have hk2 := hk; rw [← hl] at hk2; simp [wrOk, hp, hk2, hok]
        have eM : wrM m vs kk ys = m := by unfold wrM; rw [hf]; rfl
        have eV : wrV m vs kk ys = setV vs kk.toNat ys := by unfold wrV; rw [hf]; rfl
        have eL : (setV vs kk.toNat ys).length = n := by rw [setV_len]; exact hl
        rw [eM, eV, eL, hf]
        refine (implWithRankingT m A n c vs kk D nd cd ys w h hn hm hy hnd hdc hp hk hok).mono ?_; rintro e w1 ⟨A1, c1, G1, C1, rfl, o, b⟩
        exact ⟨A1, c1, G1, C1, rfl, o.congr (fun j hj => (setV_rk _ (by omega)).symm) (fun j hj => (setV_ct _ (by omega)).symm), b⟩

end Go.Proofs.Ytblofiimfhbkdaa
