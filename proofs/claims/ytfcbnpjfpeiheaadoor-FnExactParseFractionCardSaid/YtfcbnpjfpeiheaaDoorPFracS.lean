/- A fraction read out of its text: what the reference's function computes. -/
import Derived.Test.YtfcbnpjfpeiheaaDoorPlainPF
import Derived.Test.YtfcbnpjfpeiheaaDoorPIntS
namespace Go.Proofs.YtfcbnpjfpeiheaaDoor
open Go.RowKit
set_option maxRecDepth 100000

theorem ret_pf {s : ByteArray} {x y : Int} {b : Bool} (h1 : pfX s = x) (h2 : pfY s = y) (h3 : pfOk s = b) : Ending.returned (.tuple #[.agg #[.int .i64 x, .int .i64 y], .bool b]) = .returned (.tuple #[.agg #[.int .i64 (pfX s), .int .i64 (pfY s)], .bool (pfOk s)]) := by rw [h1, h2, h3]

set_option maxHeartbeats 8000000 in
theorem specParseFraction (s : ByteArray) (w : World) (hs : s.size ≤ 1048576) :
    Calls Tryd.prog 9 #[.string s] w fun e w' => e = .returned (.tuple #[.agg #[.int .i64 (pfX s), .int .i64 (pfY s)], .bool (pfOk s)]) ∧ Below w.heap.size w w' := by
  have bl : Below w.heap.size w (w.alloc (.cells #[.int .i64 0, .int .i64 0] 23)) := (Below.refl _ _).alloc (Nat.le_refl _) _
  have r0 : (w.alloc (.cells #[.int .i64 0, .int .i64 0] 23)).cell? ⟨w.heap.size, 0, none⟩ = some (.int .i64 0) := by simp
  have r1 : (w.alloc (.cells #[.int .i64 0, .int .i64 0] 23)).cell? ⟨w.heap.size, 1, none⟩ = some (.int .i64 0) := by simp
  have rf0 : (w.alloc (.cells #[.int .i64 0, .int .i64 0] 23)).frozen? ⟨w.heap.size, 0, none⟩ = false := by simp
  have rf1 : (w.alloc (.cells #[.int .i64 0, .int .i64 0] 23)).frozen? ⟨w.heap.size, 1, none⟩ = false := by simp
  have sr : w.heap.size < (w.alloc (.cells #[.int .i64 0, .int .i64 0] 23)).heap.size := by simp
  go_enter Tryd.func9, Tryd.ntmps9
  go_wp2_with fail
  generalize (w.alloc (.cells #[.int .i64 0, .int .i64 0] 23)) = W at *
  refine (specSplitAny s ⟨#[47]⟩ _ (by omega) (by decide)).mono ?_; rintro e w1 ⟨A1, c1, rfl, o1, b1⟩
  have bl1 := Below.on bl b1
  replace r0 := (b1.cell (p := ⟨w.heap.size, 0, none⟩) sr).trans r0
  replace r1 := (b1.cell (p := ⟨w.heap.size, 1, none⟩) sr).trans r1
  replace rf0 := (b1.frozen (p := ⟨w.heap.size, 0, none⟩) sr).trans rf0
  replace rf1 := (b1.frozen (p := ⟨w.heap.size, 1, none⟩) sr).trans rf1
  replace sr := Nat.lt_of_lt_of_le sr b1.size
  have hS := Strs.of_own o1
  clear o1 b1
  rcases Lib.index_spec s.data.toList [47] with ⟨hi, _⟩ | ⟨j, hi, _⟩
  · obtain ⟨p1, p2⟩ := pieces_one hi
    have HI := Lib.hid (pf_one hi)
    clear hi
    rw [p1] at hS ⊢
    obtain ⟨b', o', rfl, hbs, hc⟩ := hS.at_ (k := 0) (by omega)
    rw [p2, Nat.add_zero] at hc
    clear p1 p2 hS
    go_wp2_with fail
    refine (specParseInt s _ hs).mono ?_; rintro e w2 ⟨rfl, b2⟩
    have bl2 := Below.on bl1 b2
    replace r0 := (b2.cell (p := ⟨w.heap.size, 0, none⟩) sr).trans r0
    replace r1 := (b2.cell (p := ⟨w.heap.size, 1, none⟩) sr).trans r1
    replace rf0 := (b2.frozen (p := ⟨w.heap.size, 0, none⟩) sr).trans rf0
    replace rf1 := (b2.frozen (p := ⟨w.heap.size, 1, none⟩) sr).trans rf1
    replace sr := Nat.lt_of_lt_of_le sr b2.size
    clear b2
    cases hpo : pOk s with
    | false =>
      have HNO := HI.out.2.2.1 hpo
      have HF : Hid (pfX s = 0 ∧ pfY s = 0 ∧ pfOk s = false) := ⟨(pf_no HNO).1, (pf_no HNO).2, HNO⟩
      clear HNO hpo
      have bA : Below w2.heap.size w2 (w2.alloc (.cells #[.int .i64 (pV s), .int .i64 1] 23)) := (Below.refl _ _).alloc (Nat.le_refl _) _
      have g0 : (w2.alloc (.cells #[.int .i64 (pV s), .int .i64 1] 23)).cell? ⟨w2.heap.size, 0, none⟩ = some (.int .i64 (pV s)) := by simp
      have g1 : (w2.alloc (.cells #[.int .i64 (pV s), .int .i64 1] 23)).cell? ⟨w2.heap.size, 1, none⟩ = some (.int .i64 1) := by simp
      have gf0 : (w2.alloc (.cells #[.int .i64 (pV s), .int .i64 1] 23)).frozen? ⟨w2.heap.size, 0, none⟩ = false := by simp
      have gf1 : (w2.alloc (.cells #[.int .i64 (pV s), .int .i64 1] 23)).frozen? ⟨w2.heap.size, 1, none⟩ = false := by simp
      have sg : w2.heap.size < (w2.alloc (.cells #[.int .i64 (pV s), .int .i64 1] 23)).heap.size := by simp
      have hqr : w.heap.size < w2.heap.size := sr
      have bl7 := Below.on bl2 bA
      replace r0 := (bA.cell (p := ⟨w.heap.size, 0, none⟩) sr).trans r0
      replace r1 := (bA.cell (p := ⟨w.heap.size, 1, none⟩) sr).trans r1
      replace rf0 := (bA.frozen (p := ⟨w.heap.size, 0, none⟩) sr).trans rf0
      replace rf1 := (bA.frozen (p := ⟨w.heap.size, 1, none⟩) sr).trans rf1
      replace sr := Nat.lt_of_lt_of_le sr bA.size
      clear bA
      go_upto_region 6 with fail
      generalize (w2.alloc (.cells #[.int .i64 (pV s), .int .i64 1] 23)) = WB at *
      generalize w2.heap.size = q at *
      go_wp2_with fail
      exact bodyPost_ret (v := .tuple #[.agg #[.int .i64 0, .int .i64 0], .bool false]) (by simp [results, Tryd.results9, go_sem, r0, r1]) rfl ⟨ret_pf HF.out.1 HF.out.2.1 HF.out.2.2, (bl7.setCell (Nat.le_refl _) _).setCell (Nat.le_refl _) _⟩
    | true =>
      have HPO : Hid (pOk s = true) := hpo
      clear hpo
      have bA : Below w2.heap.size w2 (w2.alloc (.cells #[.int .i64 (pV s), .int .i64 1] 23)) := (Below.refl _ _).alloc (Nat.le_refl _) _
      have g0 : (w2.alloc (.cells #[.int .i64 (pV s), .int .i64 1] 23)).cell? ⟨w2.heap.size, 0, none⟩ = some (.int .i64 (pV s)) := by simp
      have g1 : (w2.alloc (.cells #[.int .i64 (pV s), .int .i64 1] 23)).cell? ⟨w2.heap.size, 1, none⟩ = some (.int .i64 1) := by simp
      have gf0 : (w2.alloc (.cells #[.int .i64 (pV s), .int .i64 1] 23)).frozen? ⟨w2.heap.size, 0, none⟩ = false := by simp
      have gf1 : (w2.alloc (.cells #[.int .i64 (pV s), .int .i64 1] 23)).frozen? ⟨w2.heap.size, 1, none⟩ = false := by simp
      have sg : w2.heap.size < (w2.alloc (.cells #[.int .i64 (pV s), .int .i64 1] 23)).heap.size := by simp
      have hqr : w.heap.size < w2.heap.size := sr
      have bl7 := Below.on bl2 bA
      replace r0 := (bA.cell (p := ⟨w.heap.size, 0, none⟩) sr).trans r0
      replace r1 := (bA.cell (p := ⟨w.heap.size, 1, none⟩) sr).trans r1
      replace rf0 := (bA.frozen (p := ⟨w.heap.size, 0, none⟩) sr).trans rf0
      replace rf1 := (bA.frozen (p := ⟨w.heap.size, 1, none⟩) sr).trans rf1
      replace sr := Nat.lt_of_lt_of_le sr bA.size
      clear bA
      go_wp2_with fail
      generalize (w2.alloc (.cells #[.int .i64 (pV s), .int .i64 1] 23)) = WB at *
      generalize w2.heap.size = q at *
      refine (specFormatFraction (pV s) 1 _).mono ?_; rintro e w8 ⟨rfl, b8⟩
      have bl8 := Below.on bl7 b8
      replace r0 := (b8.cell (p := ⟨w.heap.size, 0, none⟩) sr).trans r0
      replace r1 := (b8.cell (p := ⟨w.heap.size, 1, none⟩) sr).trans r1
      replace rf0 := (b8.frozen (p := ⟨w.heap.size, 0, none⟩) sr).trans rf0
      replace rf1 := (b8.frozen (p := ⟨w.heap.size, 1, none⟩) sr).trans rf1
      replace g0 := (b8.cell (p := ⟨q, 0, none⟩) sg).trans g0
      replace g1 := (b8.cell (p := ⟨q, 1, none⟩) sg).trans g1
      replace gf0 := (b8.frozen (p := ⟨q, 0, none⟩) sg).trans gf0
      replace gf1 := (b8.frozen (p := ⟨q, 1, none⟩) sg).trans gf1
      replace sg := Nat.lt_of_lt_of_le sg b8.size
      replace sr := Nat.lt_of_lt_of_le sr b8.size
      by_cases ht : fracT (pV s) 1 = s
      · have hq : ((fracT (pV s) 1).toList == s.toList) = true := by rw [beq_iff_eq]; exact congrArg ByteArray.toList ht
        have HYES : pfOk s = true := by rw [pfOk_eq (HI.out.2.2.2 HPO.out), HI.out.1, HI.out.2.1]; exact decide_eq_true ht
        have HF : Hid (pfX s = (pV s) ∧ pfY s = 1 ∧ pfOk s = true) := ⟨(pf_yes HYES).1.trans HI.out.1, (pf_yes HYES).2.trans HI.out.2.1, HYES⟩
        clear ht HYES
        go_wp2_with fail
        exact bodyPost_ret (v := .tuple #[.agg #[.int .i64 (pV s), .int .i64 1], .bool true]) (by simp [results, Tryd.results9, go_sem, r0, r1]) rfl ⟨ret_pf HF.out.1 HF.out.2.1 HF.out.2.2, (bl8.setCell (Nat.le_refl _) _).setCell (Nat.le_refl _) _⟩
      · have hq : ((fracT (pV s) 1).toList == s.toList) = false := by
          rw [beq_eq_false_iff_ne, ByteArray.toList_eq, ByteArray.toList_eq]
          intro e
          exact ht (ByteArray.ext (Array.toList_inj.1 e))
        have HNO : pfOk s = false := by rw [pfOk_eq (HI.out.2.2.2 HPO.out), HI.out.1, HI.out.2.1]; exact decide_eq_false ht
        have HF : Hid (pfX s = 0 ∧ pfY s = 0 ∧ pfOk s = false) := ⟨(pf_no HNO).1, (pf_no HNO).2, HNO⟩
        clear ht HNO
        go_wp2_with fail
        exact bodyPost_ret (v := .tuple #[.agg #[.int .i64 0, .int .i64 0], .bool false]) (by simp [results, Tryd.results9, go_sem, r0, r1]) rfl ⟨ret_pf HF.out.1 HF.out.2.1 HF.out.2.2, (bl8.setCell (Nat.le_refl _) _).setCell (Nat.le_refl _) _⟩
  · by_cases h2 : (47 : UInt8) ∈ s.data.toList.drop (j + 1)
    · have HNO := pf_many hi h2
      have hl := pieces_many hi h2
      have hlI : (2 : Int) < ((spP ⟨#[47]⟩ s).length : Int) := by omega
      have HF : Hid (pfX s = 0 ∧ pfY s = 0 ∧ pfOk s = false) := ⟨(pf_no HNO).1, (pf_no HNO).2, HNO⟩
      clear HNO hi h2 hl
      go_wp2_with fail
      exact bodyPost_ret (v := .tuple #[.agg #[.int .i64 0, .int .i64 0], .bool false]) (by simp [results, Tryd.results9, go_sem, r0, r1]) rfl ⟨ret_pf HF.out.1 HF.out.2.1 HF.out.2.2, (bl1.setCell (Nat.le_refl _) _).setCell (Nat.le_refl _) _⟩
    · obtain ⟨p1, p2, p3⟩ := pieces_two hi h2
      have HC := Lib.hid (pf_cut hi)
      have HB := Lib.hid (fun h => pf_both hi h)
      have hz1 : (⟨(s.data.toList.take j).toArray⟩ : ByteArray).size ≤ 1048576 := Nat.le_trans (piece_size (s := s) (by rw [List.length_take]; omega)) hs
      have hz2 : (⟨(s.data.toList.drop (j + 1)).toArray⟩ : ByteArray).size ≤ 1048576 := Nat.le_trans (piece_size (s := s) (by rw [List.length_drop]; omega)) hs
      clear hi h2
      rw [p1] at hS ⊢
      obtain ⟨b', o', rfl, hbs, hc⟩ := hS.at_ (k := 0) (by omega)
      obtain ⟨b2, o2, e2, hbs2, hc2⟩ := hS.at_ (k := 1) (by omega)
      injection e2 with e2
      injection e2 with e3 e4 _
      subst e3; subst e4
      rw [p2, Nat.add_zero] at hc
      rw [p3] at hc2
      clear p1 p2 p3 hS hbs2
      generalize (⟨(s.data.toList.take j).toArray⟩ : ByteArray) = u at *
      generalize (⟨(s.data.toList.drop (j + 1)).toArray⟩ : ByteArray) = v at *
      go_wp2_with fail
      refine (specParseInt u _ hz1).mono ?_; rintro e w2 ⟨rfl, b2⟩
      have bl2 := Below.on bl1 b2
      replace r0 := (b2.cell (p := ⟨w.heap.size, 0, none⟩) sr).trans r0
      replace r1 := (b2.cell (p := ⟨w.heap.size, 1, none⟩) sr).trans r1
      replace rf0 := (b2.frozen (p := ⟨w.heap.size, 0, none⟩) sr).trans rf0
      replace rf1 := (b2.frozen (p := ⟨w.heap.size, 1, none⟩) sr).trans rf1
      replace sr := Nat.lt_of_lt_of_le sr b2.size
      replace hc2 := (b2.cell (p := ⟨b', o' + 1, none⟩) hbs).trans hc2
      replace hbs := Nat.lt_of_lt_of_le hbs b2.size
      clear b2 hc
      have bA : Below w2.heap.size w2 (w2.alloc (.cells #[.int .i64 (pV u), .int .i64 1] 23)) := (Below.refl _ _).alloc (Nat.le_refl _) _
      have g0 : (w2.alloc (.cells #[.int .i64 (pV u), .int .i64 1] 23)).cell? ⟨w2.heap.size, 0, none⟩ = some (.int .i64 (pV u)) := by simp
      have g1 : (w2.alloc (.cells #[.int .i64 (pV u), .int .i64 1] 23)).cell? ⟨w2.heap.size, 1, none⟩ = some (.int .i64 1) := by simp
      have gf0 : (w2.alloc (.cells #[.int .i64 (pV u), .int .i64 1] 23)).frozen? ⟨w2.heap.size, 0, none⟩ = false := by simp
      have gf1 : (w2.alloc (.cells #[.int .i64 (pV u), .int .i64 1] 23)).frozen? ⟨w2.heap.size, 1, none⟩ = false := by simp
      have sg : w2.heap.size < (w2.alloc (.cells #[.int .i64 (pV u), .int .i64 1] 23)).heap.size := by simp
      have hqr : w.heap.size < w2.heap.size := sr
      have hc2r := (bA.cell (p := ⟨b', o' + 1, none⟩) hbs).trans hc2
      replace hc2 := hc2r
      clear hc2r
      replace hbs := Nat.lt_of_lt_of_le hbs bA.size
      have bl7 := Below.on bl2 bA
      replace r0 := (bA.cell (p := ⟨w.heap.size, 0, none⟩) sr).trans r0
      replace r1 := (bA.cell (p := ⟨w.heap.size, 1, none⟩) sr).trans r1
      replace rf0 := (bA.frozen (p := ⟨w.heap.size, 0, none⟩) sr).trans rf0
      replace rf1 := (bA.frozen (p := ⟨w.heap.size, 1, none⟩) sr).trans rf1
      replace sr := Nat.lt_of_lt_of_le sr bA.size
      clear bA
      go_wp2_with fail
      generalize (w2.alloc (.cells #[.int .i64 (pV u), .int .i64 1] 23)) = WB at *
      generalize w2.heap.size = q at *
      refine (specParseInt v _ hz2).mono ?_; rintro e w3 ⟨rfl, b3⟩
      replace bl7 := Below.on bl7 b3
      replace r0 := (b3.cell (p := ⟨w.heap.size, 0, none⟩) sr).trans r0
      replace r1 := (b3.cell (p := ⟨w.heap.size, 1, none⟩) sr).trans r1
      replace rf0 := (b3.frozen (p := ⟨w.heap.size, 0, none⟩) sr).trans rf0
      replace rf1 := (b3.frozen (p := ⟨w.heap.size, 1, none⟩) sr).trans rf1
      replace g0 := (b3.cell (p := ⟨q, 0, none⟩) sg).trans g0
      replace g1 := (b3.cell (p := ⟨q, 1, none⟩) sg).trans g1
      replace gf0 := (b3.frozen (p := ⟨q, 0, none⟩) sg).trans gf0
      replace gf1 := (b3.frozen (p := ⟨q, 1, none⟩) sg).trans gf1
      replace sg := Nat.lt_of_lt_of_le sg b3.size
      replace sr := Nat.lt_of_lt_of_le sr b3.size
      clear b3
      have hqr2 : ¬ w.heap.size = q := by omega
      have hqr3 : ¬ q = w.heap.size := by omega
      cases hpo : pOk u with
      | false =>
        have HNO : pfOk s = false := by
          rw [pfOk_eq HC.out.2.2]
          exact decide_eq_false fun e => by have := (HB.out e).1; rw [hpo] at this; cases this
        have HF : Hid (pfX s = 0 ∧ pfY s = 0 ∧ pfOk s = false) := ⟨(pf_no HNO).1, (pf_no HNO).2, HNO⟩
        clear HNO hpo
        go_wp2_with fail
        exact bodyPost_ret (v := .tuple #[.agg #[.int .i64 0, .int .i64 0], .bool false]) (by simp [results, Tryd.results9, go_sem, r0, r1]) rfl ⟨ret_pf HF.out.1 HF.out.2.1 HF.out.2.2, (((bl7.setCell (by show w.heap.size ≤ q; omega) _)).setCell (Nat.le_refl _) _).setCell (Nat.le_refl _) _⟩
      | true =>
        cases hpo2 : pOk v with
        | false =>
          have HNO : pfOk s = false := by
            rw [pfOk_eq HC.out.2.2]
            exact decide_eq_false fun e => by have := (HB.out e).2; rw [hpo2] at this; cases this
          have HF : Hid (pfX s = 0 ∧ pfY s = 0 ∧ pfOk s = false) := ⟨(pf_no HNO).1, (pf_no HNO).2, HNO⟩
          clear HNO hpo hpo2
          go_wp2_with fail
          exact bodyPost_ret (v := .tuple #[.agg #[.int .i64 0, .int .i64 0], .bool false]) (by simp [results, Tryd.results9, go_sem, r0, r1]) rfl ⟨ret_pf HF.out.1 HF.out.2.1 HF.out.2.2, (((bl7.setCell (by show w.heap.size ≤ q; omega) _)).setCell (Nat.le_refl _) _).setCell (Nat.le_refl _) _⟩
        | true =>
          clear hpo hpo2
          have R0 : (w3.setCell ⟨q, 1, none⟩ (.int .i64 (pV v))).cell? ⟨w.heap.size, 0, none⟩ = some (.int .i64 0) := by simp [go_sem, r0]
          have R1 : (w3.setCell ⟨q, 1, none⟩ (.int .i64 (pV v))).cell? ⟨w.heap.size, 1, none⟩ = some (.int .i64 0) := by simp [go_sem, r1]
          have RF0 : (w3.setCell ⟨q, 1, none⟩ (.int .i64 (pV v))).frozen? ⟨w.heap.size, 0, none⟩ = false := by simp [go_sem, rf0]
          have RF1 : (w3.setCell ⟨q, 1, none⟩ (.int .i64 (pV v))).frozen? ⟨w.heap.size, 1, none⟩ = false := by simp [go_sem, rf1]
          have G0 : (w3.setCell ⟨q, 1, none⟩ (.int .i64 (pV v))).cell? ⟨q, 0, none⟩ = some (.int .i64 (pV u)) := by simp [go_sem, g0]
          have G1 : (w3.setCell ⟨q, 1, none⟩ (.int .i64 (pV v))).cell? ⟨q, 1, none⟩ = some (.int .i64 (pV v)) := by simp [go_sem, g1]
          have GF0 : (w3.setCell ⟨q, 1, none⟩ (.int .i64 (pV v))).frozen? ⟨q, 0, none⟩ = false := by simp [go_sem, gf0]
          have GF1 : (w3.setCell ⟨q, 1, none⟩ (.int .i64 (pV v))).frozen? ⟨q, 1, none⟩ = false := by simp [go_sem, gf1]
          have SR : w.heap.size < (w3.setCell ⟨q, 1, none⟩ (.int .i64 (pV v))).heap.size := by simp; exact sr
          have SG : q < (w3.setCell ⟨q, 1, none⟩ (.int .i64 (pV v))).heap.size := by simp; exact sg
          have BL := bl7.setCell (p := ⟨q, 1, none⟩) (show w.heap.size ≤ q by omega) (.int .i64 (pV v))
          go_wp2_with fail
          generalize w3.setCell ⟨q, 1, none⟩ (.int .i64 (pV v)) = wS at *
          clear r0 r1 rf0 rf1 g0 g1 gf0 gf1 sr sg bl7
          obtain ⟨r0, r1, rf0, rf1, g0, g1, gf0, gf1, sr, sg, bl7⟩ := And.intro R0 (And.intro R1 (And.intro RF0 (And.intro RF1 (And.intro G0 (And.intro G1 (And.intro GF0 (And.intro GF1 (And.intro SR (And.intro SG BL)))))))))
          clear R0 R1 RF0 RF1 G0 G1 GF0 GF1 SR SG BL
          refine (specFormatFraction (pV u) (pV v) _).mono ?_; rintro e w8 ⟨rfl, b8⟩
          have bl8 := Below.on bl7 b8
          replace r0 := (b8.cell (p := ⟨w.heap.size, 0, none⟩) sr).trans r0
          replace r1 := (b8.cell (p := ⟨w.heap.size, 1, none⟩) sr).trans r1
          replace rf0 := (b8.frozen (p := ⟨w.heap.size, 0, none⟩) sr).trans rf0
          replace rf1 := (b8.frozen (p := ⟨w.heap.size, 1, none⟩) sr).trans rf1
          replace g0 := (b8.cell (p := ⟨q, 0, none⟩) sg).trans g0
          replace g1 := (b8.cell (p := ⟨q, 1, none⟩) sg).trans g1
          replace gf0 := (b8.frozen (p := ⟨q, 0, none⟩) sg).trans gf0
          replace gf1 := (b8.frozen (p := ⟨q, 1, none⟩) sg).trans gf1
          replace sg := Nat.lt_of_lt_of_le sg b8.size
          replace sr := Nat.lt_of_lt_of_le sr b8.size
          by_cases ht : fracT (pV u) (pV v) = s
          · have hq : ((fracT (pV u) (pV v)).toList == s.toList) = true := by rw [beq_iff_eq]; exact congrArg ByteArray.toList ht
            have HYES : pfOk s = true := by rw [pfOk_eq HC.out.2.2, HC.out.1, HC.out.2.1]; exact decide_eq_true ht
            have HF : Hid (pfX s = (pV u) ∧ pfY s = (pV v) ∧ pfOk s = true) := ⟨(pf_yes HYES).1.trans HC.out.1, (pf_yes HYES).2.trans HC.out.2.1, HYES⟩
            clear ht HYES
            go_wp2_with fail
            exact bodyPost_ret (v := .tuple #[.agg #[.int .i64 (pV u), .int .i64 (pV v)], .bool true]) (by simp [results, Tryd.results9, go_sem, r0, r1]) rfl ⟨ret_pf HF.out.1 HF.out.2.1 HF.out.2.2, (bl8.setCell (Nat.le_refl _) _).setCell (Nat.le_refl _) _⟩
          · have hq : ((fracT (pV u) (pV v)).toList == s.toList) = false := by
              rw [beq_eq_false_iff_ne, ByteArray.toList_eq, ByteArray.toList_eq]
              intro e
              exact ht (ByteArray.ext (Array.toList_inj.1 e))
            have HNO : pfOk s = false := by rw [pfOk_eq HC.out.2.2, HC.out.1, HC.out.2.1]; exact decide_eq_false ht
            have HF : Hid (pfX s = 0 ∧ pfY s = 0 ∧ pfOk s = false) := ⟨(pf_no HNO).1, (pf_no HNO).2, HNO⟩
            clear ht HNO
            go_wp2_with fail
            exact bodyPost_ret (v := .tuple #[.agg #[.int .i64 0, .int .i64 0], .bool false]) (by simp [results, Tryd.results9, go_sem, r0, r1]) rfl ⟨ret_pf HF.out.1 HF.out.2.1 HF.out.2.2, (bl8.setCell (Nat.le_refl _) _).setCell (Nat.le_refl _) _⟩
end Go.Proofs.YtfcbnpjfpeiheaaDoor
