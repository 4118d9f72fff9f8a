/- A fraction read out of its text: what the program's function computes. -/
import Derived.Test.YtfcbnpjfpeiheaaDoorPFracS
import Derived.Test.YtfcbnpjfpeiheaaDoorCut
import Derived.Test.YtfcbnpjfpeiheaaDoorPIntI
import Derived.Test.YtfcbnpjfpeiheaaDoorFracI
namespace Go.Proofs.YtfcbnpjfpeiheaaDoor
open Go.RowKit
set_option maxRecDepth 100000

set_option maxHeartbeats 8000000 in
theorem implParseFraction (s : ByteArray) (w : World) (hs : s.size ≤ 1048576) (hp : Pow w) (he : Errs w) :
    Calls Tryd.prog 10 #[.string s] w fun e w' => e = .returned (.tuple #[.agg #[.int .i64 (pfX s), .int .i64 (pfY s)], .bool (pfOk s)]) ∧ Below w.heap.size w w' := by
  have HP := Lib.hid hp; clear hp
  have HE := Lib.hid he; clear he
  have bl : Below w.heap.size w (w.alloc (.cells #[.int .i64 0, .int .i64 0] 23)) := (Below.refl _ _).alloc (Nat.le_refl _) _
  have r0 : (w.alloc (.cells #[.int .i64 0, .int .i64 0] 23)).cell? ⟨w.heap.size, 0, none⟩ = some (.int .i64 0) := by simp
  have r1 : (w.alloc (.cells #[.int .i64 0, .int .i64 0] 23)).cell? ⟨w.heap.size, 1, none⟩ = some (.int .i64 0) := by simp
  have rf0 : (w.alloc (.cells #[.int .i64 0, .int .i64 0] 23)).frozen? ⟨w.heap.size, 0, none⟩ = false := by simp
  have rf1 : (w.alloc (.cells #[.int .i64 0, .int .i64 0] 23)).frozen? ⟨w.heap.size, 1, none⟩ = false := by simp
  have sr : w.heap.size < (w.alloc (.cells #[.int .i64 0, .int .i64 0] 23)).heap.size := by simp
  go_enter Tryd.func10, Tryd.ntmps10
  go_wp2_with fail
  generalize (w.alloc (.cells #[.int .i64 0, .int .i64 0] 23)) = W at *
  rcases Lib.index_spec s.data.toList [47] with ⟨hi, _⟩ | ⟨j, hi, _⟩
  · refine (libCutMiss s 47 _ hi).mono ?_; rintro e w1 ⟨rfl, rfl⟩
    have HI := Lib.hid (pf_one hi)
    clear hi
    have bA : Below W.heap.size W (W.alloc (.cells #[.int .i64 0, .int .i64 1] 23)) := (Below.refl _ _).alloc (Nat.le_refl _) _
    have g0 : (W.alloc (.cells #[.int .i64 0, .int .i64 1] 23)).cell? ⟨W.heap.size, 0, none⟩ = some (.int .i64 0) := by simp
    have g1 : (W.alloc (.cells #[.int .i64 0, .int .i64 1] 23)).cell? ⟨W.heap.size, 1, none⟩ = some (.int .i64 1) := by simp
    have gf0 : (W.alloc (.cells #[.int .i64 0, .int .i64 1] 23)).frozen? ⟨W.heap.size, 0, none⟩ = false := by simp
    have gf1 : (W.alloc (.cells #[.int .i64 0, .int .i64 1] 23)).frozen? ⟨W.heap.size, 1, none⟩ = false := by simp
    have sg : W.heap.size < (W.alloc (.cells #[.int .i64 0, .int .i64 1] 23)).heap.size := by simp
    have hqr : w.heap.size < W.heap.size := sr
    have bl7 := Below.on bl bA
    replace r0 := (bA.cell (p := ⟨w.heap.size, 0, none⟩) sr).trans r0
    replace r1 := (bA.cell (p := ⟨w.heap.size, 1, none⟩) sr).trans r1
    replace rf0 := (bA.frozen (p := ⟨w.heap.size, 0, none⟩) sr).trans rf0
    replace rf1 := (bA.frozen (p := ⟨w.heap.size, 1, none⟩) sr).trans rf1
    replace sr := Nat.lt_of_lt_of_le sr bA.size
    clear bA
    go_wp2_with fail
    generalize (W.alloc (.cells #[.int .i64 0, .int .i64 1] 23)) = WB at *
    generalize W.heap.size = q at *
    refine (implParseInt s _ hs (HP.out.on bl7) (HE.out.on bl7)).mono ?_; rintro e w2 ⟨rfl, b2⟩
    replace bl7 := Below.on bl7 b2
    replace r0 := (b2.cell (p := ⟨w.heap.size, 0, none⟩) sr).trans r0
    replace r1 := (b2.cell (p := ⟨w.heap.size, 1, none⟩) sr).trans r1
    replace rf0 := (b2.frozen (p := ⟨w.heap.size, 0, none⟩) sr).trans rf0
    replace rf1 := (b2.frozen (p := ⟨w.heap.size, 1, none⟩) sr).trans rf1
    replace g0 := (b2.cell (p := ⟨q, 0, none⟩) sg).trans g0
    replace g1 := (b2.cell (p := ⟨q, 1, none⟩) sg).trans g1
    replace gf0 := (b2.frozen (p := ⟨q, 0, none⟩) sg).trans gf0
    replace gf1 := (b2.frozen (p := ⟨q, 1, none⟩) sg).trans gf1
    replace sg := Nat.lt_of_lt_of_le sg b2.size
    replace sr := Nat.lt_of_lt_of_le sr b2.size
    clear b2
    by_cases hemp : s = ByteArray.empty
    · have HNO : pfOk s = false := by rw [pfOk, decide_eq_false (fun h => h hemp), Bool.false_and]
      have HF : Hid (pfX s = 0 ∧ pfY s = 0 ∧ pfOk s = false) := ⟨(pf_no HNO).1, (pf_no HNO).2, HNO⟩
      have hq : (s.toList == (⟨#[]⟩ : ByteArray).toList) = true := by rw [hemp, ByteArray.toList_eq, ByteArray.toList_eq]; rfl
      have hq2 : s.toList.isEmpty = true := by rw [hemp, ByteArray.toList_eq]; rfl
      clear HNO hemp
      have hqr2 : ¬ w.heap.size = q := by omega
      have hqr3 : ¬ q = w.heap.size := by omega
      go_wp2_with fail
      exact bodyPost_ret (v := .tuple #[.agg #[.int .i64 0, .int .i64 0], .bool false]) (by simp [results, Tryd.results10, go_sem, r0, r1]) rfl ⟨ret_pf HF.out.1 HF.out.2.1 HF.out.2.2, (((bl7.setCell (by show w.heap.size ≤ q; omega) _)).setCell (Nat.le_refl _) _).setCell (Nat.le_refl _) _⟩
    · have hq : (s.toList == (⟨#[]⟩ : ByteArray).toList) = false := by
        rw [beq_eq_false_iff_ne, ByteArray.toList_eq, ByteArray.toList_eq]
        intro e
        exact hemp (ByteArray.ext (Array.toList_inj.1 e))
      have hq2 : s.toList.isEmpty = false := by
        rw [ByteArray.toList_eq]
        cases hl : s.data.toList with
        | nil => exact absurd (ByteArray.ext (Array.toList_inj.1 (by rw [hl]; rfl))) hemp
        | cons _ _ => rfl
      have HEM := Lib.hid hemp; clear hemp
      have hqr2 : ¬ w.heap.size = q := by omega
      have hqr3 : ¬ q = w.heap.size := by omega
      have R0 : (w2.setCell ⟨q, 0, none⟩ (.int .i64 (pV s))).cell? ⟨w.heap.size, 0, none⟩ = some (.int .i64 0) := by simp [go_sem, r0]
      have R1 : (w2.setCell ⟨q, 0, none⟩ (.int .i64 (pV s))).cell? ⟨w.heap.size, 1, none⟩ = some (.int .i64 0) := by simp [go_sem, r1]
      have RF0 : (w2.setCell ⟨q, 0, none⟩ (.int .i64 (pV s))).frozen? ⟨w.heap.size, 0, none⟩ = false := by simp [go_sem, rf0]
      have RF1 : (w2.setCell ⟨q, 0, none⟩ (.int .i64 (pV s))).frozen? ⟨w.heap.size, 1, none⟩ = false := by simp [go_sem, rf1]
      have G0 : (w2.setCell ⟨q, 0, none⟩ (.int .i64 (pV s))).cell? ⟨q, 0, none⟩ = some (.int .i64 (pV s)) := by simp [go_sem, g0]
      have G1 : (w2.setCell ⟨q, 0, none⟩ (.int .i64 (pV s))).cell? ⟨q, 1, none⟩ = some (.int .i64 1) := by simp [go_sem, g1]
      have GF0 : (w2.setCell ⟨q, 0, none⟩ (.int .i64 (pV s))).frozen? ⟨q, 0, none⟩ = false := by simp [go_sem, gf0]
      have GF1 : (w2.setCell ⟨q, 0, none⟩ (.int .i64 (pV s))).frozen? ⟨q, 1, none⟩ = false := by simp [go_sem, gf1]
      have SR : w.heap.size < (w2.setCell ⟨q, 0, none⟩ (.int .i64 (pV s))).heap.size := by simp; exact sr
      have SG : q < (w2.setCell ⟨q, 0, none⟩ (.int .i64 (pV s))).heap.size := by simp; exact sg
      have BL := bl7.setCell (p := ⟨q, 0, none⟩) (show w.heap.size ≤ q by omega) (.int .i64 (pV s))
      go_wp2_with fail
      generalize (w2.setCell ⟨q, 0, none⟩ (.int .i64 (pV s))) = wS at *
      clear r0 r1 rf0 rf1 g0 g1 gf0 gf1 sr sg bl7 hqr2 hqr3
      obtain ⟨r0, r1, rf0, rf1, g0, g1, gf0, gf1, sr, sg, bl7⟩ := And.intro R0 (And.intro R1 (And.intro RF0 (And.intro RF1 (And.intro G0 (And.intro G1 (And.intro GF0 (And.intro GF1 (And.intro SR (And.intro SG BL)))))))))
      clear R0 R1 RF0 RF1 G0 G1 GF0 GF1 SR SG BL
      clear hq hq2
      refine (implFormatFraction (pV s) 1 _ (HP.out.on bl7)).mono ?_; rintro e w8 ⟨rfl, b8⟩
      have bl8 := Below.on bl7 b8
      replace r0 := (b8.cell (p := ⟨w.heap.size, 0, none⟩) sr).trans r0
      replace r1 := (b8.cell (p := ⟨w.heap.size, 1, none⟩) sr).trans r1
      replace rf0 := (b8.frozen (p := ⟨w.heap.size, 0, none⟩) sr).trans rf0
      replace rf1 := (b8.frozen (p := ⟨w.heap.size, 1, none⟩) sr).trans rf1
      replace g0 := (b8.cell (p := ⟨q, 0, none⟩) sg).trans g0
      replace g1 := (b8.cell (p := ⟨q, 1, none⟩) sg).trans g1
      replace gf0 := (b8.frozen (p := ⟨q, 0, none⟩) sg).trans gf0
      replace gf1 := (b8.frozen (p := ⟨q, 1, none⟩) sg).trans gf1
      replace sg := Nat.lt_of_lt_of_le sg b8.size
      replace sr := Nat.lt_of_lt_of_le sr b8.size
      by_cases ht : fracT (pV s) 1 = s
      · have hq : ((fracT (pV s) 1).toList == s.toList) = true := by rw [beq_iff_eq]; exact congrArg ByteArray.toList ht
        have HYES : pfOk s = true := by rw [pfOk_eq HEM.out, HI.out.1, HI.out.2.1]; exact decide_eq_true ht
        have HF : Hid (pfX s = (pV s) ∧ pfY s = 1 ∧ pfOk s = true) := ⟨(pf_yes HYES).1.trans HI.out.1, (pf_yes HYES).2.trans HI.out.2.1, HYES⟩
        clear ht HYES
        go_wp2_with fail
        exact bodyPost_ret (v := .tuple #[.agg #[.int .i64 (pV s), .int .i64 1], .bool true]) (by simp [results, Tryd.results10, go_sem, r0, r1]) rfl ⟨ret_pf HF.out.1 HF.out.2.1 HF.out.2.2, (bl8.setCell (Nat.le_refl _) _).setCell (Nat.le_refl _) _⟩
      · have hq : ((fracT (pV s) 1).toList == s.toList) = false := by
          rw [beq_eq_false_iff_ne, ByteArray.toList_eq, ByteArray.toList_eq]
          intro e
          exact ht (ByteArray.ext (Array.toList_inj.1 e))
        have HNO : pfOk s = false := by rw [pfOk_eq HEM.out, HI.out.1, HI.out.2.1]; exact decide_eq_false ht
        have HF : Hid (pfX s = 0 ∧ pfY s = 0 ∧ pfOk s = false) := ⟨(pf_no HNO).1, (pf_no HNO).2, HNO⟩
        clear ht HNO
        go_wp2_with fail
        exact bodyPost_ret (v := .tuple #[.agg #[.int .i64 0, .int .i64 0], .bool false]) (by simp [results, Tryd.results10, go_sem, r0, r1]) rfl ⟨ret_pf HF.out.1 HF.out.2.1 HF.out.2.2, (bl8.setCell (Nat.le_refl _) _).setCell (Nat.le_refl _) _⟩
  · refine (libCutHit s 47 j _ hs hi).mono ?_; rintro e w1 ⟨rfl, b1⟩
    have bl1 := Below.on bl b1
    replace r0 := (b1.cell (p := ⟨w.heap.size, 0, none⟩) sr).trans r0
    replace r1 := (b1.cell (p := ⟨w.heap.size, 1, none⟩) sr).trans r1
    replace rf0 := (b1.frozen (p := ⟨w.heap.size, 0, none⟩) sr).trans rf0
    replace rf1 := (b1.frozen (p := ⟨w.heap.size, 1, none⟩) sr).trans rf1
    replace sr := Nat.lt_of_lt_of_le sr b1.size
    clear b1
    have HC := Lib.hid (pf_cut hi)
    have hz1 : (⟨(s.data.toList.take j).toArray⟩ : ByteArray).size ≤ 1048576 := Nat.le_trans (piece_size (s := s) (by rw [List.length_take]; omega)) hs
    have hz2 : (⟨(s.data.toList.drop (j + 1)).toArray⟩ : ByteArray).size ≤ 1048576 := Nat.le_trans (piece_size (s := s) (by rw [List.length_drop]; omega)) hs
    have hq : (s.toList == (⟨#[]⟩ : ByteArray).toList) = false := by
      rw [beq_eq_false_iff_ne, ByteArray.toList_eq, ByteArray.toList_eq]
      intro e
      exact HC.out.2.2 (ByteArray.ext (Array.toList_inj.1 e))
    have hq2 : s.toList.isEmpty = false := by
      rw [ByteArray.toList_eq]
      cases hl : s.data.toList with
      | nil => exact absurd (ByteArray.ext (Array.toList_inj.1 (by rw [hl]; rfl))) HC.out.2.2
      | cons _ _ => rfl
    clear hi
    generalize (⟨(s.data.toList.take j).toArray⟩ : ByteArray) = u at *
    generalize (⟨(s.data.toList.drop (j + 1)).toArray⟩ : ByteArray) = v at *
    have bA : Below w1.heap.size w1 (w1.alloc (.cells #[.int .i64 0, .int .i64 1] 23)) := (Below.refl _ _).alloc (Nat.le_refl _) _
    have g0 : (w1.alloc (.cells #[.int .i64 0, .int .i64 1] 23)).cell? ⟨w1.heap.size, 0, none⟩ = some (.int .i64 0) := by simp
    have g1 : (w1.alloc (.cells #[.int .i64 0, .int .i64 1] 23)).cell? ⟨w1.heap.size, 1, none⟩ = some (.int .i64 1) := by simp
    have gf0 : (w1.alloc (.cells #[.int .i64 0, .int .i64 1] 23)).frozen? ⟨w1.heap.size, 0, none⟩ = false := by simp
    have gf1 : (w1.alloc (.cells #[.int .i64 0, .int .i64 1] 23)).frozen? ⟨w1.heap.size, 1, none⟩ = false := by simp
    have sg : w1.heap.size < (w1.alloc (.cells #[.int .i64 0, .int .i64 1] 23)).heap.size := by simp
    have hqr : w.heap.size < w1.heap.size := sr
    have bl7 := Below.on bl1 bA
    replace r0 := (bA.cell (p := ⟨w.heap.size, 0, none⟩) sr).trans r0
    replace r1 := (bA.cell (p := ⟨w.heap.size, 1, none⟩) sr).trans r1
    replace rf0 := (bA.frozen (p := ⟨w.heap.size, 0, none⟩) sr).trans rf0
    replace rf1 := (bA.frozen (p := ⟨w.heap.size, 1, none⟩) sr).trans rf1
    replace sr := Nat.lt_of_lt_of_le sr bA.size
    clear bA
    go_wp2_with fail
    generalize (w1.alloc (.cells #[.int .i64 0, .int .i64 1] 23)) = WB at *
    generalize w1.heap.size = q at *
    refine (implParseInt u _ hz1 (HP.out.on bl7) (HE.out.on bl7)).mono ?_; rintro e w2 ⟨rfl, b2⟩
    replace bl7 := Below.on bl7 b2
    replace r0 := (b2.cell (p := ⟨w.heap.size, 0, none⟩) sr).trans r0
    replace r1 := (b2.cell (p := ⟨w.heap.size, 1, none⟩) sr).trans r1
    replace rf0 := (b2.frozen (p := ⟨w.heap.size, 0, none⟩) sr).trans rf0
    replace rf1 := (b2.frozen (p := ⟨w.heap.size, 1, none⟩) sr).trans rf1
    replace g0 := (b2.cell (p := ⟨q, 0, none⟩) sg).trans g0
    replace g1 := (b2.cell (p := ⟨q, 1, none⟩) sg).trans g1
    replace gf0 := (b2.frozen (p := ⟨q, 0, none⟩) sg).trans gf0
    replace gf1 := (b2.frozen (p := ⟨q, 1, none⟩) sg).trans gf1
    replace sg := Nat.lt_of_lt_of_le sg b2.size
    replace sr := Nat.lt_of_lt_of_le sr b2.size
    clear b2
    have hqr2 : ¬ w.heap.size = q := by omega
    have hqr3 : ¬ q = w.heap.size := by omega
    have R0 : (w2.setCell ⟨q, 0, none⟩ (.int .i64 (pV u))).cell? ⟨w.heap.size, 0, none⟩ = some (.int .i64 0) := by simp [go_sem, r0]
    have R1 : (w2.setCell ⟨q, 0, none⟩ (.int .i64 (pV u))).cell? ⟨w.heap.size, 1, none⟩ = some (.int .i64 0) := by simp [go_sem, r1]
    have RF0 : (w2.setCell ⟨q, 0, none⟩ (.int .i64 (pV u))).frozen? ⟨w.heap.size, 0, none⟩ = false := by simp [go_sem, rf0]
    have RF1 : (w2.setCell ⟨q, 0, none⟩ (.int .i64 (pV u))).frozen? ⟨w.heap.size, 1, none⟩ = false := by simp [go_sem, rf1]
    have G0 : (w2.setCell ⟨q, 0, none⟩ (.int .i64 (pV u))).cell? ⟨q, 0, none⟩ = some (.int .i64 (pV u)) := by simp [go_sem, g0]
    have G1 : (w2.setCell ⟨q, 0, none⟩ (.int .i64 (pV u))).cell? ⟨q, 1, none⟩ = some (.int .i64 1) := by simp [go_sem, g1]
    have GF0 : (w2.setCell ⟨q, 0, none⟩ (.int .i64 (pV u))).frozen? ⟨q, 0, none⟩ = false := by simp [go_sem, gf0]
    have GF1 : (w2.setCell ⟨q, 0, none⟩ (.int .i64 (pV u))).frozen? ⟨q, 1, none⟩ = false := by simp [go_sem, gf1]
    have SR : w.heap.size < (w2.setCell ⟨q, 0, none⟩ (.int .i64 (pV u))).heap.size := by simp; exact sr
    have SG : q < (w2.setCell ⟨q, 0, none⟩ (.int .i64 (pV u))).heap.size := by simp; exact sg
    have BL := bl7.setCell (p := ⟨q, 0, none⟩) (show w.heap.size ≤ q by omega) (.int .i64 (pV u))
    go_wp2_with fail
    generalize (w2.setCell ⟨q, 0, none⟩ (.int .i64 (pV u))) = wS at *
    clear r0 r1 rf0 rf1 g0 g1 gf0 gf1 sr sg bl7 hqr2 hqr3
    obtain ⟨r0, r1, rf0, rf1, g0, g1, gf0, gf1, sr, sg, bl7⟩ := And.intro R0 (And.intro R1 (And.intro RF0 (And.intro RF1 (And.intro G0 (And.intro G1 (And.intro GF0 (And.intro GF1 (And.intro SR (And.intro SG BL)))))))))
    clear R0 R1 RF0 RF1 G0 G1 GF0 GF1 SR SG BL
    refine (implParseInt v _ hz2 (HP.out.on bl7) (HE.out.on bl7)).mono ?_; rintro e w3 ⟨rfl, b3⟩
    replace bl7 := Below.on bl7 b3
    replace r0 := (b3.cell (p := ⟨w.heap.size, 0, none⟩) sr).trans r0
    replace r1 := (b3.cell (p := ⟨w.heap.size, 1, none⟩) sr).trans r1
    replace rf0 := (b3.frozen (p := ⟨w.heap.size, 0, none⟩) sr).trans rf0
    replace rf1 := (b3.frozen (p := ⟨w.heap.size, 1, none⟩) sr).trans rf1
    replace g0 := (b3.cell (p := ⟨q, 0, none⟩) sg).trans g0
    replace g1 := (b3.cell (p := ⟨q, 1, none⟩) sg).trans g1
    replace gf0 := (b3.frozen (p := ⟨q, 0, none⟩) sg).trans gf0
    replace gf1 := (b3.frozen (p := ⟨q, 1, none⟩) sg).trans gf1
    replace sg := Nat.lt_of_lt_of_le sg b3.size
    replace sr := Nat.lt_of_lt_of_le sr b3.size
    clear b3
    have hqr2 : ¬ w.heap.size = q := by omega
    have hqr3 : ¬ q = w.heap.size := by omega
    have R0 : (w3.setCell ⟨q, 1, none⟩ (.int .i64 (pV v))).cell? ⟨w.heap.size, 0, none⟩ = some (.int .i64 0) := by simp [go_sem, r0]
    have R1 : (w3.setCell ⟨q, 1, none⟩ (.int .i64 (pV v))).cell? ⟨w.heap.size, 1, none⟩ = some (.int .i64 0) := by simp [go_sem, r1]
    have RF0 : (w3.setCell ⟨q, 1, none⟩ (.int .i64 (pV v))).frozen? ⟨w.heap.size, 0, none⟩ = false := by simp [go_sem, rf0]
    have RF1 : (w3.setCell ⟨q, 1, none⟩ (.int .i64 (pV v))).frozen? ⟨w.heap.size, 1, none⟩ = false := by simp [go_sem, rf1]
    have G0 : (w3.setCell ⟨q, 1, none⟩ (.int .i64 (pV v))).cell? ⟨q, 0, none⟩ = some (.int .i64 (pV u)) := by simp [go_sem, g0]
    have G1 : (w3.setCell ⟨q, 1, none⟩ (.int .i64 (pV v))).cell? ⟨q, 1, none⟩ = some (.int .i64 (pV v)) := by simp [go_sem, g1]
    have GF0 : (w3.setCell ⟨q, 1, none⟩ (.int .i64 (pV v))).frozen? ⟨q, 0, none⟩ = false := by simp [go_sem, gf0]
    have GF1 : (w3.setCell ⟨q, 1, none⟩ (.int .i64 (pV v))).frozen? ⟨q, 1, none⟩ = false := by simp [go_sem, gf1]
    have SR : w.heap.size < (w3.setCell ⟨q, 1, none⟩ (.int .i64 (pV v))).heap.size := by simp; exact sr
    have SG : q < (w3.setCell ⟨q, 1, none⟩ (.int .i64 (pV v))).heap.size := by simp; exact sg
    have BL := bl7.setCell (p := ⟨q, 1, none⟩) (show w.heap.size ≤ q by omega) (.int .i64 (pV v))
    go_wp2_with fail
    generalize (w3.setCell ⟨q, 1, none⟩ (.int .i64 (pV v))) = wT at *
    clear r0 r1 rf0 rf1 g0 g1 gf0 gf1 sr sg bl7 hqr2 hqr3
    obtain ⟨r0, r1, rf0, rf1, g0, g1, gf0, gf1, sr, sg, bl7⟩ := And.intro R0 (And.intro R1 (And.intro RF0 (And.intro RF1 (And.intro G0 (And.intro G1 (And.intro GF0 (And.intro GF1 (And.intro SR (And.intro SG BL)))))))))
    clear R0 R1 RF0 RF1 G0 G1 GF0 GF1 SR SG BL
    clear hq hq2
    refine (implFormatFraction (pV u) (pV v) _ (HP.out.on bl7)).mono ?_; rintro e w8 ⟨rfl, b8⟩
    have bl8 := Below.on bl7 b8
    replace r0 := (b8.cell (p := ⟨w.heap.size, 0, none⟩) sr).trans r0
    replace r1 := (b8.cell (p := ⟨w.heap.size, 1, none⟩) sr).trans r1
    replace rf0 := (b8.frozen (p := ⟨w.heap.size, 0, none⟩) sr).trans rf0
    replace rf1 := (b8.frozen (p := ⟨w.heap.size, 1, none⟩) sr).trans rf1
    replace g0 := (b8.cell (p := ⟨q, 0, none⟩) sg).trans g0
    replace g1 := (b8.cell (p := ⟨q, 1, none⟩) sg).trans g1
    replace gf0 := (b8.frozen (p := ⟨q, 0, none⟩) sg).trans gf0
    replace gf1 := (b8.frozen (p := ⟨q, 1, none⟩) sg).trans gf1
    replace sg := Nat.lt_of_lt_of_le sg b8.size
    replace sr := Nat.lt_of_lt_of_le sr b8.size
    by_cases ht : fracT (pV u) (pV v) = s
    · have hq : ((fracT (pV u) (pV v)).toList == s.toList) = true := by rw [beq_iff_eq]; exact congrArg ByteArray.toList ht
      have HYES : pfOk s = true := by rw [pfOk_eq HC.out.2.2, HC.out.1, HC.out.2.1]; exact decide_eq_true ht
      have HF : Hid (pfX s = (pV u) ∧ pfY s = (pV v) ∧ pfOk s = true) := ⟨(pf_yes HYES).1.trans HC.out.1, (pf_yes HYES).2.trans HC.out.2.1, HYES⟩
      clear ht HYES
      go_wp2_with fail
      exact bodyPost_ret (v := .tuple #[.agg #[.int .i64 (pV u), .int .i64 (pV v)], .bool true]) (by simp [results, Tryd.results10, go_sem, r0, r1]) rfl ⟨ret_pf HF.out.1 HF.out.2.1 HF.out.2.2, (bl8.setCell (Nat.le_refl _) _).setCell (Nat.le_refl _) _⟩
    · have hq : ((fracT (pV u) (pV v)).toList == s.toList) = false := by
        rw [beq_eq_false_iff_ne, ByteArray.toList_eq, ByteArray.toList_eq]
        intro e
        exact ht (ByteArray.ext (Array.toList_inj.1 e))
      have HNO : pfOk s = false := by rw [pfOk_eq HC.out.2.2, HC.out.1, HC.out.2.1]; exact decide_eq_false ht
      have HF : Hid (pfX s = 0 ∧ pfY s = 0 ∧ pfOk s = false) := ⟨(pf_no HNO).1, (pf_no HNO).2, HNO⟩
      clear ht HNO
      go_wp2_with fail
      exact bodyPost_ret (v := .tuple #[.agg #[.int .i64 0, .int .i64 0], .bool false]) (by simp [results, Tryd.results10, go_sem, r0, r1]) rfl ⟨ret_pf HF.out.1 HF.out.2.1 HF.out.2.2, (bl8.setCell (Nat.le_refl _) _).setCell (Nat.le_refl _) _⟩
end Go.Proofs.YtfcbnpjfpeiheaaDoor
