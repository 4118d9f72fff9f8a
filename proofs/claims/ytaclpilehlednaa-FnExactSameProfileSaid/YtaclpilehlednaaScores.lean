/- Scores of candidates: what the program's and the reference's functions compute. -/
import Derived.Test.YtaclpilehlednaaPlainScores
import Derived.Test.YtaclpilehlednaaAppend
import Derived.Deep.RegionWith
import Derived.Deep.DeepCutAuto
import Derived.Deep.DrawnRows
namespace Go.Proofs.Ytaclpilehlednaa
open Go.RowKit
set_option maxRecDepth 100000

set_option maxHeartbeats 2000000 in
theorem specL05Ok (m : Int) (A : Option Addr) (n c : Nat) (vs : List (List Int × Int)) (C : Option Addr) (n1 c1 : Nat) (ws : List Int) (w : World) (h : Votes w A n vs) (hn : (n : Int) ≤ 1048576) (hm : ∀ j, j < n → (rl vs j : Int) ≤ 1048576) (h' : Ints w C n1 ws) (hn1 : (n1 : Int) ≤ 1048576) :
    Calls Try.prog 79 #[.agg #[.int .i64 m, .slice A n c], .slice C n1 c1] w fun e w' => e = .returned (.bool (scOk m vs ws)) ∧ Below w.heap.size w w' := by
  have bl : Below w.heap.size w (w.alloc (.cells #[.int .i64 m, .slice A n c] 56)) := (Below.refl _ _).alloc (Nat.le_refl _) _
  have k0 : (w.alloc (.cells #[.int .i64 m, .slice A n c] 56)).cell? ⟨w.heap.size, 0, none⟩ = some (.int .i64 m) := by simp
  have k1 : (w.alloc (.cells #[.int .i64 m, .slice A n c] 56)).cell? ⟨w.heap.size, 1, none⟩ = some (.slice A n c) := by simp
  have sW : w.heap.size < (w.alloc (.cells #[.int .i64 m, .slice A n c] 56)).heap.size := by simp
  have hV := h.on bl
  have hI := h'.on bl
  have HM := Lib.hid hm; clear hm
  cases h1 : profP m vs with
  | false =>
    have HF := Lib.hid (scOk_no1 (ws := ws) h1)
    go_enter Try.func79, Try.ntmps79
    go_wp2_with fail
    refine (specProfileOk m A n c vs _ hV hn HM.out).mono ?_; rintro e w1 ⟨rfl, b1⟩
    have bl1 := Below.on bl b1
    go_wp2_with fail
    go_ret
    exact ⟨ret_bool HF.out.symm, bl1⟩
  | true =>
    have HF : Hid (scOk m vs ws = weightsP m ws) := by show scOk m vs ws = weightsP m ws; simp [scOk, h1]
    go_enter Try.func79, Try.ntmps79
    go_wp2_with fail
    refine (specProfileOk m A n c vs _ hV hn HM.out).mono ?_; rintro e w1 ⟨rfl, b1⟩
    have bl1 := Below.on bl b1
    have hI := hI.on b1
    have k0 := (b1.cell (p := ⟨w.heap.size, 0, none⟩) sW).trans k0
    go_wp2_with fail
    refine (specWeightsOk m C n1 c1 ws _ hI hn1).mono ?_; rintro e w2 ⟨rfl, rfl⟩
    go_wp2_with fail
    go_ret
    exact ⟨ret_bool HF.out.symm, bl1⟩

attribute [local go_sem ↓] Go.wp_at_zero Go.wp_at_succ
set_option maxHeartbeats 8000000 in
theorem specL05Scores (q : Nat) (A : Option Addr) (n c : Nat) (vs : List (List Int × Int)) (C : Option Addr) (n1 c1 : Nat) (ws : List Int) (w : World) (h : Votes w A n vs) (h' : Ints w C n1 ws) (h1 : profP q vs = true) (h2 : weightsP q ws = true) :
    Calls Try.prog 80 #[.agg #[.int .i64 (q : Int), .slice A n c], .slice C n1 c1] w fun e w' => ∃ g, e = .returned (.slice (some ⟨g, 0, none⟩) q q) ∧ Own w' w.heap.size (some ⟨g, 0, none⟩) q q (scL vs ws n q) ∧ Below w.heap.size w w' := by
      have bl : Below w.heap.size w (w.alloc (.cells #[.int .i64 (q : Int), .slice A n c] 56)) := (Below.refl _ _).alloc (Nat.le_refl _) _
      have k0 : (w.alloc (.cells #[.int .i64 (q : Int), .slice A n c] 56)).cell? ⟨w.heap.size, 0, none⟩ = some (.int .i64 (q : Int)) := by simp
      have k1 : (w.alloc (.cells #[.int .i64 (q : Int), .slice A n c] 56)).cell? ⟨w.heap.size, 1, none⟩ = some (.slice A n c) := by simp
      have hVW := h.on bl
      have hIW := h'.on bl
      obtain ⟨hq5, hn24, hwl, hf5⟩ := sc_facts h.1 h1 h2
      have HF5 := Lib.hid hf5; clear hf5
      have hn1q : n1 = q := by have := h'.1; omega
      subst hn1q
      obtain ⟨q, rfl⟩ : ∃ q, q = n1 := ⟨_, rfl⟩
      have hnn : (n : Int) ≤ 24 := by omega
      have hqq : (q : Int) ≤ 5 := by omega
      have bsz := bl.size
      have sWW : w.heap.size < (w.alloc (.cells #[.int .i64 (q : Int), .slice A n c] 56)).heap.size := by simp
      go_enter Try.func80, Try.ntmps80
      go_wp2_with fail
      generalize w.alloc (.cells #[.int .i64 (q : Int), .slice A n c] 56) = W at *
      have HMK := Lib.hid (run_make_row' (P := Try.prog) 22 3 (.int .i64 0) 8 Try.underlying22 infoInt rfl .i64 .i64 q (by omega) (by omega))
      rw [HMK.out]
      go_wp2_with fail
      have hst : (W.alloc (.cells (madeCells #[.int .i64 0] q) 3)).rowIs W.heap.size 3 q (fun a => .int .i64 (scT vs ws 0 a)) := (World.rowIs_made W (.int .i64 0) q 3).congr fun j _ => by simp [scT]
      have hbl : Below W.heap.size W (W.alloc (.cells (madeCells #[.int .i64 0] q) 3)) := (Below.refl _ _).alloc (Nat.le_refl _) _
      generalize W.alloc (.cells (madeCells #[.int .i64 0] q) 3) = W0 at *
      go_loopw [16] (fun u wr => ∃ k : Nat, (k : Int) ≤ n ∧ u = .int .i64 k ∧ wr.rowIs W.heap.size 3 q (fun a => .int .i64 (scT vs ws k a)) ∧ Below W.heap.size W wr) (fun u _ => n - (intOf u).toNat)
      case atStart => exact ⟨0, by omega, rfl, hst, hbl⟩
      case round =>
        obtain ⟨k, hk, rfl, hrow, hb⟩ := hrel
        obtain ⟨wo, rfl⟩ : ∃ wo : World, wo = wr := ⟨_, rfl⟩
        by_cases hlt : (k : Int) < n
        · obtain ⟨b, ob, rfl, hbs, ⟨B, d, q1, q2, q3, q4, q5⟩⟩ := hVW.at_ (k := k) (by omega)
          obtain ⟨hrl, hnx, hct, hmul⟩ := HF5.out k (by omega)
          rw [hrl] at q1 q2 q4
          have q1 := (hb.cell (p := ⟨b, ob + k * 2, none⟩) hbs).trans q1
          have q5 := (hb.cell (p := ⟨b, ob + k * 2 + 1, none⟩) hbs).trans q5
          have hbs := Nat.lt_of_lt_of_le hbs hb.size
          have HNX := Lib.hid hnx; clear hnx
          have HMU := Lib.hid hmul; clear hmul
          have HTB := Lib.hid (fun a => scT_bd (vs := vs) (ws := ws) a k (fun j hj => by have := HF5.out j (by omega); exact ⟨by omega, fun i hi => this.2.2.2 i (by omega)⟩))
          have HTS := Lib.hid (fun a => scT_succ vs ws k a)
          have hlt24 : (k : Int) < 24 := by omega
          have hsW := hrow.lt
          have bA : Below wo.heap.size wo (wo.alloc (.cells #[.slice B q d, .int .i64 (ct vs k)] 89)) := (Below.refl _ _).alloc (Nat.le_refl _) _
          have c0 : (wo.alloc (.cells #[.slice B q d, .int .i64 (ct vs k)] 89)).cell? ⟨wo.heap.size, 0, none⟩ = some (.slice B q d) := by simp
          have c1 : (wo.alloc (.cells #[.slice B q d, .int .i64 (ct vs k)] 89)).cell? ⟨wo.heap.size, 1, none⟩ = some (.int .i64 (ct vs k)) := by simp
          have sV : wo.heap.size < (wo.alloc (.cells #[.slice B q d, .int .i64 (ct vs k)] 89)).heap.size := by simp
          have hrV : (wo.alloc (.cells #[.slice B q d, .int .i64 (ct vs k)] 89)).rowIs W.heap.size 3 q (fun a => .int .i64 (scT vs ws k a + sc1 (rk vs k) ws (ct vs k) 0 a)) := (hrow.of_block (bA.block _ hsW)).congr fun a _ => by rw [sc1_zero, Int.add_zero]
          have hbV := hb.trans (bA.mono hb.size)
          go_wp2_with fail
          generalize wo.alloc (.cells #[.slice B q d, .int .i64 (ct vs k)] 89) = V at *
          go_loopw [23] (fun u wr => ∃ i : Nat, (i : Int) ≤ q ∧ u = .int .i64 i ∧ wr.rowIs W.heap.size 3 q (fun a => .int .i64 (scT vs ws k a + sc1 (rk vs k) ws (ct vs k) i a)) ∧ Below W.heap.size W wr ∧ wr.cell? ⟨wo.heap.size, 0, none⟩ = some (.slice B q d) ∧ wr.cell? ⟨wo.heap.size, 1, none⟩ = some (.int .i64 (ct vs k))) (fun u _ => q - (intOf u).toNat)
          case atStart => exact ⟨0, by omega, rfl, hrV, hbV, c0, c1⟩
          case round =>
            obtain ⟨i, hi, rfl, hri, hbi, e0, e1⟩ := hrel
            obtain ⟨wi, rfl⟩ : ∃ wi : World, wi = wr := ⟨_, rfl⟩
            by_cases hlt2 : (i : Int) < q
            · obtain ⟨b2, o2, rfl, hbs2, hx2⟩ := (q4.on hbi).at_ (k := i) (by omega)
              obtain ⟨b3, o3, rfl, hbs3, hx3⟩ := (hIW.on hbi).at_ (k := i) (by omega)
              have hnx := HNX.out i (by omega)
              obtain ⟨a, ha⟩ : ∃ a : Nat, nth (rk vs k) i = (a : Int) := ⟨(nth (rk vs k) i).toNat, by omega⟩
              rw [ha] at hx2 hnx
              have haq : a < q := by omega
              have ha0 : (a : Int) < q := by omega
              have HST := Lib.hid (sc_store (vs := vs) (ws := ws) (c := ct vs k) (n := k) ha)
              clear ha hnx
              have mb := HMU.out i (by omega)
              have tb := HTB.out a
              have sb := sc1_bd (xs := rk vs k) (ws := ws) (c := ct vs k) a i (fun j hj => HMU.out j (by omega))
              have hc4 := hri.cell (i := a) haq
              have hf4 := hri.frozen a
              have hsi := hri.lt
              go_wp2_with fail
              go_region
              go_simp
              go_wp2_with fail
              go_roundw
              case rel => exact ⟨i + 1, by omega, by go_num, (hri.set a _).congr fun j _ => HST.out j, (hbi.setCell (Nat.le_refl _) _).drew, by simpa [go_sem, Nat.ne_of_gt hsW] using e0, by simpa [go_sem, Nat.ne_of_gt hsW] using e1⟩
              case measure => simp [intOf]; omega
            · obtain rfl : i = q := by omega
              go_wp2
              go_roundw
              case rel => exact ⟨k + 1, by omega, by go_num, hri.congr fun a _ => by rw [HTS.out, hrl], hbi⟩
              case measure => simp [intOf]; omega
        · obtain rfl : k = n := by omega
          go_wp2
          go_ret
          exact ⟨W.heap.size, rfl, own_mono (own_of_row hrow (Nat.le_refl _) (by simp only [maxLen]; omega) (by rw [iv_len]; exact scL_len _ _ _ _) (fun j hj => by rw [iv_at (by rw [scL_len]; exact hj), scL_nth hj])) bsz, Below.on bl hb⟩

set_option maxHeartbeats 8000000 in
theorem implScoresOf (m : Int) (A : Option Addr) (n c : Nat) (vs : List (List Int × Int)) (C : Option Addr) (n1 c1 : Nat) (ws : List Int) (w : World) (h : Votes w A n vs) (hn : (n : Int) ≤ 1048576) (hm : ∀ j, j < n → (rl vs j : Int) ≤ 1048576) (h' : Ints w C n1 ws) (hn1 : (n1 : Int) ≤ 1048576) :
    Calls Try.prog 81 #[.agg #[.int .i64 m, .slice A n c], .slice C n1 c1] w fun e w' => ∃ A' c', e = .returned (.slice A' (scoresP m vs ws).length c') ∧ A'.isSome = scOk m vs ws ∧ Own w' w.heap.size A' (scoresP m vs ws).length c' (scoresP m vs ws) ∧ Below w.heap.size w w' := by
  have bl : Below w.heap.size w (w.alloc (.cells #[.int .i64 m, .slice A n c] 56)) := (Below.refl _ _).alloc (Nat.le_refl _) _
  have k0 : (w.alloc (.cells #[.int .i64 m, .slice A n c] 56)).cell? ⟨w.heap.size, 0, none⟩ = some (.int .i64 m) := by simp
  have k1 : (w.alloc (.cells #[.int .i64 m, .slice A n c] 56)).cell? ⟨w.heap.size, 1, none⟩ = some (.slice A n c) := by simp
  have sW : w.heap.size < (w.alloc (.cells #[.int .i64 m, .slice A n c] 56)).heap.size := by simp
  have hV := h.on bl
  have hI := h'.on bl
  have HM := Lib.hid hm; clear hm
  have HL := Lib.hid h.1
  cases h1 : profP m vs with
  | false =>
    have HO := Lib.hid (scOk_no1 (ws := ws) h1)
    rw [sc_no HO.out]
    go_enter Try.func81, Try.ntmps81
    go_wp2_with fail
    refine (implProfileOk m A n c vs _ hV hn HM.out).mono ?_; rintro e w1 ⟨rfl, b1⟩
    have bl1 := Below.on bl b1
    go_wp2_with fail
    go_ret
    exact ⟨none, 0, rfl, HO.out.symm, own_nil _ _, bl1⟩
  | true =>
    cases h2 : weightsP m ws with
    | false =>
      have HO := Lib.hid (scOk_no2 (vs := vs) h2)
      rw [sc_no HO.out]
      go_enter Try.func81, Try.ntmps81
      go_wp2_with fail
      refine (implProfileOk m A n c vs _ hV hn HM.out).mono ?_; rintro e w1 ⟨rfl, b1⟩
      have bl1 := Below.on bl b1
      have hI := hI.on b1
      have k0 := (b1.cell (p := ⟨w.heap.size, 0, none⟩) sW).trans k0
      go_wp2_with fail
      refine (implWeightsOk m C n1 c1 ws _ hI hn1).mono ?_; rintro e w2 ⟨rfl, b2⟩
      have bl2 := Below.on bl1 b2
      go_wp2_with fail
      go_ret
      exact ⟨none, 0, rfl, HO.out.symm, own_nil _ _, bl2⟩
    | true =>
      have HO := Lib.hid (scOk_yes h1 h2)
      obtain ⟨q, rfl⟩ : ∃ q : Nat, m = (q : Int) := ⟨m.toNat, by have := (of_prof h1).1; omega⟩
      rw [sc_yes HL.out HO.out, HO.out, scL_len]
      obtain ⟨hq5, hn24, hwl, hf5⟩ := sc_facts HL.out h1 h2
      have HF5 := Lib.hid hf5; clear hf5
      have hn1q : n1 = q := by have := h'.1; omega
      have hnn : (n : Int) ≤ 24 := by omega
      have hqq : (q : Int) ≤ 5 := by omega
      subst hn1q
      obtain ⟨q, rfl⟩ : ∃ q, q = n1 := ⟨_, rfl⟩
      go_enter Try.func81, Try.ntmps81
      go_wp2_with fail
      refine (implProfileOk q A n c vs _ hV hn HM.out).mono ?_; rintro e w1 ⟨rfl, b1⟩
      have bl1 := Below.on bl b1
      have hI1 := hI.on b1
      have hV1 := hV.on b1
      have k0 := (b1.cell (p := ⟨w.heap.size, 0, none⟩) sW).trans k0
      have k1 := (b1.cell (p := ⟨w.heap.size, 1, none⟩) sW).trans k1
      have s1 := Nat.lt_of_lt_of_le sW b1.size
      go_wp2_with fail
      refine (implWeightsOk q C q c1 ws _ hI1 hn1).mono ?_; rintro e W ⟨rfl, b2⟩
      have bl2 := Below.on bl1 b2
      have hIW := hI1.on b2
      have hVW := hV1.on b2
      have k0 := (b2.cell (p := ⟨w.heap.size, 0, none⟩) s1).trans k0
      have k1 := (b2.cell (p := ⟨w.heap.size, 1, none⟩) s1).trans k1
      have bsz := bl2.size
      have sWW := Nat.lt_of_lt_of_le s1 b2.size
      have HMK := Lib.hid (run_make_row' (P := Try.prog) 22 3 (.int .i64 0) 8 Try.underlying22 infoInt rfl .i64 .i64 q (by omega) (by omega))
      have hmk := HMK.out
      go_wp2_with fail
      clear hmk
      have hst : (W.alloc (.cells (madeCells #[.int .i64 0] q) 3)).rowIs W.heap.size 3 q (fun a => .int .i64 (scT vs ws 0 a)) := (World.rowIs_made W (.int .i64 0) q 3).congr fun j _ => by simp [scT]
      have hbl : Below W.heap.size W (W.alloc (.cells (madeCells #[.int .i64 0] q) 3)) := (Below.refl _ _).alloc (Nat.le_refl _) _
      generalize W.alloc (.cells (madeCells #[.int .i64 0] q) 3) = W0 at *
      go_loopw [26] (fun u wr => ∃ k : Nat, (k : Int) ≤ n ∧ u = .int .i64 k ∧ wr.rowIs W.heap.size 3 q (fun a => .int .i64 (scT vs ws k a)) ∧ Below W.heap.size W wr) (fun u _ => n - (intOf u).toNat)
      case atStart => exact ⟨0, by omega, rfl, hst, hbl⟩
      case round =>
        obtain ⟨k, hk, rfl, hrow, hb⟩ := hrel
        obtain ⟨wo, rfl⟩ : ∃ wo : World, wo = wr := ⟨_, rfl⟩
        by_cases hlt : (k : Int) < n
        · obtain ⟨b, ob, rfl, hbs, ⟨B, d, q1, q2, q3, q4, q5⟩⟩ := hVW.at_ (k := k) (by omega)
          obtain ⟨hrl, hnx, hct, hmul⟩ := HF5.out k (by omega)
          rw [hrl] at q1 q2 q4
          have q1 := (hb.cell (p := ⟨b, ob + k * 2, none⟩) hbs).trans q1
          have q5 := (hb.cell (p := ⟨b, ob + k * 2 + 1, none⟩) hbs).trans q5
          have hbs := Nat.lt_of_lt_of_le hbs hb.size
          have HNX := Lib.hid hnx; clear hnx
          have HMU := Lib.hid hmul; clear hmul
          have HTB := Lib.hid (fun a => scT_bd (vs := vs) (ws := ws) a k (fun j hj => by have := HF5.out j (by omega); exact ⟨by omega, fun i hi => this.2.2.2 i (by omega)⟩))
          have HTS := Lib.hid (fun a => scT_succ vs ws k a)
          have hlt24 : (k : Int) < 24 := by omega
          have hsW := hrow.lt
          have bA : Below wo.heap.size wo (wo.alloc (.cells #[.slice B q d, .int .i64 (ct vs k)] 89)) := (Below.refl _ _).alloc (Nat.le_refl _) _
          have c0 : (wo.alloc (.cells #[.slice B q d, .int .i64 (ct vs k)] 89)).cell? ⟨wo.heap.size, 0, none⟩ = some (.slice B q d) := by simp
          have c1 : (wo.alloc (.cells #[.slice B q d, .int .i64 (ct vs k)] 89)).cell? ⟨wo.heap.size, 1, none⟩ = some (.int .i64 (ct vs k)) := by simp
          have sV : wo.heap.size < (wo.alloc (.cells #[.slice B q d, .int .i64 (ct vs k)] 89)).heap.size := by simp
          have hrV : (wo.alloc (.cells #[.slice B q d, .int .i64 (ct vs k)] 89)).rowIs W.heap.size 3 q (fun a => .int .i64 (scT vs ws k a + sc1 (rk vs k) ws (ct vs k) 0 a)) := (hrow.of_block (bA.block _ hsW)).congr fun a _ => by rw [sc1_zero, Int.add_zero]
          have hbV := hb.trans (bA.mono hb.size)
          go_wp2_with fail
          generalize wo.alloc (.cells #[.slice B q d, .int .i64 (ct vs k)] 89) = V at *
          go_loopw [33] (fun u wr => ∃ i : Nat, (i : Int) ≤ q ∧ u = .int .i64 i ∧ wr.rowIs W.heap.size 3 q (fun a => .int .i64 (scT vs ws k a + sc1 (rk vs k) ws (ct vs k) i a)) ∧ Below W.heap.size W wr ∧ wr.cell? ⟨wo.heap.size, 0, none⟩ = some (.slice B q d) ∧ wr.cell? ⟨wo.heap.size, 1, none⟩ = some (.int .i64 (ct vs k))) (fun u _ => q - (intOf u).toNat)
          case atStart => exact ⟨0, by omega, rfl, hrV, hbV, c0, c1⟩
          case round =>
            obtain ⟨i, hi, rfl, hri, hbi, e0, e1⟩ := hrel
            obtain ⟨wi, rfl⟩ : ∃ wi : World, wi = wr := ⟨_, rfl⟩
            by_cases hlt2 : (i : Int) < q
            · obtain ⟨b2, o2, rfl, hbs2, hx2⟩ := (q4.on hbi).at_ (k := i) (by omega)
              obtain ⟨b3, o3, rfl, hbs3, hx3⟩ := (hIW.on hbi).at_ (k := i) (by omega)
              have hnx := HNX.out i (by omega)
              obtain ⟨a, ha⟩ : ∃ a : Nat, nth (rk vs k) i = (a : Int) := ⟨(nth (rk vs k) i).toNat, by omega⟩
              rw [ha] at hx2 hnx
              have haq : a < q := by omega
              have ha0 : (a : Int) < q := by omega
              have HST := Lib.hid (sc_store (vs := vs) (ws := ws) (c := ct vs k) (n := k) ha)
              clear ha hnx
              have mb := HMU.out i (by omega)
              have tb := HTB.out a
              have sb := sc1_bd (xs := rk vs k) (ws := ws) (c := ct vs k) a i (fun j hj => HMU.out j (by omega))
              have hc4 := hri.cell (i := a) haq
              have hf4 := hri.frozen a
              have hsi := hri.lt
              go_wp2_with fail
              go_region
              go_simp
              go_wp2_with fail
              go_roundw
              case rel => exact ⟨i + 1, by omega, by go_num, (hri.set a _).congr fun j _ => HST.out j, (hbi.setCell (Nat.le_refl _) _).drew, by simpa [go_sem, Nat.ne_of_gt hsW] using e0, by simpa [go_sem, Nat.ne_of_gt hsW] using e1⟩
              case measure => simp [intOf]; omega
            · obtain rfl : i = q := by omega
              go_wp2
              go_roundw
              case rel => exact ⟨k + 1, by omega, by go_num, hri.congr fun a _ => by rw [HTS.out, hrl], hbi⟩
              case measure => simp [intOf]; omega
        · obtain rfl : k = n := by omega
          go_wp2
          go_ret
          exact ⟨some ⟨W.heap.size, 0, none⟩, q, rfl, rfl, own_mono (own_of_row hrow (Nat.le_refl _) (by simp only [maxLen]; omega) (by rw [iv_len]; exact scL_len _ _ _ _) (fun j hj => by rw [iv_at (by rw [scL_len]; exact hj), scL_nth hj])) bsz, Below.on bl2 hb⟩
end Go.Proofs.Ytaclpilehlednaa
