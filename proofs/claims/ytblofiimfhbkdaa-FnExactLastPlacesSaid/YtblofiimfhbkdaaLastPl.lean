/- The last places: what the program's and the reference's functions compute. -/
import Derived.Test.YtblofiimfhbkdaaTable
namespace Go.Proofs.Ytblofiimfhbkdaa
open Go.RowKit
set_option maxRecDepth 100000

set_option maxHeartbeats 1000000 in
theorem specLastPlaces (m : Int) (A : Option Addr) (n c : Nat) (vs : List (List Int × Int)) (w : World) (h : Votes w A n vs) (hn : (n : Int) ≤ 1048576) (hm : ∀ j, j < n → (rl vs j : Int) ≤ 1048576) :
    Calls Try.prog 29 #[.agg #[.int .i64 m, .slice A n c]] w fun e w' => ∃ A' c', e = .returned (.slice A' (colP m vs true).length c') ∧ Own w' w.heap.size A' (colP m vs true).length c' (colP m vs true) ∧ Below w.heap.size w w' := by
  have bl : Below w.heap.size w (w.alloc (.cells #[.int .i64 m, .slice A n c] 40)) := (Below.refl _ _).alloc (Nat.le_refl _) _
  have hs := bl.size
  have hV := h.on bl
  go_enter Try.func29, Try.ntmps29
  go_wp2_with fail
  refine (specL05Column m A n c vs true _ hV hn hm).mono ?_; rintro e w1 ⟨A1, c1, rfl, o, b⟩
  go_wp2_with fail
  go_ret
  exact ⟨A1, c1, rfl, own_mono o hs, Below.on bl b⟩

attribute [local go_sem ↓] Go.wp_at_zero Go.wp_at_succ
set_option maxHeartbeats 8000000 in
theorem implLastPlaces (m : Int) (A : Option Addr) (n c : Nat) (vs : List (List Int × Int)) (w : World) (h : Votes w A n vs) (hn : (n : Int) ≤ 1048576) (hm : ∀ j, j < n → (rl vs j : Int) ≤ 1048576) :
    Calls Try.prog 30 #[.agg #[.int .i64 m, .slice A n c]] w fun e w' => ∃ A' c', e = .returned (.slice A' (colP m vs true).length c') ∧ Own w' w.heap.size A' (colP m vs true).length c' (colP m vs true) ∧ Below w.heap.size w w' := by
  have bl : Below w.heap.size w (w.alloc (.cells #[.int .i64 m, .slice A n c] 40)) := (Below.refl _ _).alloc (Nat.le_refl _) _
  have k0 : (w.alloc (.cells #[.int .i64 m, .slice A n c] 40)).cell? ⟨w.heap.size, 0, none⟩ = some (.int .i64 m) := by simp
  have k1 : (w.alloc (.cells #[.int .i64 m, .slice A n c] 40)).cell? ⟨w.heap.size, 1, none⟩ = some (.slice A n c) := by simp
  have sW : w.heap.size < (w.alloc (.cells #[.int .i64 m, .slice A n c] 40)).heap.size := by simp
  have hV := h.on bl
  have HM := Lib.hid hm; clear hm
  have HL := Lib.hid h.1
  cases h1 : profP m vs with
  | false =>
    have HP := Lib.hid h1
    rw [col_no h1]
    go_enter Try.func30, Try.ntmps30
    go_wp2_with fail
    refine (implProfileOk m A n c vs _ hV hn HM.out).mono ?_; rintro e w1 ⟨rfl, b1⟩
    rw [HP.out]
    have bl1 := Below.on bl b1
    go_wp2_with fail
    go_ret
    exact ⟨none, 0, rfl, own_nil _ _, bl1⟩
  | true =>
    have HP := Lib.hid h1
    obtain ⟨q, rfl⟩ : ∃ q : Nat, m = (q : Int) := ⟨m.toNat, by have := (of_prof h1).1; omega⟩
    rw [col_yes HL.out h1, plCol_len]
    obtain ⟨hq5, hn24, hf5⟩ := pl_facts HL.out h1
    have HF5 := Lib.hid hf5; clear hf5 h1
    have hnn : (n : Int) ≤ 24 := by omega
    have hqq : (q : Int) ≤ 5 := by omega
    obtain ⟨pl, hpl⟩ : ∃ pl, pl = lastPl true (q : Int) := ⟨_, rfl⟩
    rw [← hpl]
    have hlq : (q : Int) - 1 = pl := by rw [hpl]; simp [lastPl]; omega
    clear hpl
    have hpq : pl < q := by omega
    go_enter Try.func30, Try.ntmps30
    go_wp2_with fail
    refine (implProfileOk q A n c vs _ hV hn HM.out).mono ?_; rintro e W ⟨rfl, b1⟩
    rw [HP.out]
    have bl1 := Below.on bl b1
    have hVW := hV.on b1
    replace k0 := (b1.cell (p := ⟨w.heap.size, 0, none⟩) sW).trans k0
    replace k1 := (b1.cell (p := ⟨w.heap.size, 1, none⟩) sW).trans k1
    have sWW := Nat.lt_of_lt_of_le sW b1.size
    have bsz := bl1.size
    have HMK := Lib.hid (run_make_row' (P := Try.prog) 44 3 (.int .i64 0) 8 Try.underlying44 infoInt rfl .i64 .i64 q (by omega) (by omega))
    have hmk := HMK.out
    go_wp2_with fail
    clear hmk
    have hst : (W.alloc (.cells (madeCells #[.int .i64 0] q) 3)).rowIs W.heap.size 3 q (fun a => .int .i64 (plT vs 0 pl a)) := (World.rowIs_made W (.int .i64 0) q 3).congr fun j _ => by rw [plT_zero]
    have hbl : Below W.heap.size W (W.alloc (.cells (madeCells #[.int .i64 0] q) 3)) := (Below.refl _ _).alloc (Nat.le_refl _) _
    generalize W.alloc (.cells (madeCells #[.int .i64 0] q) 3) = W0 at *
    go_loopw [15] (fun u wr => ∃ k : Nat, (k : Int) ≤ n ∧ u = .int .i64 k ∧ wr.rowIs W.heap.size 3 q (fun a => .int .i64 (plT vs k pl a)) ∧ Below W.heap.size W wr) (fun u _ => n - (intOf u).toNat)
    case atStart => exact ⟨0, by omega, rfl, hst, hbl⟩
    case round =>
      obtain ⟨k, hk, rfl, hrow, hb⟩ := hrel
      obtain ⟨wo, rfl⟩ : ∃ wo : World, wo = wr := ⟨_, rfl⟩
      by_cases hlt : (k : Int) < n
      · obtain ⟨b, ob, rfl, hbs, ⟨B, d, q1, q2, q3, q4, q5⟩⟩ := (hVW.on hb).at_ (k := k) (by omega)
        obtain ⟨hrk, hrl, hct⟩ := HF5.out k (by omega)
        rw [hrl] at q1 q2 q4
        clear hrl
        obtain ⟨_, hlen, hnx, _⟩ := of_rank hrk
        have hnx := hnx pl (by omega)
        obtain ⟨a, ha⟩ : ∃ a : Nat, nth (rk vs k) pl = (a : Int) := ⟨(nth (rk vs k) pl).toNat, by omega⟩
        have haq : a < q := by omega
        have ha0 : (a : Int) < q := by omega
        have tb := plT_bd (vs := vs) pl a k (fun j hj => (HF5.out j (by omega)).2.2)
        have HST := Lib.hid (pc_store (vs := vs) ha)
        have hpl0 : (pl : Int) < q := by omega
        clear hrk hlen hnx
        have hsi := hrow.lt
        have k0o := (hb.cell (p := ⟨w.heap.size, 0, none⟩) sWW).trans k0
        have so := Nat.lt_of_lt_of_le sWW hb.size
        have bA : Below wo.heap.size wo (wo.alloc (.cells #[.slice B q d, .int .i64 (ct vs k)] 62)) := (Below.refl _ _).alloc (Nat.le_refl _) _
        have v0 : (wo.alloc (.cells #[.slice B q d, .int .i64 (ct vs k)] 62)).cell? ⟨wo.heap.size, 0, none⟩ = some (.slice B q d) := by simp
        have v1 : (wo.alloc (.cells #[.slice B q d, .int .i64 (ct vs k)] 62)).cell? ⟨wo.heap.size, 1, none⟩ = some (.int .i64 (ct vs k)) := by simp
        have sV : wo.heap.size < (wo.alloc (.cells #[.slice B q d, .int .i64 (ct vs k)] 62)).heap.size := by simp
        have k0v := (bA.cell (p := ⟨w.heap.size, 0, none⟩) so).trans k0o
        have hrA := hrow.of_block (bA.block _ hsi)
        have hcA := hrA.cell (i := a) haq
        have hfA := hrA.frozen a
        have hbA := hb.trans (bA.mono hb.size)
        obtain ⟨b2, o2, rfl, hbs2, hx2⟩ := (q4.on bA).at_ (k := pl) (by omega)
        rw [ha] at hx2
        clear ha
        go_wp2_with fail
        generalize wo.alloc (.cells #[.slice (some ⟨b2, o2, none⟩) q d, .int .i64 (ct vs k)] 62) = V at *
        have hsA := hrA.lt
        go_region
        go_simp
        go_wp2_with fail
        go_roundw
        case rel => exact ⟨k + 1, by omega, by go_num, (hrA.set a _).congr fun j _ => HST.out j, (hbA.setCell (Nat.le_refl _) _).drew⟩
        case measure => simp [intOf]; omega
      · obtain rfl : k = n := by omega
        go_wp2
        go_ret
        exact ⟨some ⟨W.heap.size, 0, none⟩, q, rfl, own_mono (own_of_row hrow (Nat.le_refl _) (by simp only [maxLen]; omega) (by rw [iv_len]; exact plCol_len _ _ _ _) (fun j hj => by rw [iv_at (by rw [plCol_len]; exact hj), plCol_nth hj])) bsz, Below.on bl1 hb⟩
end Go.Proofs.Ytblofiimfhbkdaa
