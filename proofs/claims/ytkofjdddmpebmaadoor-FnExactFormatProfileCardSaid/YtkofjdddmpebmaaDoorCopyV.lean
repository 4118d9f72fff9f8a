/- Profiles: the laws' copy is of the call's own. -/
import Derived.Test.YtkofjdddmpebmaaDoorOwnV
namespace Go.Proofs.YtkofjdddmpebmaaDoor
open Go.RowKit
set_option maxRecDepth 100000

theorem vcell_list (vs : List (List Int × Int)) (G : Nat → Nat) (n : Nat) {k : Nat} (hk : k < n) : VC ((List.range (n * 2)).map (vcell vs G n)) (fun j => some ⟨G j, 0, none⟩) (rl vs) (rk vs) (ct vs) k := by
  unfold VC
  rw [List.getElem?_map, List.getElem?_range (by omega), List.getElem?_map, List.getElem?_range (by omega)]
  simp only [Option.map_some, vcell]
  rw [if_pos (by omega), if_pos (by omega), if_pos (by omega), if_neg (by omega), show k * 2 / 2 = k by omega, show (k * 2 + 1) / 2 = k by omega]
  exact ⟨rfl, rfl⟩
theorem ownV_of_row {w : World} {g base n : Nat} {vs : List (List Int × Int)} {G : Nat → Nat} (h : w.rowIs g 38 (n * 2) (vcell vs G n)) (hn : (n : Int) ≤ 1048576) (hb : base ≤ g)
    (ho : ∀ j, j < n → w.ownsRow (g + 1) 3 1 (.slice (some ⟨G j, 0, none⟩) (rl vs j) (rl vs j)) (rl vs j) (iv (rk vs j)) ∧ ∀ i, i < j → G i ≠ G j) : OwnV w base (some ⟨g, 0, none⟩) n n (fun j => some ⟨G j, 0, none⟩) (rl vs) (rk vs) (ct vs) := by
  refine ⟨⟨(List.range (n * 2)).map (vcell vs G n), ?_, fun k hk => vcell_list vs G n hk⟩, fun k hk => own_mono (ho k hk).1 (by omega), fun i j hij hj a b ha hb => ?_, fun k hk a g' ha hg => ?_⟩
  · obtain ⟨c, h1, h2, h3⟩ := h
    refine ⟨by simp, .inr ⟨g, n, c, rfl, hb, h1, Nat.le_refl _, by simp only [maxLen]; omega, h2, ?_⟩⟩
    apply List.ext_getElem?
    intro j
    by_cases hj : j < n * 2
    · rw [List.getElem?_take, if_pos hj, Array.getElem?_toList, h3 j hj, List.getElem?_map, List.getElem?_range hj]; rfl
    · rw [List.getElem?_eq_none (by rw [List.length_take]; omega), List.getElem?_eq_none (by simp; omega)]
  · injection ha with ha; injection hb with hb
    subst ha; subst hb
    exact (ho j hj).2 i hij
  · injection ha with ha; injection hg with hg
    subst ha; subst hg
    have := (own_ge (ho k hk).1 _ rfl).1
    have h2 : g + 1 ≤ G k := this
    show G k ≠ g
    omega

set_option maxHeartbeats 2000000 in
theorem toVoteSD (A : Option Addr) (n c : Nat) (vs : List (List Int × Int)) (w : World) (h : Votes w A n vs) (hn : (n : Int) ≤ 1048576) (hm : ∀ j, j < n → (rl vs j : Int) ≤ 1048576) :
    Calls Tryd.prog 14 #[.slice A n c] w fun e w' => e = .returned (.slice (some ⟨w.heap.size, 0, none⟩) n n) ∧ (∃ G : Nat → Nat, w'.rowIs w.heap.size 38 (n * 2) (vcell vs G n) ∧ ∀ j, j < n → w'.ownsRow (w.heap.size + 1) 3 1 (.slice (some ⟨G j, 0, none⟩) (rl vs j) (rl vs j)) (rl vs j) (iv (rk vs j)) ∧ ∀ i, i < j → G i ≠ G j) ∧ Below w.heap.size w w' := by
  obtain ⟨i0, hi, hz0, hz1, hz2⟩ := info_parts infoVote
  have hmk : ∀ w : World, (Instr.makeSlice 27 (.int .i64 (n : Int)) (.int .i64 (n : Int))).run Tryd.prog w = .ok (.slice (some ⟨w.heap.size, 0, none⟩) n n) (w.alloc (.cells (madeCells #[.slice none 0 0, .int .i64 0] (n * 2)) 38)) := fun w => by
    have := run_make (P := Tryd.prog) w 27 38 i0 _ Tryd.underlying27 hi hz0 .i64 .i64 (n : Int) (n : Int) (by omega) (Int.le_refl _) (by rw [hz2]; omega) (by omega)
    rw [hz1] at this
    simpa [Value.cells] using this
  have HMX := Lib.hid hm; clear hm
  clear hi hz0 hz1 hz2
  go_enter Tryd.func14, Tryd.ntmps14
  go_wp2
  have HM := Lib.hid hmk; clear hmk
  have hst : (w.alloc (.cells (madeCells #[.slice none 0 0, .int .i64 0] (n * 2)) 38)).rowIs w.heap.size 38 (n * 2) (vcell vs (fun _ => 0) 0) :=
    ⟨_, heap_alloc_new w _, size_madeCells _ _, fun i hi => by
      have : i % 2 = 0 ∨ i % 2 = 1 := by omega
      rcases this with e | e <;> simp [madeCells, hi, vcell, e]⟩
  have hbl : Below w.heap.size w (w.alloc (.cells (madeCells #[.slice none 0 0, .int .i64 0] (n * 2)) 38)) := (Below.refl _ _).alloc (Nat.le_refl _) _
  have hsW : w.heap.size + 1 ≤ (w.alloc (.cells (madeCells #[.slice none 0 0, .int .i64 0] (n * 2)) 38)).heap.size := by simp
  generalize w.alloc (.cells (madeCells #[.slice none 0 0, .int .i64 0] (n * 2)) 38) = W at *
  go_loopw [4] (fun u wr => ∃ (k : Nat) (G : Nat → Nat), (k : Int) ≤ n ∧ u = .int .i64 k ∧ wr.rowIs w.heap.size 38 (n * 2) (vcell vs G k) ∧ (∀ j, j < k → wr.ownsRow (w.heap.size + 1) 3 1 (.slice (some ⟨G j, 0, none⟩) (rl vs j) (rl vs j)) (rl vs j) (iv (rk vs j)) ∧ ∀ i, i < j → G i ≠ G j) ∧ Below w.heap.size w wr ∧ w.heap.size + 1 ≤ wr.heap.size) (fun u _ => n - (intOf u).toNat)
  case atStart => exact ⟨0, fun _ => 0, by omega, rfl, hst, fun j hj => absurd hj (by omega), hbl, hsW⟩
  case round =>
    obtain ⟨k, G, hk, rfl, hrow, hall, hb, hsz⟩ := hrel
    have HA := Lib.hid hall; clear hall
    by_cases hlt : (k : Int) < n
    · obtain ⟨b, ob, rfl, hbs, ⟨B, d, q1, q2, q3, q4, q5⟩⟩ := (h.on hb).at_ (k := k) (by omega)
      have hlb := HMX.out k (by omega)
      go_wp2_with fail
      refine (toVote B (rl vs k) d (rk vs k) (ct vs k) _ q4 hlb).mono ?_; rintro e w1 ⟨g, rfl, o1, b1⟩
      have hrow1 := hrow.of_block (b1.block w.heap.size (by omega))
      have c0 := hrow1.cell (i := k * 2) (by omega)
      have c1 := hrow1.cell (i := k * 2 + 1) (by omega)
      have f0 := hrow1.frozen (k * 2)
      have f1 := hrow1.frozen (k * 2 + 1)
      have hb1 := Below.on hb b1
      have hs1 := b1.size
      go_wp2_with fail
      go_roundw
      case rel =>
        refine ⟨k + 1, fun j => if j = k then g else G j, by omega, by go_num, ((hrow1.set (k * 2) _).set (k * 2 + 1) _).congr fun i _ => vcell_set vs G k g i, fun j hj => ?_, (hb1.setCell (Nat.le_refl _) _).setCell (Nat.le_refl _) _, by simp; omega⟩
        by_cases e : j = k
        · subst e
          dsimp only
          rw [if_pos rfl]
          refine ⟨?_, fun i hi => ?_⟩
          rotate_left
          · rw [if_neg (by omega)]
            have h1 := (own_ge (HA.out i hi).1 _ rfl).2
            have h2 := (own_ge o1 _ rfl).1
            have h3 : G i < wr.heap.size := h1
            have h4 : wr.heap.size ≤ g := h2
            omega
          exact ownsRow_setCell_below (ownsRow_setCell_below (own_mono o1 (by omega)) (by simp) _) (by simp) _
        · dsimp only
          rw [if_neg e]
          refine ⟨?_, fun i hi => by rw [if_neg (by omega)]; exact (HA.out j (by omega)).2 i hi⟩
          exact ownsRow_setCell_below (ownsRow_setCell_below (own_below (HA.out j (by omega)).1 b1 (Nat.le_refl _)) (by simp) _) (by simp) _
      case measure => simp [intOf]; omega
    · obtain rfl : k = n := by omega
      go_wp2
      go_ret
      exact ⟨rfl, ⟨G, hrow, HA.out⟩, hb⟩

set_option maxHeartbeats 2000000 in
theorem toProfileD (m : Int) (A : Option Addr) (n c : Nat) (vs : List (List Int × Int)) (w : World) (h : Votes w A n vs) (hn : (n : Int) ≤ 1048576) (hm : ∀ j, j < n → (rl vs j : Int) ≤ 1048576) :
    Calls Tryd.prog 6 #[.agg #[.int .i64 m, .slice A n c]] w fun e w' => ∃ g, e = .returned (.agg #[.int .i64 m, .slice (some ⟨g, 0, none⟩) n n]) ∧ (∃ G : Nat → Option Addr, OwnV w' w.heap.size (some ⟨g, 0, none⟩) n n G (rl vs) (rk vs) (ct vs)) ∧ Below w.heap.size w w' := by
  have bl : Below w.heap.size w (((w.alloc (.cells #[.int .i64 m, .slice A n c] 24)).alloc (.cells #[.int .i64 0, .slice none 0 0] 29)).alloc (.cells #[.int .i64 0, .slice none 0 0] 29)) := (((Below.refl _ _).alloc (Nat.le_refl _) _).alloc (by simp) _).alloc (by simp; omega) _
  have bl2 : Below w.heap.size w (((w.alloc (.cells #[.int .i64 m, .slice A n c] 24)).alloc (.cells #[.int .i64 0, .slice none 0 0] 29)).alloc (.cells #[.int .i64 m, .slice none 0 0] 29)) := (((Below.refl _ _).alloc (Nat.le_refl _) _).alloc (by simp) _).alloc (by simp; omega) _
  go_enter Tryd.func6, Tryd.ntmps6
  go_wp2_with fail
  refine (toVoteSD A n c vs _ (h.on bl2) hn hm).mono ?_; rintro e w1 ⟨rfl, ⟨G, hrow, hall⟩, b1⟩
  have s1 : w.heap.size + 3 ≤ w1.heap.size := by have := b1.size; simp at this; omega
  have r0 : w1.cell? ⟨w.heap.size + 1, 0, none⟩ = some (.int .i64 0) := (b1.cell (p := ⟨w.heap.size + 1, 0, none⟩) (by simp)).trans (by simp [go_sem])
  have r1 : w1.cell? ⟨w.heap.size + 1, 1, none⟩ = some (.slice none 0 0) := (b1.cell (p := ⟨w.heap.size + 1, 1, none⟩) (by simp)).trans (by simp [go_sem])
  have t0 : w1.cell? ⟨w.heap.size + 1 + 1, 0, none⟩ = some (.int .i64 m) := (b1.cell (p := ⟨w.heap.size + 1 + 1, 0, none⟩) (by simp)).trans (by simp [go_sem])
  have t1 : w1.cell? ⟨w.heap.size + 1 + 1, 1, none⟩ = some (.slice none 0 0) := (b1.cell (p := ⟨w.heap.size + 1 + 1, 1, none⟩) (by simp)).trans (by simp [go_sem])
  have f0 : w1.frozen? ⟨w.heap.size + 1, 0, none⟩ = false := (b1.frozen (p := ⟨w.heap.size + 1, 0, none⟩) (by simp)).trans (by simp [go_sem])
  have f1 : w1.frozen? ⟨w.heap.size + 1, 1, none⟩ = false := (b1.frozen (p := ⟨w.heap.size + 1, 1, none⟩) (by simp)).trans (by simp [go_sem])
  have z0 : w1.frozen? ⟨w.heap.size + 1 + 1, 0, none⟩ = false := (b1.frozen (p := ⟨w.heap.size + 1 + 1, 0, none⟩) (by simp)).trans (by simp [go_sem])
  have z1 : w1.frozen? ⟨w.heap.size + 1 + 1, 1, none⟩ = false := (b1.frozen (p := ⟨w.heap.size + 1 + 1, 1, none⟩) (by simp)).trans (by simp [go_sem])
  have bl1 := Below.on bl2 b1
  have hrow' : w1.rowIs (w.heap.size + 1 + 1 + 1) 38 (n * 2) (vcell vs G n) := by simpa using hrow
  have hall' : ∀ j, j < n → w1.ownsRow (w.heap.size + 1 + 1 + 1 + 1) 3 1 (.slice (some ⟨G j, 0, none⟩) (rl vs j) (rl vs j)) (rl vs j) (iv (rk vs j)) ∧ ∀ i, i < j → G i ≠ G j := by simpa using hall
  have HR := Lib.hid hrow'
  have HA := Lib.hid hall'
  clear hrow hall hrow' hall'
  go_wp2_with fail
  refine bodyPost_ret (v := .agg #[.int .i64 m, .slice (some ⟨w.heap.size + 1 + 1 + 1, 0, none⟩) n n]) (by simp [results, Tryd.results6, go_sem, r0, r1]) rfl ⟨_, rfl, ⟨fun j => some ⟨G j, 0, none⟩, ownV_of_row ?_ (by omega) (by omega) (fun j hj => ⟨?_, (HA.out j hj).2⟩)⟩, ?_⟩
  · refine (((HR.out.setOther ?_ _).setOther ?_ _).setOther ?_ _)
    all_goals (simp; try omega)
  · refine ownsRow_setCell_below (ownsRow_setCell_below (ownsRow_setCell_below (HA.out j hj).1 ?_ _) ?_ _) ?_ _
    all_goals (simp; try omega)
  · exact ((bl1.setCell (by simp; omega) _).setCell (by simp) _).setCell (by simp) _

end Go.Proofs.YtkofjdddmpebmaaDoor
