/- Profiles: what the laws' own helpers compute: their size, a copy, equality. -/
import Derived.Test.YtkofjdddmpebmaaDoorInts
import Derived.Test.YtkofjdddmpebmaaDoorVotes
import Derived.Test.YtkofjdddmpebmaaDoorPlainRank
import Derived.Deep.RegionWith
import Derived.Deep.DeepCutAuto
import Derived.Deep.DrawnRows
namespace Go.Proofs.YtkofjdddmpebmaaDoor
open Go.RowKit

/-- Behind a call that leaves all that was there: old cells and marks read as before. -/
theorem bcell {W w1 : World} (hb : Below W.heap.size W w1) : (∀ b o, b < W.heap.size → w1.cell? ⟨b, o, none⟩ = W.cell? ⟨b, o, none⟩) ∧ (∀ b o, b < W.heap.size → w1.frozen? ⟨b, o, none⟩ = W.frozen? ⟨b, o, none⟩) :=
  ⟨fun b o h => hb.cell (p := ⟨b, o, none⟩) h, fun b o h => hb.frozen (p := ⟨b, o, none⟩) h⟩
theorem infoVote : (Tryd.prog.info? 38).map (fun i => (i.zero, i.size, i.bytes)) = some (some (.agg #[.slice none 0 0, .int .i64 0]), 2, 32) := by kernel_rfl
theorem maxLen_eq : maxLen = 9223372036854775807 := rfl

/-! ### Sizes -/
set_option maxHeartbeats 400000 in
theorem szIntS (A : Option Addr) (n c : Nat) (left : Int) (w : World) (hn : n ≤ maxLen) (hl : 0 ≤ left ∧ left ≤ 1048576) :
    Calls Tryd.prog 33 #[.slice A n c, .int .i64 left] w fun e w' => (∃ r : Int, e = .returned (.int .i64 r) ∧ -1 ≤ r ∧ r ≤ left ∧ (0 ≤ r → (n : Int) ≤ 1048576)) ∧ w = w' := by
  have hn' : (n : Int) ≤ 9223372036854775807 := by rw [maxLen_eq] at hn; omega
  by_cases h : left - n < 0
  · go_enter Tryd.func33, Tryd.ntmps33
    go_wp2
    go_ret
    exact ⟨⟨-1, rfl, by omega, by omega, by omega⟩, rfl⟩
  · go_enter Tryd.func33, Tryd.ntmps33
    go_wp2
    go_ret
    exact ⟨⟨left - n, rfl, by omega, by omega, by omega⟩, rfl⟩

set_option maxHeartbeats 1000000 in
theorem szVote (A : Option Addr) (n c : Nat) (q left : Int) (w : World) (hn : n ≤ maxLen) (hl : 0 ≤ left ∧ left ≤ 1048576) :
    Calls Tryd.prog 20 #[.agg #[.slice A n c, .int .i64 q], .int .i64 left] w fun e w' => ∃ r : Int, e = .returned (.int .i64 r) ∧ -1 ≤ r ∧ r ≤ left ∧ (0 ≤ r → (n : Int) ≤ 1048576) ∧ Below w.heap.size w w' := by
  have bl : Below w.heap.size w (w.alloc (.cells #[.slice A n c, .int .i64 q] 45)) := (Below.refl _ _).alloc (Nat.le_refl _) _
  go_enter Tryd.func20, Tryd.ntmps20
  go_wp2_with fail
  refine (szIntS A n c left _ hn hl).mono ?_; rintro e w1 ⟨⟨r, rfl, r1, r2, r3⟩, rfl⟩
  have R3 := Lib.hid r3; clear r3
  by_cases h : r < 0
  · go_wp2_with fail
    go_ret
    exact ⟨-1, rfl, by omega, by omega, fun h => absurd h (by omega), bl⟩
  · go_wp2_with fail
    go_ret
    exact ⟨r, rfl, r1, r2, R3.out, bl⟩

set_option maxHeartbeats 2000000 in
theorem szVoteS (A : Option Addr) (n c : Nat) (vs : List (List Int × Int)) (w : World) (h : Votes w A n vs) (hn : n ≤ maxLen) :
    Calls Tryd.prog 9 #[.slice A n c, .int .i64 1048576] w fun e w' => ∃ r : Int, e = .returned (.int .i64 r) ∧ -1 ≤ r ∧ r ≤ 1048576 ∧ (0 ≤ r → (n : Int) ≤ 1048576 ∧ ∀ j, j < n → (rl vs j : Int) ≤ 1048576) ∧ Below w.heap.size w w' := by
  have hn' : (n : Int) ≤ 9223372036854775807 := by rw [maxLen_eq] at hn; omega
  by_cases h0 : 1048576 - (n : Int) < 0
  · go_enter Tryd.func9, Tryd.ntmps9
    go_wp2
    go_ret
    exact ⟨-1, rfl, by omega, by omega, fun h => absurd h (by omega), Below.refl _ _⟩
  · go_enter Tryd.func9, Tryd.ntmps9
    go_wp2
    go_loopw [1, 5] (fun u v wr => ∃ (k : Nat) (left : Int), (k : Int) ≤ n ∧ 0 ≤ left ∧ left ≤ 1048576 ∧ u = .int .i64 left ∧ v = .int .i64 k ∧ (∀ j, j < k → (rl vs j : Int) ≤ 1048576) ∧ Below w.heap.size w wr) (fun _ v _ => n - (intOf v).toNat)
    case atStart => exact ⟨0, 1048576 - n, by omega, by omega, by omega, rfl, rfl, fun j hj => absurd hj (by omega), Below.refl _ _⟩
    case round =>
      obtain ⟨k, left, hk, l1, l2, rfl, rfl, hall, hb⟩ := hrel
      have HA := Lib.hid hall; clear hall
      by_cases hlt : (k : Int) < n
      · obtain ⟨b, ob, rfl, hbs, ⟨B, d, q1, q2, q3, q4, q5⟩⟩ := (h.on hb).at_ (k := k) (by omega)
        go_wp2_with fail
        refine (szVote B (rl vs k) d (ct vs k) left _ (Nat.le_trans q2 q3) ⟨l1, l2⟩).mono ?_; rintro e w1 ⟨r, rfl, r1, r2, r3, b1⟩
        have R3 := Lib.hid r3; clear r3
        have hb1 := Below.on hb b1
        by_cases hr : r < 0
        · go_wp2_with fail
          go_ret
          exact ⟨-1, rfl, by omega, by omega, fun h => absurd h (by omega), hb1⟩
        · go_wp2_with fail
          go_roundw
          case rel =>
            refine ⟨k + 1, r, by omega, by omega, by omega, rfl, by go_num, fun j hj => ?_, hb1⟩
            by_cases e : j = k
            · subst e; exact R3.out (by omega)
            · exact HA.out j (by omega)
          case measure => simp [intOf]; omega
      · obtain rfl : k = n := by omega
        go_wp2
        go_ret
        exact ⟨left, rfl, by omega, by omega, fun _ => ⟨by omega, HA.out⟩, hb⟩

set_option maxHeartbeats 1000000 in
theorem szProfile (m : Int) (A : Option Addr) (n c : Nat) (vs : List (List Int × Int)) (w : World) (h : Votes w A n vs) (hn : n ≤ maxLen) :
    Calls Tryd.prog 4 #[.agg #[.int .i64 m, .slice A n c], .int .i64 1048576] w fun e w' => ∃ r : Int, e = .returned (.int .i64 r) ∧ -1 ≤ r ∧ r ≤ 1048576 ∧ (0 ≤ r → (n : Int) ≤ 1048576 ∧ ∀ j, j < n → (rl vs j : Int) ≤ 1048576) ∧ Below w.heap.size w w' := by
  have bl : Below w.heap.size w (w.alloc (.cells #[.int .i64 m, .slice A n c] 24)) := (Below.refl _ _).alloc (Nat.le_refl _) _
  go_enter Tryd.func4, Tryd.ntmps4
  go_wp2_with fail
  refine (szVoteS A n c vs _ (h.on bl) hn).mono ?_; rintro e w1 ⟨r, rfl, r1, r2, r3, b1⟩
  have R3 := Lib.hid r3; clear r3
  have bl1 := Below.on bl b1
  by_cases h : r < 0
  · go_wp2_with fail
    go_ret
    exact ⟨-1, rfl, by omega, by omega, fun h => absurd h (by omega), bl1⟩
  · go_wp2_with fail
    go_ret
    exact ⟨r, rfl, r1, r2, R3.out, bl1⟩

/-! ### A copy -/
set_option maxHeartbeats 2000000 in
theorem toVote (A : Option Addr) (n c : Nat) (xs : List Int) (q : Int) (w : World) (h : Ints w A n xs) (hn : (n : Int) ≤ 1048576) :
    Calls Tryd.prog 24 #[.agg #[.slice A n c, .int .i64 q]] w fun e w' => ∃ g, e = .returned (.agg #[.slice (some ⟨g, 0, none⟩) n n, .int .i64 q]) ∧ Own w' w.heap.size (some ⟨g, 0, none⟩) n n xs ∧ Below w.heap.size w w' := by
  have bl : Below w.heap.size w (((w.alloc (.cells #[.slice A n c, .int .i64 q] 45)).alloc (.cells #[.slice none 0 0, .int .i64 0] 38)).alloc (.cells #[.slice none 0 0, .int .i64 0] 38)) := (((Below.refl _ _).alloc (Nat.le_refl _) _).alloc (by simp) _).alloc (by simp; omega) _
  go_enter Tryd.func24, Tryd.ntmps24
  go_wp2_with fail
  refine (toIntS A n c xs _ (h.on bl) hn).mono ?_; rintro e w1 ⟨rfl, o1, b1⟩
  have s1 : w.heap.size + 3 ≤ w1.heap.size := by have := b1.size; simp at this; omega
  have k0 : w1.cell? ⟨w.heap.size, 1, none⟩ = some (.int .i64 q) := (b1.cell (p := ⟨w.heap.size, 1, none⟩) (by simp; omega)).trans (by simp [go_sem])
  have r0 : w1.cell? ⟨w.heap.size + 1, 0, none⟩ = some (.slice none 0 0) := (b1.cell (p := ⟨w.heap.size + 1, 0, none⟩) (by simp)).trans (by simp [go_sem])
  have r1 : w1.cell? ⟨w.heap.size + 1, 1, none⟩ = some (.int .i64 0) := (b1.cell (p := ⟨w.heap.size + 1, 1, none⟩) (by simp)).trans (by simp [go_sem])
  have t0 : w1.cell? ⟨w.heap.size + 1 + 1, 0, none⟩ = some (.slice none 0 0) := (b1.cell (p := ⟨w.heap.size + 1 + 1, 0, none⟩) (by simp)).trans (by simp [go_sem])
  have t1 : w1.cell? ⟨w.heap.size + 1 + 1, 1, none⟩ = some (.int .i64 0) := (b1.cell (p := ⟨w.heap.size + 1 + 1, 1, none⟩) (by simp)).trans (by simp [go_sem])
  have f0 : w1.frozen? ⟨w.heap.size + 1, 0, none⟩ = false := (b1.frozen (p := ⟨w.heap.size + 1, 0, none⟩) (by simp)).trans (by simp [go_sem])
  have f1 : w1.frozen? ⟨w.heap.size + 1, 1, none⟩ = false := (b1.frozen (p := ⟨w.heap.size + 1, 1, none⟩) (by simp)).trans (by simp [go_sem])
  have z0 : w1.frozen? ⟨w.heap.size + 1 + 1, 0, none⟩ = false := (b1.frozen (p := ⟨w.heap.size + 1 + 1, 0, none⟩) (by simp)).trans (by simp [go_sem])
  have z1 : w1.frozen? ⟨w.heap.size + 1 + 1, 1, none⟩ = false := (b1.frozen (p := ⟨w.heap.size + 1 + 1, 1, none⟩) (by simp)).trans (by simp [go_sem])
  have bl1 := Below.on bl b1
  go_wp2_with fail
  refine bodyPost_ret (v := .agg #[.slice (some ⟨w.heap.size + 1 + 1 + 1, 0, none⟩) n n, .int .i64 q]) (by simp [results, Tryd.results24, go_sem, r0, r1]) rfl ⟨_, rfl, ?_, ?_⟩
  · have hx : Own w1 (w.heap.size + 1 + 1 + 1) (some ⟨w.heap.size + 1 + 1 + 1, 0, none⟩) n n xs := by simpa using o1
    refine own_mono (base := w.heap.size + 1 + 1 + 1) (ownsRow_setCell_below (ownsRow_setCell_below (ownsRow_setCell_below (ownsRow_setCell_below hx ?_ _) ?_ _) ?_ _) ?_ _) (by omega)
    all_goals (simp; try omega)
  · exact (((bl1.setCell (by simp; omega) _).setCell (by simp; omega) _).setCell (by simp) _).setCell (by simp) _

/-- The cells of a copy of votes, made up to k. -/
def vcell (vs : List (List Int × Int)) (G : Nat → Nat) (k i : Nat) : Value :=
  if i < 2 * k then (if i % 2 = 0 then .slice (some ⟨G (i / 2), 0, none⟩) (rl vs (i / 2)) (rl vs (i / 2)) else .int .i64 (ct vs (i / 2))) else (if i % 2 = 0 then .slice none 0 0 else .int .i64 0)
theorem vcell_set (vs : List (List Int × Int)) (G : Nat → Nat) (k g i : Nat) :
    (if i = k * 2 + 1 then Value.int .i64 (ct vs k) else if i = k * 2 then Value.slice (some ⟨g, 0, none⟩) (rl vs k) (rl vs k) else vcell vs G k i) = vcell vs (fun j => if j = k then g else G j) (k + 1) i := by
  simp only [vcell]
  repeat' split
  all_goals first
    | rfl
    | (exfalso; omega)
    | rw [show i / 2 = k by omega]
theorem votes_of_row {w : World} {g base n : Nat} {e T : TypeId} {vs : List (List Int × Int)} {G : Nat → Nat} (h : w.rowIs g e (n * 2) (vcell vs G n)) (hl : vs.length = n) (hm : ∀ j, j < n → (rl vs j : Int) ≤ 1048576)
    (ho : ∀ j, j < n → w.ownsRow base T 1 (.slice (some ⟨G j, 0, none⟩) (rl vs j) (rl vs j)) (rl vs j) (iv (rk vs j))) : Votes w (some ⟨g, 0, none⟩) n vs := by
  refine ⟨hl, fun hn => ⟨g, 0, rfl, h.lt, fun j hj => ⟨some ⟨G j, 0, none⟩, rl vs j, ?_, Nat.le_refl _, ?_, Ints.of_own (ho j hj), ?_⟩⟩⟩
  · rw [Nat.zero_add, h.cell (by omega), vcell, if_pos (by omega), if_pos (by omega), show j * 2 / 2 = j by omega]
  · have := hm j hj
    simp only [maxLen]; omega
  · rw [Nat.zero_add, h.cell (by omega), vcell, if_pos (by omega), if_neg (by omega), show (j * 2 + 1) / 2 = j by omega]

set_option maxHeartbeats 2000000 in
theorem toVoteS (A : Option Addr) (n c : Nat) (vs : List (List Int × Int)) (w : World) (h : Votes w A n vs) (hn : (n : Int) ≤ 1048576) (hm : ∀ j, j < n → (rl vs j : Int) ≤ 1048576) :
    Calls Tryd.prog 14 #[.slice A n c] w fun e w' => e = .returned (.slice (some ⟨w.heap.size, 0, none⟩) n n) ∧ (∃ G : Nat → Nat, w'.rowIs w.heap.size 38 (n * 2) (vcell vs G n) ∧ ∀ j, j < n → w'.ownsRow (w.heap.size + 1) 3 1 (.slice (some ⟨G j, 0, none⟩) (rl vs j) (rl vs j)) (rl vs j) (iv (rk vs j))) ∧ Below w.heap.size w w' := by
  obtain ⟨i0, hi, hz0, hz1, hz2⟩ := info_parts infoVote
  have hmk : ∀ w : World, (Instr.makeSlice 27 (.int .i64 (n : Int)) (.int .i64 (n : Int))).run Tryd.prog w = .ok (.slice (some ⟨w.heap.size, 0, none⟩) n n) (w.alloc (.cells (madeCells #[.slice none 0 0, .int .i64 0] (n * 2)) 38)) := fun w => by
    have := run_make (P := Tryd.prog) w 27 38 i0 _ Tryd.underlying27 hi hz0 .i64 .i64 (n : Int) (n : Int) (by omega) (Int.le_refl _) (by rw [hz2]; omega) (by omega)
    rw [hz1] at this
    simpa [Value.cells] using this
  have HMX := Lib.hid hm; clear hm
  clear hi hz0 hz1 hz2
  go_enter Tryd.func14, Tryd.ntmps14
  go_wp2
  have HM := Lib.hid hmk; clear hmk
  have hst : (w.alloc (.cells (madeCells #[.slice none 0 0, .int .i64 0] (n * 2)) 38)).rowIs w.heap.size 38 (n * 2) (vcell vs (fun _ => 0) 0) :=
    ⟨_, heap_alloc_new w _, size_madeCells _ _, fun i hi => by
      have : i % 2 = 0 ∨ i % 2 = 1 := by omega
      rcases this with e | e <;> simp [madeCells, hi, vcell, e]⟩
  have hbl : Below w.heap.size w (w.alloc (.cells (madeCells #[.slice none 0 0, .int .i64 0] (n * 2)) 38)) := (Below.refl _ _).alloc (Nat.le_refl _) _
  have hsW : w.heap.size + 1 ≤ (w.alloc (.cells (madeCells #[.slice none 0 0, .int .i64 0] (n * 2)) 38)).heap.size := by simp
  generalize w.alloc (.cells (madeCells #[.slice none 0 0, .int .i64 0] (n * 2)) 38) = W at *
  go_loopw [4] (fun u wr => ∃ (k : Nat) (G : Nat → Nat), (k : Int) ≤ n ∧ u = .int .i64 k ∧ wr.rowIs w.heap.size 38 (n * 2) (vcell vs G k) ∧ (∀ j, j < k → wr.ownsRow (w.heap.size + 1) 3 1 (.slice (some ⟨G j, 0, none⟩) (rl vs j) (rl vs j)) (rl vs j) (iv (rk vs j))) ∧ Below w.heap.size w wr ∧ w.heap.size + 1 ≤ wr.heap.size) (fun u _ => n - (intOf u).toNat)
  case atStart => exact ⟨0, fun _ => 0, by omega, rfl, hst, fun j hj => absurd hj (by omega), hbl, hsW⟩
  case round =>
    obtain ⟨k, G, hk, rfl, hrow, hall, hb, hsz⟩ := hrel
    have HA := Lib.hid hall; clear hall
    by_cases hlt : (k : Int) < n
    · obtain ⟨b, ob, rfl, hbs, ⟨B, d, q1, q2, q3, q4, q5⟩⟩ := (h.on hb).at_ (k := k) (by omega)
      have hlb := HMX.out k (by omega)
      go_wp2_with fail
      refine (toVote B (rl vs k) d (rk vs k) (ct vs k) _ q4 hlb).mono ?_; rintro e w1 ⟨g, rfl, o1, b1⟩
      have hrow1 := hrow.of_block (b1.block w.heap.size (by omega))
      have c0 := hrow1.cell (i := k * 2) (by omega)
      have c1 := hrow1.cell (i := k * 2 + 1) (by omega)
      have f0 := hrow1.frozen (k * 2)
      have f1 := hrow1.frozen (k * 2 + 1)
      have hb1 := Below.on hb b1
      have hs1 := b1.size
      go_wp2_with fail
      go_roundw
      case rel =>
        refine ⟨k + 1, fun j => if j = k then g else G j, by omega, by go_num, ((hrow1.set (k * 2) _).set (k * 2 + 1) _).congr fun i _ => vcell_set vs G k g i, fun j hj => ?_, (hb1.setCell (Nat.le_refl _) _).setCell (Nat.le_refl _) _, by simp; omega⟩
        by_cases e : j = k
        · subst e
          dsimp only
          rw [if_pos rfl]
          exact ownsRow_setCell_below (ownsRow_setCell_below (own_mono o1 (by omega)) (by simp) _) (by simp) _
        · dsimp only
          rw [if_neg e]
          exact ownsRow_setCell_below (ownsRow_setCell_below (own_below (HA.out j (by omega)) b1 (Nat.le_refl _)) (by simp) _) (by simp) _
      case measure => simp [intOf]; omega
    · obtain rfl : k = n := by omega
      go_wp2
      go_ret
      exact ⟨rfl, ⟨G, hrow, HA.out⟩, hb⟩

set_option maxHeartbeats 2000000 in
theorem toProfile (m : Int) (A : Option Addr) (n c : Nat) (vs : List (List Int × Int)) (w : World) (h : Votes w A n vs) (hn : (n : Int) ≤ 1048576) (hm : ∀ j, j < n → (rl vs j : Int) ≤ 1048576) :
    Calls Tryd.prog 6 #[.agg #[.int .i64 m, .slice A n c]] w fun e w' => ∃ g, e = .returned (.agg #[.int .i64 m, .slice (some ⟨g, 0, none⟩) n n]) ∧ w.heap.size ≤ g ∧ (∃ G : Nat → Nat, w'.rowIs g 38 (n * 2) (vcell vs G n) ∧ ∀ j, j < n → w'.ownsRow (g + 1) 3 1 (.slice (some ⟨G j, 0, none⟩) (rl vs j) (rl vs j)) (rl vs j) (iv (rk vs j))) ∧ Below w.heap.size w w' := by
  have bl : Below w.heap.size w (((w.alloc (.cells #[.int .i64 m, .slice A n c] 24)).alloc (.cells #[.int .i64 0, .slice none 0 0] 29)).alloc (.cells #[.int .i64 0, .slice none 0 0] 29)) := (((Below.refl _ _).alloc (Nat.le_refl _) _).alloc (by simp) _).alloc (by simp; omega) _
  have bl2 : Below w.heap.size w (((w.alloc (.cells #[.int .i64 m, .slice A n c] 24)).alloc (.cells #[.int .i64 0, .slice none 0 0] 29)).alloc (.cells #[.int .i64 m, .slice none 0 0] 29)) := (((Below.refl _ _).alloc (Nat.le_refl _) _).alloc (by simp) _).alloc (by simp; omega) _
  go_enter Tryd.func6, Tryd.ntmps6
  go_wp2_with fail
  refine (toVoteS A n c vs _ (h.on bl2) hn hm).mono ?_; rintro e w1 ⟨rfl, ⟨G, hrow, hall⟩, b1⟩
  have s1 : w.heap.size + 3 ≤ w1.heap.size := by have := b1.size; simp at this; omega
  have r0 : w1.cell? ⟨w.heap.size + 1, 0, none⟩ = some (.int .i64 0) := (b1.cell (p := ⟨w.heap.size + 1, 0, none⟩) (by simp)).trans (by simp [go_sem])
  have r1 : w1.cell? ⟨w.heap.size + 1, 1, none⟩ = some (.slice none 0 0) := (b1.cell (p := ⟨w.heap.size + 1, 1, none⟩) (by simp)).trans (by simp [go_sem])
  have t0 : w1.cell? ⟨w.heap.size + 1 + 1, 0, none⟩ = some (.int .i64 m) := (b1.cell (p := ⟨w.heap.size + 1 + 1, 0, none⟩) (by simp)).trans (by simp [go_sem])
  have t1 : w1.cell? ⟨w.heap.size + 1 + 1, 1, none⟩ = some (.slice none 0 0) := (b1.cell (p := ⟨w.heap.size + 1 + 1, 1, none⟩) (by simp)).trans (by simp [go_sem])
  have f0 : w1.frozen? ⟨w.heap.size + 1, 0, none⟩ = false := (b1.frozen (p := ⟨w.heap.size + 1, 0, none⟩) (by simp)).trans (by simp [go_sem])
  have f1 : w1.frozen? ⟨w.heap.size + 1, 1, none⟩ = false := (b1.frozen (p := ⟨w.heap.size + 1, 1, none⟩) (by simp)).trans (by simp [go_sem])
  have z0 : w1.frozen? ⟨w.heap.size + 1 + 1, 0, none⟩ = false := (b1.frozen (p := ⟨w.heap.size + 1 + 1, 0, none⟩) (by simp)).trans (by simp [go_sem])
  have z1 : w1.frozen? ⟨w.heap.size + 1 + 1, 1, none⟩ = false := (b1.frozen (p := ⟨w.heap.size + 1 + 1, 1, none⟩) (by simp)).trans (by simp [go_sem])
  have bl1 := Below.on bl2 b1
  have hrow' : w1.rowIs (w.heap.size + 1 + 1 + 1) 38 (n * 2) (vcell vs G n) := by simpa using hrow
  have hall' : ∀ j, j < n → w1.ownsRow (w.heap.size + 1 + 1 + 1 + 1) 3 1 (.slice (some ⟨G j, 0, none⟩) (rl vs j) (rl vs j)) (rl vs j) (iv (rk vs j)) := by simpa using hall
  have HR := Lib.hid hrow'
  have HA := Lib.hid hall'
  clear hrow hall hrow' hall'
  go_wp2_with fail
  refine bodyPost_ret (v := .agg #[.int .i64 m, .slice (some ⟨w.heap.size + 1 + 1 + 1, 0, none⟩) n n]) (by simp [results, Tryd.results6, go_sem, r0, r1]) rfl ⟨_, rfl, by omega, ⟨G, ?_, fun j hj => ?_⟩, ?_⟩
  · refine (((HR.out.setOther ?_ _).setOther ?_ _).setOther ?_ _)
    all_goals (simp; try omega)
  · refine ownsRow_setCell_below (ownsRow_setCell_below (ownsRow_setCell_below (HA.out j hj) ?_ _) ?_ _) ?_ _
    all_goals (simp; try omega)
  · exact ((bl1.setCell (by simp; omega) _).setCell (by simp) _).setCell (by simp) _

/-! ### Equality -/
set_option maxHeartbeats 1000000 in
theorem eqVote (A B : Option Addr) (n c d : Nat) (xs : List Int) (q : Int) (w : World) (h : Ints w A n xs) (h' : Ints w B n xs) (hn : (n : Int) ≤ 1048576) :
    Calls Tryd.prog 32 #[.agg #[.slice A n c, .int .i64 q], .agg #[.slice B n d, .int .i64 q]] w fun e w' => e = .returned (.bool true) ∧ Below w.heap.size w w' := by
  have bl : Below w.heap.size w ((w.alloc (.cells #[.slice A n c, .int .i64 q] 38)).alloc (.cells #[.slice B n d, .int .i64 q] 38)) := ((Below.refl _ _).alloc (Nat.le_refl _) _).alloc (by simp) _
  have hne : (q != q) = false := by simp
  go_enter Tryd.func32, Tryd.ntmps32
  go_wp2_with fail
  refine (eqIntS A B n c d xs _ (h.on bl) (h'.on bl) hn).mono ?_; rintro e w1 ⟨rfl, b1⟩
  have k0 : w1.cell? ⟨w.heap.size, 1, none⟩ = some (.int .i64 q) := (b1.cell (p := ⟨w.heap.size, 1, none⟩) (by simp; omega)).trans (by simp [go_sem])
  have k1 : w1.cell? ⟨w.heap.size + 1, 1, none⟩ = some (.int .i64 q) := (b1.cell (p := ⟨w.heap.size + 1, 1, none⟩) (by simp)).trans (by simp [go_sem])
  have bl1 := Below.on bl b1
  go_wp2_with fail
  go_ret
  exact ⟨rfl, bl1⟩

attribute [local go_sem ↓] Go.wp_at_zero Go.wp_at_succ
set_option maxHeartbeats 4000000 in
theorem eqVoteS (A B : Option Addr) (n c d : Nat) (vs : List (List Int × Int)) (w : World) (h : Votes w A n vs) (h' : Votes w B n vs) (hn : (n : Int) ≤ 1048576) (hm : ∀ j, j < n → (rl vs j : Int) ≤ 1048576) :
    Calls Tryd.prog 19 #[.slice A n c, .slice B n d] w fun e w' => e = .returned (.bool true) ∧ Below w.heap.size w w' := by
  have hne : ((n : Int) != (n : Int)) = false := by simp
  have HM := Lib.hid hm; clear hm
  go_enter Tryd.func19, Tryd.ntmps19
  go_wp2
  go_loopw [5] (fun u wr => ∃ k : Nat, (k : Int) ≤ n ∧ u = .int .i64 k ∧ Below w.heap.size w wr) (fun u _ => n - (intOf u).toNat)
  case atStart => exact ⟨0, by omega, rfl, Below.refl _ _⟩
  case round =>
    obtain ⟨k, hk, rfl, hb⟩ := hrel
    by_cases hlt : (k : Int) < n
    · obtain ⟨b, ob, rfl, hbs, ⟨P, e, q1, q2, q3, q4, q5⟩⟩ := (h.on hb).at_ (k := k) (by omega)
      obtain ⟨b', ob', rfl, hbs', ⟨P', e', q1', q2', q3', q4', q5'⟩⟩ := (h'.on hb).at_ (k := k) (by omega)
      have hlb := HM.out k (by omega)
      have bd := Below.drew (Below.refl wr.heap.size wr)
      go_wp2_with fail
      go_region_with (go_at_call 32; refine (eqVote P P' (rl vs k) e e' (rk vs k) (ct vs k) _ (q4.on bd) (q4'.on bd) hlb).mono ?_; rintro e w1 ⟨rfl, b1⟩; have hb1 := Below.on hb (bd.trans b1))
      all_goals (
        go_simp
        go_wp2
        go_roundw
        case rel => first | exact ⟨k + 1, by omega, by go_num, hb1⟩ | exact ⟨k + 1, by omega, by go_num, hb1.drew⟩
        case measure => simp [intOf]; omega)
    · go_wp2
      go_ret
      exact ⟨rfl, hb⟩

set_option maxHeartbeats 1000000 in
theorem eqProfile (m : Int) (A B : Option Addr) (n c d : Nat) (vs : List (List Int × Int)) (w : World) (h : Votes w A n vs) (h' : Votes w B n vs) (hn : (n : Int) ≤ 1048576) (hm : ∀ j, j < n → (rl vs j : Int) ≤ 1048576) :
    Calls Tryd.prog 8 #[.agg #[.int .i64 m, .slice A n c], .agg #[.int .i64 m, .slice B n d]] w fun e w' => e = .returned (.bool true) ∧ Below w.heap.size w w' := by
  have bl : Below w.heap.size w ((w.alloc (.cells #[.int .i64 m, .slice A n c] 29)).alloc (.cells #[.int .i64 m, .slice B n d] 29)) := ((Below.refl _ _).alloc (Nat.le_refl _) _).alloc (by simp) _
  have hne : (m != m) = false := by simp
  go_enter Tryd.func8, Tryd.ntmps8
  go_wp2_with fail
  refine (eqVoteS A B n c d vs _ (h.on bl) (h'.on bl) hn hm).mono ?_; rintro e w1 ⟨rfl, b1⟩
  have bl1 := Below.on bl b1
  go_wp2_with fail
  go_ret
  exact ⟨rfl, bl1⟩
end Go.Proofs.YtkofjdddmpebmaaDoor
