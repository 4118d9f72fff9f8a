/- Profiles: what the laws' own helpers compute: their size, a copy, equality. -/
import Derived.Test.YtkofjdddmpebmaaGreatDoorInts
import Derived.Test.YtkofjdddmpebmaaGreatDoorVotes
import Derived.Test.YtkofjdddmpebmaaGreatDoorPlainRank
import Derived.Deep.RegionWith
import Derived.Deep.DeepCutAuto
import Derived.Deep.DrawnRows
namespace Go.Proofs.YtkofjdddmpebmaaGreatDoor
open Go.RowKit

/-- Behind a call that leaves all that was there: old cells and marks read as before. -/
theorem bcell {W w1 : World} (hb : Below W.heap.size W w1) : (∀ b o, b < W.heap.size → w1.cell? ⟨b, o, none⟩ = W.cell? ⟨b, o, none⟩) ∧ (∀ b o, b < W.heap.size → w1.frozen? ⟨b, o, none⟩ = W.frozen? ⟨b, o, none⟩) :=
  ⟨fun b o h => hb.cell (p := ⟨b, o, none⟩) h, fun b o h => hb.frozen (p := ⟨b, o, none⟩) h⟩
theorem infoVote : (Tryz.prog.info? 36).map (fun i => (i.zero, i.size, i.bytes)) = some (some (.agg #[.slice none 0 0, .int .i64 0]), 2, 32) := by kernel_rfl
theorem maxLen_eq : maxLen = 9223372036854775807 := rfl

/-! ### Sizes -/
/-! ### A copy -/
/-- The cells of a copy of votes, made up to k. -/
def vcell (vs : List (List Int × Int)) (G : Nat → Nat) (k i : Nat) : Value :=
  if i < 2 * k then (if i % 2 = 0 then .slice (some ⟨G (i / 2), 0, none⟩) (rl vs (i / 2)) (rl vs (i / 2)) else .int .i64 (ct vs (i / 2))) else (if i % 2 = 0 then .slice none 0 0 else .int .i64 0)
theorem vcell_set (vs : List (List Int × Int)) (G : Nat → Nat) (k g i : Nat) :
    (if i = k * 2 + 1 then Value.int .i64 (ct vs k) else if i = k * 2 then Value.slice (some ⟨g, 0, none⟩) (rl vs k) (rl vs k) else vcell vs G k i) = vcell vs (fun j => if j = k then g else G j) (k + 1) i := by
  simp only [vcell]
  repeat' split
  all_goals first
    | rfl
    | (exfalso; omega)
    | rw [show i / 2 = k by omega]
theorem votes_of_row {w : World} {g base n : Nat} {e T : TypeId} {vs : List (List Int × Int)} {G : Nat → Nat} (h : w.rowIs g e (n * 2) (vcell vs G n)) (hl : vs.length = n) (hm : ∀ j, j < n → (rl vs j : Int) ≤ 1048576)
    (ho : ∀ j, j < n → w.ownsRow base T 1 (.slice (some ⟨G j, 0, none⟩) (rl vs j) (rl vs j)) (rl vs j) (iv (rk vs j))) : Votes w (some ⟨g, 0, none⟩) n vs := by
  refine ⟨hl, fun hn => ⟨g, 0, rfl, h.lt, fun j hj => ⟨some ⟨G j, 0, none⟩, rl vs j, ?_, Nat.le_refl _, ?_, Ints.of_own (ho j hj), ?_⟩⟩⟩
  · rw [Nat.zero_add, h.cell (by omega), vcell, if_pos (by omega), if_pos (by omega), show j * 2 / 2 = j by omega]
  · have := hm j hj
    simp only [maxLen]; omega
  · rw [Nat.zero_add, h.cell (by omega), vcell, if_pos (by omega), if_neg (by omega), show (j * 2 + 1) / 2 = j by omega]

/-! ### Equality -/
set_option maxHeartbeats 1000000 in
theorem eqVote (A B : Option Addr) (n c d : Nat) (xs : List Int) (q : Int) (w : World) (h : Ints w A n xs) (h' : Ints w B n xs) (hn : (n : Int) ≤ 1048576) :
    Calls Tryz.prog 38 #[.agg #[.slice A n c, .int .i64 q], .agg #[.slice B n d, .int .i64 q]] w fun e w' => e = .returned (.bool true) ∧ Below w.heap.size w w' := by
  have bl : Below w.heap.size w ((w.alloc (.cells #[.slice A n c, .int .i64 q] 36)).alloc (.cells #[.slice B n d, .int .i64 q] 36)) := ((Below.refl _ _).alloc (Nat.le_refl _) _).alloc (by simp) _
  have hne : (q != q) = false := by simp
  go_enter Tryz.func38, Tryz.ntmps38
  go_wp2_with fail
  refine (eqIntS A B n c d xs _ (h.on bl) (h'.on bl) hn).mono ?_; rintro e w1 ⟨rfl, b1⟩
  have k0 : w1.cell? ⟨w.heap.size, 1, none⟩ = some (.int .i64 q) := (b1.cell (p := ⟨w.heap.size, 1, none⟩) (by simp; omega)).trans (by simp [go_sem])
  have k1 : w1.cell? ⟨w.heap.size + 1, 1, none⟩ = some (.int .i64 q) := (b1.cell (p := ⟨w.heap.size + 1, 1, none⟩) (by simp)).trans (by simp [go_sem])
  have bl1 := Below.on bl b1
  go_wp2_with fail
  go_ret
  exact ⟨rfl, bl1⟩

attribute [local go_sem ↓] Go.wp_at_zero Go.wp_at_succ
set_option maxHeartbeats 4000000 in
theorem eqVoteS (A B : Option Addr) (n c d : Nat) (vs : List (List Int × Int)) (w : World) (h : Votes w A n vs) (h' : Votes w B n vs) (hn : (n : Int) ≤ 1048576) (hm : ∀ j, j < n → (rl vs j : Int) ≤ 1048576) :
    Calls Tryz.prog 20 #[.slice A n c, .slice B n d] w fun e w' => e = .returned (.bool true) ∧ Below w.heap.size w w' := by
  have hne : ((n : Int) != (n : Int)) = false := by simp
  have HM := Lib.hid hm; clear hm
  go_enter Tryz.func20, Tryz.ntmps20
  go_wp2
  go_loopw [5] (fun u wr => ∃ k : Nat, (k : Int) ≤ n ∧ u = .int .i64 k ∧ Below w.heap.size w wr) (fun u _ => n - (intOf u).toNat)
  case atStart => exact ⟨0, by omega, rfl, Below.refl _ _⟩
  case round =>
    obtain ⟨k, hk, rfl, hb⟩ := hrel
    by_cases hlt : (k : Int) < n
    · obtain ⟨b, ob, rfl, hbs, ⟨P, e, q1, q2, q3, q4, q5⟩⟩ := (h.on hb).at_ (k := k) (by omega)
      obtain ⟨b', ob', rfl, hbs', ⟨P', e', q1', q2', q3', q4', q5'⟩⟩ := (h'.on hb).at_ (k := k) (by omega)
      have hlb := HM.out k (by omega)
      have bd := Below.drew (Below.refl wr.heap.size wr)
      go_wp2_with fail
      go_region_with (go_at_call 38; refine (eqVote P P' (rl vs k) e e' (rk vs k) (ct vs k) _ (q4.on bd) (q4'.on bd) hlb).mono ?_; rintro e w1 ⟨rfl, b1⟩; have hb1 := Below.on hb (bd.trans b1))
      all_goals (
        go_simp
        go_wp2
        go_roundw
        case rel => first | exact ⟨k + 1, by omega, by go_num, hb1⟩ | exact ⟨k + 1, by omega, by go_num, hb1.drew⟩
        case measure => simp [intOf]; omega)
    · go_wp2
      go_ret
      exact ⟨rfl, hb⟩

set_option maxHeartbeats 1000000 in
theorem eqProfile (m : Int) (A B : Option Addr) (n c d : Nat) (vs : List (List Int × Int)) (w : World) (h : Votes w A n vs) (h' : Votes w B n vs) (hn : (n : Int) ≤ 1048576) (hm : ∀ j, j < n → (rl vs j : Int) ≤ 1048576) :
    Calls Tryz.prog 6 #[.agg #[.int .i64 m, .slice A n c], .agg #[.int .i64 m, .slice B n d]] w fun e w' => e = .returned (.bool true) ∧ Below w.heap.size w w' := by
  have bl : Below w.heap.size w ((w.alloc (.cells #[.int .i64 m, .slice A n c] 24)).alloc (.cells #[.int .i64 m, .slice B n d] 24)) := ((Below.refl _ _).alloc (Nat.le_refl _) _).alloc (by simp) _
  have hne : (m != m) = false := by simp
  go_enter Tryz.func6, Tryz.ntmps6
  go_wp2_with fail
  refine (eqVoteS A B n c d vs _ (h.on bl) (h'.on bl) hn hm).mono ?_; rintro e w1 ⟨rfl, b1⟩
  have bl1 := Below.on bl b1
  go_wp2_with fail
  go_ret
  exact ⟨rfl, bl1⟩
end Go.Proofs.YtkofjdddmpebmaaGreatDoor
