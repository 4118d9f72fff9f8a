/- Slices of structs of two numbers: what the laws' own helpers compute: a copy, equality. -/
import Derived.Test.YtadacfammhianaaInts
import Derived.Test.YtadacfammhianaaPairs
import Derived.Deep.RegionWith
import Derived.Deep.DeepCutAuto
import Derived.Deep.DrawnRows
namespace Go.Proofs.Ytadacfammhianaa
open Go.RowKit
theorem infoFracs : (Try.prog.info? 35).map (fun i => (i.zero, i.size, i.bytes)) = some (some (.agg #[.int .i64 0, .int .i64 0]), 2, 16) := by kernel_rfl

set_option maxHeartbeats 1000000 in
theorem toFraction (x y : Int) (w : World) :
    Calls Try.prog 40 #[.agg #[.int .i64 x, .int .i64 y]] w fun e w' => e = .returned (.agg #[.int .i64 x, .int .i64 y]) ∧ Below w.heap.size w w' := by
  have bl := (((Below.refl w.heap.size w).alloc (Nat.le_refl _) (.cells #[.int .i64 x, .int .i64 y] 55)).alloc (by simp) (.cells #[.int .i64 0, .int .i64 0] 35)).alloc (by simp; omega) (.cells #[.int .i64 0, .int .i64 0] 35)
  go_enter Try.func40, Try.ntmps40
  go_wp2
  refine bodyPost_ret (v := .agg #[.int .i64 x, .int .i64 y]) (by simp [results, Try.results40, go_sem]) rfl ⟨rfl, ?_⟩
  first
    | exact bl
    | exact (bl.setCell (by simp; omega) _).setCell (by simp; omega) _
    | exact (((bl.setCell (by simp; omega) _).setCell (by simp; omega) _).setCell (by simp; omega) _).setCell (by simp; omega) _
    | exact ((((Below.refl w.heap.size w).alloc (Nat.le_refl _) _).alloc (by simp) _).alloc (by simp; omega) _)

set_option maxHeartbeats 2000000 in
theorem toFractionS (A : Option Addr) (n c : Nat) (ps : List (Int × Int)) (w : World) (h : Pairs w A n ps) (hn : (n : Int) ≤ 1048576) :
    Calls Try.prog 22 #[.slice A n c] w fun e w' => e = .returned (.slice (some ⟨w.heap.size, 0, none⟩) n n) ∧ w'.rowIs w.heap.size 35 (n * 2) (pcell ps n) ∧ Below w.heap.size w w' := by
  obtain ⟨i0, hi, hz0, hz1, hz2⟩ := info_parts infoFracs
  have hmk : ∀ w : World, (Instr.makeSlice 38 (.int .i64 (n : Int)) (.int .i64 (n : Int))).run Try.prog w = .ok (.slice (some ⟨w.heap.size, 0, none⟩) n n) (w.alloc (.cells (madeCells #[.int .i64 0, .int .i64 0] (n * 2)) 35)) := fun w => by
    have := run_make (P := Try.prog) w 38 35 i0 _ Try.underlying38 hi hz0 .i64 .i64 (n : Int) (n : Int) (by omega) (Int.le_refl _) (by rw [hz2]; omega) (by omega)
    rw [hz1] at this
    simpa [Value.cells] using this
  clear hi hz0 hz1 hz2
  go_enter Try.func22, Try.ntmps22
  go_wp2
  have HM := Lib.hid hmk; clear hmk
  have hst : (w.alloc (.cells (madeCells #[.int .i64 0, .int .i64 0] (n * 2)) 35)).rowIs w.heap.size 35 (n * 2) (pcell ps 0) :=
    ⟨_, heap_alloc_new w _, size_madeCells _ _, fun i hi => by
      have : i % 2 = 0 ∨ i % 2 = 1 := by omega
      rcases this with e | e <;> simp [madeCells, hi, pcell, e]⟩
  have hbl : Below w.heap.size w (w.alloc (.cells (madeCells #[.int .i64 0, .int .i64 0] (n * 2)) 35)) := (Below.refl _ _).alloc (Nat.le_refl _) _
  have hsW : w.heap.size + 1 ≤ (w.alloc (.cells (madeCells #[.int .i64 0, .int .i64 0] (n * 2)) 35)).heap.size := by simp
  generalize w.alloc (.cells (madeCells #[.int .i64 0, .int .i64 0] (n * 2)) 35) = W at *
  go_loopw [4] (fun u wr => ∃ k : Nat, (k : Int) ≤ n ∧ u = .int .i64 k ∧ wr.rowIs w.heap.size 35 (n * 2) (pcell ps k) ∧ Below w.heap.size w wr ∧ w.heap.size + 1 ≤ wr.heap.size) (fun u _ => n - (intOf u).toNat)
  case atStart => exact ⟨0, by omega, rfl, hst, hbl, hsW⟩
  case round =>
    obtain ⟨k, hk, rfl, hrow, hb, hsz⟩ := hrel
    by_cases hlt : (k : Int) < n
    · obtain ⟨b, o, rfl, hbs, q1, q2⟩ := (h.on hb).at_ (k := k) (by omega)
      go_wp2_with fail
      refine (toFraction (p1 ps k) (p2 ps k) _).mono ?_; rintro e w1 ⟨rfl, b1⟩
      have hrow1 := hrow.of_block (b1.block w.heap.size (by omega))
      have c0 := hrow1.cell (i := k * 2) (by omega)
      have c1 := hrow1.cell (i := k * 2 + 1) (by omega)
      have f0 := hrow1.frozen (k * 2)
      have f1 := hrow1.frozen (k * 2 + 1)
      have hb1 := Below.on hb b1
      have hs1 := b1.size
      go_wp2_with fail
      go_roundw
      case rel =>
        exact ⟨k + 1, by omega, by go_num, ((hrow1.set (k * 2) _).set (k * 2 + 1) _).congr fun i _ => pcell_set ps k i, (hb1.setCell (Nat.le_refl _) _).setCell (Nat.le_refl _) _, by simp; omega⟩
      case measure => simp [intOf]; omega
    · obtain rfl : k = n := by omega
      go_wp2
      go_ret
      exact ⟨rfl, hrow, hb⟩

set_option maxHeartbeats 1000000 in
theorem eqFraction (x y : Int) (w : World) :
    Calls Try.prog 24 #[.agg #[.int .i64 x, .int .i64 y], .agg #[.int .i64 x, .int .i64 y]] w fun e w' => e = .returned (.bool true) ∧ Below w.heap.size w w' := by
  have bl : Below w.heap.size w ((w.alloc (.cells #[.int .i64 x, .int .i64 y] 35)).alloc (.cells #[.int .i64 x, .int .i64 y] 35)) := ((Below.refl _ _).alloc (Nat.le_refl _) _).alloc (by simp) _
  have h1 : (x != x) = false := by simp
  have h2 : (y != y) = false := by simp
  go_enter Try.func24, Try.ntmps24
  go_wp2
  go_ret
  exact ⟨rfl, bl⟩

attribute [local go_sem ↓] Go.wp_at_zero Go.wp_at_succ
set_option maxHeartbeats 4000000 in
theorem eqFractionS (A B : Option Addr) (n c d : Nat) (ps : List (Int × Int)) (w : World) (h : Pairs w A n ps) (h' : Pairs w B n ps) (hn : (n : Int) ≤ 1048576) :
    Calls Try.prog 25 #[.slice A n c, .slice B n d] w fun e w' => e = .returned (.bool true) ∧ Below w.heap.size w w' := by
  have hne : ((n : Int) != (n : Int)) = false := by simp
  go_enter Try.func25, Try.ntmps25
  go_wp2
  go_loopw [5] (fun u wr => ∃ k : Nat, (k : Int) ≤ n ∧ u = .int .i64 k ∧ Below w.heap.size w wr) (fun u _ => n - (intOf u).toNat)
  case atStart => exact ⟨0, by omega, rfl, Below.refl _ _⟩
  case round =>
    obtain ⟨k, hk, rfl, hb⟩ := hrel
    by_cases hlt : (k : Int) < n
    · obtain ⟨b, ob, rfl, hbs, q1, q2⟩ := (h.on hb).at_ (k := k) (by omega)
      obtain ⟨b', ob', rfl, hbs', q1', q2'⟩ := (h'.on hb).at_ (k := k) (by omega)
      have bd := Below.drew (Below.refl wr.heap.size wr)
      go_wp2_with fail
      go_region_with (go_at_call 24; refine (eqFraction (p1 ps k) (p2 ps k) _).mono ?_; rintro e w1 ⟨rfl, b1⟩; have hb1 := Below.on hb (bd.trans b1))
      all_goals (
        go_simp
        go_wp2
        go_roundw
        case rel => first | exact ⟨k + 1, by omega, by go_num, hb1⟩ | exact ⟨k + 1, by omega, by go_num, hb1.drew⟩
        case measure => simp [intOf]; omega)
    · go_wp2
      go_ret
      exact ⟨rfl, hb⟩
end Go.Proofs.Ytadacfammhianaa
