/- slices.Grow at nil and slices.Concat of two lists. -/
import Derived.Test.YtaclpilehlednaaHeads
import Derived.Lib.AppendZerosOnto
import Derived.Lib.Walk
namespace Go.Proofs.Ytaclpilehlednaa
open Go.RowKit
set_option maxRecDepth 100000

/-- An own row of which nothing is used yet. -/
theorem own_room {w : World} {base g cap : Nat} {cur : Array Value} (hb : base ≤ g) (hh : w.heap[g]? = some (.cells cur 3 (0, 0))) (hm : cap ≤ maxLen) (hs : cur.size = cap) : Own w base (some ⟨g, 0, none⟩) 0 cap [] :=
  ⟨rfl, .inr ⟨g, cap, cur, rfl, hb, hh, Nat.zero_le _, hm, by omega, by simp [iv]⟩⟩

set_option maxHeartbeats 2000000 in
theorem libGrowNil (n : Nat) (w : World) (hn : (n : Int) ≤ 1048576) :
    Calls Try.prog 106 #[.slice none 0 0, .int .i64 (n : Int)] w fun e w' => ∃ A c, e = .returned (.slice A 0 c) ∧ Own w' w.heap.size A 0 c [] ∧ Below w.heap.size w w' := by
  by_cases h0 : n = 0
  · subst h0
    go_enter Try.func106, Try.ntmps106
    go_wp2
    go_ret
    exact ⟨none, 0, rfl, own_nil _ _, Below.refl _ _⟩
  · obtain ⟨i0, hi, hz0, hz1, hz2⟩ := info_parts infoInt
    have hold : (Builtin.firstCells i0.size 0 (.slice none 0 0)).run Try.prog w.drew = .ok ([] : List Value).toArray w.drew := run_firstCells_none w.drew i0.size 0 0 0
    have hrz : ∀ ty, (Builtin.append_ #[22, 3] ty #[.slice none 0 0, .int .i64 (n : Int)]).run Try.prog w = .ok (.slice (some ⟨w.heap.size, 0, none⟩) n (grownCap w n 0 3)) (w.drew.alloc (.cells (([] : List Value).toArray ++ Builtin.zeroCells (Value.int .i64 0).cells n ++ Builtin.zeroCells (Value.int .i64 0).cells (grownCap w n 0 3 - n)) 3)) := fun ty => by
      have h := Lib.run_append_grow_zeros w 22 3 ty 3 i0 (.int .i64 0) .i64 .i64 Try.underlying22 Try.underlying3 hi hz0 none 0 0 [] hold n (by omega) (by omega) (by omega) (by omega) (by rw [hz2]; omega)
        (by rw [Nat.zero_add, nextslicecap_zero (by omega), hz2]; omega)
      rw [Nat.zero_add] at h
      exact h
    have hG := grownCap_ge w n 0 3
    have hM := grownCap_le_maxLen w n 0 3 (by unfold maxLen; omega)
    have hS : (([] : List Value).toArray ++ Builtin.zeroCells (Value.int .i64 0).cells n ++ Builtin.zeroCells (Value.int .i64 0).cells (grownCap w n 0 3 - n)).size = grownCap w n 0 3 := by
      simp [Array.size_append, size_zeroCells, Value.cells]
      omega
    generalize ([] : List Value).toArray ++ Builtin.zeroCells (Value.int .i64 0).cells n ++ Builtin.zeroCells (Value.int .i64 0).cells (grownCap w n 0 3 - n) = cur at *
    generalize grownCap w n 0 3 = GC at *
    have hp : 0 < n := by omega
    have hp2 : (0 : Int) < n := by omega
    have hg1 : (n : Int) ≤ GC := by omega
    have HS := Lib.hid hS
    have HM := Lib.hid hM
    clear hS hM hold
    go_enter Try.func106, Try.ntmps106
    go_wp2_with (at_builtin; refine Lib.wpList_append_run _ rfl _ _ _ _ rfl _ _ rfl rfl _ _ (hrz _) ?_)
    go_ret
    refine ⟨some ⟨w.heap.size, 0, none⟩, GC, rfl, own_room (Nat.le_refl _) (heap_alloc_new w.drew _) HM.out HS.out, (Below.refl _ _).drew.alloc (by simp) _⟩

set_option maxHeartbeats 2000000 in
theorem libConcat (g : Nat) (A B : Option Addr) (n c m d : Nat) (xs ys : List Int) (w : World) (c0 : w.cell? ⟨g, 0, none⟩ = some (.slice A n c)) (c1 : w.cell? ⟨g, 1, none⟩ = some (.slice B m d)) (h : Ints w A n xs) (h' : Ints w B m ys) (hn : (n : Int) ≤ 1000) (hm : (m : Int) ≤ 1000) (hg : g < w.heap.size) :
    Calls Try.prog 88 #[.slice (some ⟨g, 0, none⟩) 2 2] w fun e w' => ∃ A' c', e = .returned (.slice A' (n + m) c') ∧ Own w' w.heap.size A' (n + m) c' (xs ++ ys) ∧ Below w.heap.size w w' := by
  go_enter Try.func88, Try.ntmps88
  go_wp2_with fail
  go_loop [3, 11] (fun u v => (u = .int .i64 0 ∧ v = .int .i64 0) ∨ (u = .int .i64 (n : Int) ∧ v = .int .i64 1) ∨ (u = .int .i64 ((n + m : Nat) : Int) ∧ v = .int .i64 2)) (fun _ v => 2 - (intOf v).toNat)
  case atStart => exact .inl ⟨rfl, rfl⟩
  case round =>
    rcases hrel with ⟨rfl, rfl⟩ | ⟨rfl, rfl⟩ | ⟨rfl, rfl⟩
    · go_wp2
      go_round
      case rel => exact .inr (.inl ⟨by first | rfl | simp, by first | rfl | simp⟩)
      case measure => simp [intOf]
    · go_wp2
      go_round
      case rel => exact .inr (.inr ⟨by first | rfl | simp, by first | rfl | simp⟩)
      case measure => simp [intOf]
    · go_wp2_with fail
      refine (libGrowNil (n + m) _ (by omega)).mono ?_; rintro e w1 ⟨A1, c1', rfl, o1, b1⟩
      have d0 := (b1.cell (p := ⟨g, 0, none⟩) hg).trans c0
      have d1 := (b1.cell (p := ⟨g, 1, none⟩) hg).trans c1
      have k1 := h.on b1
      have k2 := h'.on b1
      go_wp2_with fail
      go_loopw [6, 27] (fun u v wr => ∃ (A' : Option Addr) (c' : Nat), ((u = .slice A' 0 c' ∧ v = .int .i64 0 ∧ Own wr w.heap.size A' 0 c' []) ∨ (u = .slice A' n c' ∧ v = .int .i64 1 ∧ Own wr w.heap.size A' n c' xs) ∨ (u = .slice A' (n + m) c' ∧ v = .int .i64 2 ∧ Own wr w.heap.size A' (n + m) c' (xs ++ ys))) ∧ Below w.heap.size w wr) (fun _ v _ => 2 - (intOf v).toNat)
      case atStart => exact ⟨A1, c1', .inl ⟨rfl, rfl, o1⟩, b1⟩
      case round =>
        obtain ⟨A', c', hst, hb⟩ := hrel
        have d0 := (hb.cell (p := ⟨g, 0, none⟩) hg).trans c0
        have d1 := (hb.cell (p := ⟨g, 1, none⟩) hg).trans c1
        have k1 := h.on hb
        have k2 := h'.on hb
        have hsz := hb.size
        rcases hst with ⟨rfl, rfl, hown⟩ | ⟨rfl, rfl, hown⟩ | ⟨rfl, rfl, hown⟩
        · go_wp2_with (first | (at_builtin; refine wpList_ap _ rfl _ _ rfl w.heap.size A' 0 c' [] rfl hown A n c xs rfl k1 (by omega) hsz ?_; intro A2 c2 w3 hown' hgr hblk))
          rw [Nat.zero_add, List.nil_append] at hown'
          go_roundw
          case rel => exact ⟨A2, c2, .inr (.inl ⟨by simp, by first | rfl | simp, hown'⟩), below_ap hb hown hgr hsz⟩
          case measure => simp [intOf]
        · go_wp2_with (first | (at_builtin; refine wpList_ap _ rfl _ _ rfl w.heap.size A' n c' xs rfl hown B m d ys rfl k2 (by omega) hsz ?_; intro A2 c2 w3 hown' hgr hblk))
          go_roundw
          case rel => exact ⟨A2, c2, .inr (.inr ⟨by simp, by first | rfl | simp, hown'⟩), below_ap hb hown hgr hsz⟩
          case measure => simp [intOf]
        · go_wp2
          go_ret
          exact ⟨A', c', rfl, hown, hb⟩

end Go.Proofs.Ytaclpilehlednaa
