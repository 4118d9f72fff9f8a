/- slices.SortStableFunc over at most five candidates, by falling scores. -/
import Derived.Test.YtaclpilehlednaaPlainOrd
import Derived.Deep.QuietTactic
import Derived.BigQuiet
namespace Go.Proofs.Ytaclpilehlednaa
open Go.RowKit
set_option maxRecDepth 100000

theorem grown_drewN' {a w : World} {row : Option Nat} (h : a.grownBy w row) (k : Nat) : a.grownBy (w.drewN k) row := ⟨h.os, h.tape, h.output, h.size, h.block⟩

set_option maxHeartbeats 1000000 in
theorem cmpScore (G : Option Addr) (q c P : Nat) (ss : List Int) (a b : Int) (w : World) (hp : w.cell? ⟨P, 0, none⟩ = some (.slice G q c)) (h : Ints w G q ss) (hs : ∀ j, 0 ≤ nth ss j ∧ nth ss j ≤ 100000000) (ha0 : 0 ≤ a) (ha1 : a < q) (hb0 : 0 ≤ b) (hb1 : b < q) :
    Calls Try.prog 83 #[.int .i64 a, .int .i64 b, .pointer (some ⟨P, 0, none⟩)] w fun e w' => e = .returned (.int .i64 (sv ss b - sv ss a)) ∧ ∃ m, w' = w.drewN m := by
  obtain ⟨x, rfl⟩ : ∃ x : Nat, a = (x : Int) := ⟨a.toNat, by omega⟩
  obtain ⟨y, rfl⟩ : ∃ y : Nat, b = (y : Int) := ⟨b.toNat, by omega⟩
  obtain ⟨g, o, rfl, hg, hx⟩ := h.at_ (k := x) (by omega)
  obtain ⟨g', o', he, hg', hy⟩ := h.at_ (k := y) (by omega)
  cases he
  have sx := hs x
  have sy := hs y
  have HF : Hid (sv ss (y : Int) - sv ss (x : Int) = nth ss y - nth ss x) := rfl
  rw [HF.out]
  have hw : IntKind.i64.wrap (nth ss y - nth ss x) = nth ss y - nth ss x := by rw [IntKind.wrap_i64]; omega
  go_enter Try.func83, Try.ntmps83
  go_wp2
  go_quiet (fail)
  go_wp2
  go_ret
  exact ⟨rfl, _, rfl⟩

theorem cmpScoreD (G : Option Addr) (q c P : Nat) (ss : List Int) (a b D : Int) (w : World) (hD : sv ss b - sv ss a = D) (hp : w.cell? ⟨P, 0, none⟩ = some (.slice G q c)) (h : Ints w G q ss) (hs : ∀ j, 0 ≤ nth ss j ∧ nth ss j ≤ 100000000) (ha0 : 0 ≤ a) (ha1 : a < q) (hb0 : 0 ≤ b) (hb1 : b < q) :
    Calls Try.prog 83 #[.int .i64 a, .int .i64 b, .pointer (some ⟨P, 0, none⟩)] w fun e w' => e = .returned (.int .i64 D) ∧ ∃ m, w' = w.drewN m := by
  rw [← hD]; exact cmpScore G q c P ss a b w hp h hs ha0 ha1 hb0 hb1

set_option maxHeartbeats 8000000 in
theorem libInsert (B g c : Nat) (m : Nat) (G : Option Addr) (cG P : Nat) (ss : List Int) (w : World) (hm1 : 1 ≤ (m : Int)) (hm5 : (m : Int) ≤ 5) (h : Own w B (some ⟨g, 0, none⟩) m c (upTo m)) (hp : w.cell? ⟨P, 0, none⟩ = some (.slice G m cG)) (hPB : P < B) (hg : Ints w G m ss) (hgB : In G m B) (hBw : B ≤ w.heap.size) (hs : ∀ j, 0 ≤ nth ss j ∧ nth ss j ≤ 100000000) :
    Calls Try.prog 112 #[.slice (some ⟨g, 0, none⟩) m c, .int .i64 0, .int .i64 (m : Int), .func (.func 83) #[] #[.pointer (some ⟨P, 0, none⟩)]] w fun e w' => e = .returned (.tuple #[]) ∧ Own w' B (some ⟨g, 0, none⟩) m c (ordO ss m) ∧ w.grownBy w' (some g) := by
  have HP := Lib.hid hp; clear hp
  have HS := Lib.hid hs; clear hs
  have hgb := (own_ge h _ rfl).1
  have hgs := (own_ge h _ rfl).2
  go_enter Try.func112, Try.ntmps112
  go_wp2
  go_loopw [8] (fun u wr => ∃ i : Nat, 1 ≤ i ∧ (i : Int) ≤ m ∧ u = .int .i64 i ∧ Own wr B (some ⟨g, 0, none⟩) m c (ordO ss i ++ (upTo m).drop i) ∧ w.grownBy wr (some g)) (fun u _ => m - (intOf u).toNat)
  case atStart => exact ⟨1, Nat.le_refl _, by omega, rfl, by rw [ordO_one ss (by omega)]; exact h, World.grownBy.refl _ _⟩
  case round =>
    obtain ⟨i, hi1, him, rfl, hown, hgr⟩ := hrel
    by_cases hlt : (i : Int) < m
    · obtain ⟨wo, rfl⟩ : ∃ wo : World, wo = wr := ⟨_, rfl⟩
      rw [dataO_start (by omega)] at hown
      go_wp2_with fail
      go_loopw [9] (fun u wi => ∃ j : Nat, j ≤ i ∧ u = .int .i64 j ∧ Own wi B (some ⟨g, 0, none⟩) m c (dataO ss m i j) ∧ (∀ t, j ≤ t → t < i → sv ss (nth (ordO ss i) t) < sv ss i) ∧ w.grownBy wi (some g)) (fun u _ => (intOf u).toNat)
      case atStart => exact ⟨i, Nat.le_refl _, rfl, hown, fun t h1 h2 => absurd h1 (by omega), hgr⟩
      case round =>
        obtain ⟨j, hj, rfl, ho, hcut, hgi⟩ := hrel
        obtain ⟨wi, rfl⟩ : ∃ wi : World, wi = wr := ⟨_, rfl⟩
        have HC := Lib.hid hcut; clear hcut
        have hE := Lib.hid (dataO_end (ss := ss) (m := m) (i := i) (j := j))
        have HL := Lib.hid (ordO_len ss i)
        have HD := Lib.hid (ordO_desc ss i)
        rcases j with _ | q
        · have hcz : Cut ss (ordO ss i) i 0 := ⟨Nat.zero_le _, fun t ht => absurd ht (by omega), fun t _ ht => HC.out t (by omega) (by rw [HL.out] at ht; exact ht)⟩
          have HF := Lib.hid (hE.out hcz); clear hcz
          have hz : decide ((0 : Int) < ((0 : Nat) : Int)) = false := by decide
          go_wp2_with fail
          go_quiet (fail)
          go_wp2_with fail
          go_roundw
          case rel => exact ⟨i + 1, by omega, by omega, by go_num, by rw [← HF.out]; exact own_drewN ho _, grown_drewN' hgi _⟩
          case measure => simp [intOf]; omega
        · have e1 := dataO_nth (ss := ss) (m := m) hj (by omega) (t := q + 1) hj
          have e2 := dataO_nth (ss := ss) (m := m) hj (by omega) (t := q) (by omega)
          rw [if_neg (by omega), if_pos rfl] at e1
          rw [if_pos (by omega)] at e2
          have q1 := own_cell ho (k := q + 1) (by omega)
          have q2 := own_cell ho (k := q) (by omega)
          rw [e1] at q1
          rw [e2] at q2
          have f1 := own_frozen ho (q + 1)
          have f2 := own_frozen ho q
          have hy := ordO_at ss i q (by omega)
          have hsw := dataO_swap (ss := ss) (m := m) (i := i) (q := q) (by omega) (by omega)
          rw [e1, e2] at hsw
          have HSW := Lib.hid hsw
          clear hsw e1 e2
          have hpw : wi.cell? ⟨P, 0, none⟩ = some (.slice G m cG) := (World.cell?_of_block (w := w) (a := ⟨P, 0, none⟩) (hgi.block P (by omega) (by intro e; injection e with e; omega))).trans HP.out
          have HPW := Lib.hid hpw; clear hpw
          have hgw : Ints wi G m ss := hg.grown hgi (fun hn a ha => by have := hgB hn a ha; intro e; injection e with e; omega)
          obtain ⟨y, hyy⟩ : ∃ y, y = nth (ordO ss i) q := ⟨_, rfl⟩
          rw [← hyy] at q2 hy HSW
          have HY := Lib.hid hyy; clear hyy
          obtain ⟨D, hD⟩ : ∃ D, sv ss y - sv ss (i : Int) = D := ⟨_, rfl⟩
          have HDD := Lib.hid hD
          have hz : decide ((0 : Int) < (q : Int) + 1) = true := decide_eq_true (by omega)
          have i0 : 0 ≤ (i : Int) := by omega
          have hym : y < m := by omega
          by_cases hneg : D < 0
          · go_wp2_with fail
            go_quiet ((go_at_call 83; exact Calls.quiet_of (cmpScoreD G m cG P ss i y D _ HDD.out HPW.out (hgw.drewN _) HS.out i0 hlt hy.1 hym)))
            go_wp2_with fail
            go_region
            go_wp2_with fail
            go_roundw
            case rel =>
              have s1 := own_store (own_drewN ho nq) (q + 1) y
              have s2 := own_store s1.1 q (i : Int)
              rw [HSW.out] at s2
              refine ⟨q, by omega, rfl, own_drew s2.1, fun t h1 h2 => ?_, grown_drew (grown_trans (grown_drewN' hgi _) (grown_trans s1.2 s2.2))⟩
              by_cases e : t = q
              · subst e; have := HDD.out; rw [HY.out] at this; omega
              · exact HC.out t (by omega) h2
            case measure => first | (simp [intOf]; done) | (simp [intOf]; omega)
          · go_wp2_with fail
            go_quiet ((go_at_call 83; exact Calls.quiet_of (cmpScoreD G m cG P ss i y D _ HDD.out HPW.out (hgw.drewN _) HS.out i0 hlt hy.1 hym)))
            have hcz : Cut ss (ordO ss i) i (q + 1) := ⟨by rw [HL.out]; omega, fun t ht => by have := HD.out t q (by omega) (by rw [HL.out]; omega); have := HDD.out; rw [HY.out] at this; omega, fun t h1 ht => HC.out t h1 (by rw [HL.out] at ht; exact ht)⟩
            have HF := Lib.hid (hE.out hcz); clear hcz
            go_wp2_with fail
            go_roundw
            case rel => exact ⟨i + 1, by omega, by omega, by go_num, by rw [← HF.out]; exact own_drewN ho _, grown_drewN' hgi _⟩
            case measure => simp [intOf]; omega
    · obtain rfl : i = m := by omega
      rw [ordO_all] at hown
      go_wp2
      go_end0
      exact ⟨rfl, hown, hgr⟩

set_option maxHeartbeats 2000000 in
theorem libStable (B g c : Nat) (m : Nat) (G : Option Addr) (cG P : Nat) (ss : List Int) (w : World) (hm1 : 1 ≤ (m : Int)) (hm5 : (m : Int) ≤ 5) (h : Own w B (some ⟨g, 0, none⟩) m c (upTo m)) (hp : w.cell? ⟨P, 0, none⟩ = some (.slice G m cG)) (hPB : P < B) (hg : Ints w G m ss) (hgB : In G m B) (hBw : B ≤ w.heap.size) (hs : ∀ j, 0 ≤ nth ss j ∧ nth ss j ≤ 100000000) :
    Calls Try.prog 100 #[.slice (some ⟨g, 0, none⟩) m c, .int .i64 (m : Int), .func (.func 83) #[] #[.pointer (some ⟨P, 0, none⟩)]] w fun e w' => e = .returned (.tuple #[]) ∧ Own w' B (some ⟨g, 0, none⟩) m c (ordO ss m) ∧ w.grownBy w' (some g) := by
  have HP := Lib.hid hp; clear hp
  have HS := Lib.hid hs; clear hs
  have hn20 : ¬ (20 : Int) ≤ m := by omega
  have hn21 : ¬ (20 : Int) < m := by omega
  go_enter Try.func100, Try.ntmps100
  go_wp2_with fail
  go_loopw [7, 8] (fun u v wr => u = .int .i64 0 ∧ v = .int .i64 20 ∧ w = wr) (fun _ _ _ => 0)
  case atStart => exact ⟨rfl, rfl, rfl⟩
  case round =>
    obtain ⟨rfl, rfl, rfl⟩ := hrel
    go_wp2_with fail
    refine (libInsert B g c m G cG P ss _ hm1 hm5 h HP.out hPB hg hgB hBw HS.out).mono ?_; rintro e w1 ⟨rfl, o1, g1⟩
    go_wp2_with fail
    go_loopw [6, 7, 8, 9] (fun u _ _ _ wr => u = .int .i64 20 ∧ w1 = wr) (fun _ _ _ _ _ => 0)
    case atStart => exact ⟨rfl, rfl⟩
    case round =>
      obtain ⟨rfl, rfl⟩ := hrel
      go_wp2_with fail
      go_end0
      exact ⟨rfl, o1, g1⟩

set_option maxHeartbeats 1000000 in
theorem libSortStable (B g c : Nat) (m : Nat) (G : Option Addr) (cG P : Nat) (ss : List Int) (w : World) (hm1 : 1 ≤ (m : Int)) (hm5 : (m : Int) ≤ 5) (h : Own w B (some ⟨g, 0, none⟩) m c (upTo m)) (hp : w.cell? ⟨P, 0, none⟩ = some (.slice G m cG)) (hPB : P < B) (hg : Ints w G m ss) (hgB : In G m B) (hBw : B ≤ w.heap.size) (hs : ∀ j, 0 ≤ nth ss j ∧ nth ss j ≤ 100000000) :
    Calls Try.prog 82 #[.slice (some ⟨g, 0, none⟩) m c, .func (.func 83) #[] #[.pointer (some ⟨P, 0, none⟩)]] w fun e w' => e = .returned (.tuple #[]) ∧ Own w' B (some ⟨g, 0, none⟩) m c (ordO ss m) ∧ w.grownBy w' (some g) := by
  have HP := Lib.hid hp; clear hp
  have HS := Lib.hid hs; clear hs
  go_enter Try.func82, Try.ntmps82
  go_wp2_with fail
  refine (libStable B g c m G cG P ss _ hm1 hm5 h HP.out hPB hg hgB hBw HS.out).mono ?_; rintro e w1 ⟨rfl, o1, g1⟩
  go_wp2_with fail
  go_end0
  exact ⟨rfl, o1, g1⟩
end Go.Proofs.Ytaclpilehlednaa
