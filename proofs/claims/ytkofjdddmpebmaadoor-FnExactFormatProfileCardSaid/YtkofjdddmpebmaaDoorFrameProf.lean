/- How an argument that is a profile by value is opened. -/
import Derived.Test.YtkofjdddmpebmaaDoorFrameInts
import Derived.Test.YtkofjdddmpebmaaDoorVotes
import Derived.Deep.SlicePairs
namespace Go.Proofs.YtkofjdddmpebmaaDoor
open Go.ChangeShapes Go.WideShapes Go.ChangeAt Go.RowKit Go.Joins Go.Deep

set_option maxRecDepth 100000
theorem cellsInts : Tryd.prog.cellsOf 36 = 1 := by kernel_rfl
theorem cellsVote : Tryd.prog.cellsOf 45 = 2 := by kernel_rfl
theorem cellsProf : Tryd.prog.cellsOf 24 = 2 := by kernel_rfl
/-- A slice of numbers, out of its cells. -/
theorem ints_cells {H : Type} {enc : TypeId × Value → H} {W : World} {base : Nat} {spare : Nat → Bool} {held : Bool} {m : Nat} {v : Value} {x : DataW H × List MemPlace}
    (h : DataW.trod enc Tryd.prog W base spare held m 36 [v] = some x) :
    ∃ (A : Option Addr) (n c : Nat) (xs : List Int), v = .slice A n c ∧ Ints W A n xs ∧ n ≤ c ∧ c ≤ maxLen := by
  rcases open_ints Tryd.underlying36 Tryd.underlying3 cellsInt h with ⟨hcs, hx⟩ | ⟨a, len', cap', zs, hcs, _, hl, hmm, hz, hx, hcell, hwz⟩
  · injection hcs with hcs
    subst hcs
    exact ⟨none, 0, 0, [], rfl, Ints.nil_, Nat.le_refl _, Nat.zero_le _⟩
  · injection hcs with hcs
    subst hcs
    have hle : len' ≤ zs.length := by rw [hz]; split <;> omega
    exact ⟨some a, len', cap', zs.take len', rfl, ints_open hle hcell, hl, hmm⟩
/-- The votes behind a slice. -/
theorem votes_cells {H : Type} {enc : TypeId × Value → H} {W : World} {base : Nat} {spare : Nat → Bool} {held : Bool} {m : Nat} {v : Value} {x : DataW H × List MemPlace}
    (h : DataW.trod enc Tryd.prog W base spare held m 22 [v] = some x) :
    ∃ (A : Option Addr) (n c : Nat) (vs : List (List Int × Int)), v = .slice A n c ∧ Votes W A n vs ∧ n ≤ c ∧ c ≤ maxLen ∧ C64 vs := by
  rcases open_slice_pairs Tryd.underlying22 Tryd.underlying45 cellsVote rfl rfl cellsInts cellsInt h with ⟨hcs, hx⟩ | ⟨a, len, cap, m', n', V0, V1, D0, D1, P0, P1, hcs, _, hl, hmm, hm', hx, hall⟩
  · injection hcs with hcs
    subst hcs
    exact ⟨none, 0, 0, [], rfl, Votes.nil_, Nat.le_refl _, Nat.zero_le _, fun j => by simp [ct, vnth]⟩
  · injection hcs with hcs
    subst hcs
    have hle : len ≤ m' := by rw [hm']; split <;> omega
    have each : ∀ i, i < len → ∃ q : Option Addr × Nat × List Int × Int, V0 i = .slice q.1 q.2.2.1.length q.2.1 ∧ q.2.2.1.length ≤ q.2.1 ∧ q.2.1 ≤ maxLen ∧ Ints W q.1 q.2.2.1.length q.2.2.1 ∧ V1 i = .int .i64 q.2.2.2 ∧ (-9223372036854775808 ≤ q.2.2.2 ∧ q.2.2.2 ≤ 9223372036854775807) := by
      intro i hi
      obtain ⟨_, _, h3, h4⟩ := hall i (by omega)
      obtain ⟨A, n, c, xs, e1, e2, e3, e4⟩ := ints_cells h3
      obtain ⟨q, e5, _, e6⟩ := DataW.trod_int Tryd.underlying3 h4
      injection e5 with e5
      have hxl := e2.1
      subst hxl
      exact ⟨(A, c, xs, q), e1, e3, e4, e2, e5, bd_i64 e6⟩
    obtain ⟨q, hq⟩ := choose_lt each
    have hat : ∀ i, i < len → vnth ((List.range len).map fun i => ((q i).2.2.1, (q i).2.2.2)) i = ((q i).2.2.1, (q i).2.2.2) := fun i hi => by simp [vnth, List.getD, hi]
    refine ⟨some a, len, cap, (List.range len).map fun i => ((q i).2.2.1, (q i).2.2.2), rfl, ⟨by simp, fun hn => ?_⟩, hl, hmm, fun j => ?_⟩
    · have h0 := (hall 0 (by omega)).1
      obtain ⟨b, o, sp⟩ := a
      have hsp : sp = none := by simpa [Addr.add] using World.cell?_spot h0
      subst hsp
      refine ⟨b, o, rfl, size_of_cell (p := (⟨b, o, none⟩ : Addr).add (0 * 2)) h0, fun j hj => ?_⟩
      obtain ⟨h1, h2, _, _⟩ := hall j (by omega)
      obtain ⟨e1, e2, e3, e4, e5, _⟩ := hq j hj
      rw [add_plain] at h1 h2
      have hr : rk ((List.range len).map fun i => ((q i).2.2.1, (q i).2.2.2)) j = (q j).2.2.1 := by rw [rk, hat j hj]
      have hc : ct ((List.range len).map fun i => ((q i).2.2.1, (q i).2.2.2)) j = (q j).2.2.2 := by rw [ct, hat j hj]
      refine ⟨(q j).1, (q j).2.1, ?_, ?_, e3, ?_, ?_⟩
      · rw [rl, hr, h1, e1]
      · rw [rl, hr]; exact e2
      · rw [rl, hr]; exact e4
      · rw [hc, ← Nat.add_assoc] at *; rw [h2, e5]
    · by_cases hj : j < len
      · rw [ct, hat j hj]; exact (hq j hj).2.2.2.2.2
      · have : ct ((List.range len).map fun i => ((q i).2.2.1, (q i).2.2.2)) j = 0 := by simp [ct, vnth, List.getD, hj]
        rw [this]; omega
theorem open_prof_arg {H : Type} {enc : TypeId × Value → H} {W : World} {r : Reach} {base0 base : Nat} {spare : Nat → Bool} {held : Bool} {v : Value} {d : DataW H} {p : List MemPlace}
    (hv : Value.okWide Tryd.prog W r base0 24 v) (h : DataW.Trod enc Tryd.prog W base spare held 24 v d p) :
    ∃ (m : Int) (A : Option Addr) (n c : Nat) (vs : List (List Int × Int)), v = .agg #[.int .i64 m, .slice A n c] ∧ (Votes W A n vs ∧ n ≤ c ∧ c ≤ maxLen ∧ C64 vs ∧ -9223372036854775808 ≤ m ∧ m ≤ 9223372036854775807) := by
  obtain ⟨c0, c1, y0, y1, k, rfl, _, _, hy0, hy1⟩ := open_agg2 Tryd.underlying24 (by kernel_rfl) cellsProf hv h
  obtain ⟨a, e0, _, wa⟩ := DataW.trod_int Tryd.underlying3 hy0
  injection e0 with e0
  subst e0
  obtain ⟨A, n, c, vs, rfl, h1, h2, h3, h4⟩ := votes_cells hy1
  exact ⟨a, A, n, c, vs, rfl, h1, h2, h3, h4, bd_i64 wa⟩
end Go.Proofs.YtkofjdddmpebmaaDoor
