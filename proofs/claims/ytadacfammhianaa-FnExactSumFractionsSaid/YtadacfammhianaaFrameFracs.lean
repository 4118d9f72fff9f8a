/- How an argument that is a slice of structs of two numbers is opened. -/
import Derived.Test.YtadacfammhianaaFrameInts
import Derived.Test.YtadacfammhianaaPairs
import Derived.Deep.SlicePairs
namespace Go.Proofs.Ytadacfammhianaa
open Go.ChangeShapes Go.WideShapes Go.ChangeAt Go.RowKit Go.Joins Go.Deep

set_option maxRecDepth 100000
theorem cellsFracs : Try.prog.cellsOf 55 = 2 := by kernel_rfl
/-- The pairs behind a slice. -/
theorem pairs_cells {H : Type} {enc : TypeId × Value → H} {W : World} {base : Nat} {spare : Nat → Bool} {held : Bool} {m : Nat} {v : Value} {x : DataW H × List MemPlace}
    (h : DataW.trod enc Try.prog W base spare held m 32 [v] = some x) :
    ∃ (A : Option Addr) (n c : Nat) (ps : List (Int × Int)), v = .slice A n c ∧ Pairs W A n ps ∧ n ≤ c ∧ c ≤ maxLen ∧ P64 ps := by
  rcases open_slice_pairs Try.underlying32 Try.underlying55 cellsFracs rfl rfl cellsInt cellsInt h with ⟨hcs, hx⟩ | ⟨a, len, cap, m', n', V0, V1, D0, D1, P0, P1, hcs, _, hl, hmm, hm', hx, hall⟩
  · injection hcs with hcs
    subst hcs
    exact ⟨none, 0, 0, [], rfl, Pairs.nil_, Nat.le_refl _, Nat.zero_le _, fun j => by simp [p1, p2, pnth]⟩
  · injection hcs with hcs
    subst hcs
    have hle : len ≤ m' := by rw [hm']; split <;> omega
    have each : ∀ i, i < len → ∃ q : Int × Int, V0 i = .int .i64 q.1 ∧ V1 i = .int .i64 q.2 ∧ (-9223372036854775808 ≤ q.1 ∧ q.1 ≤ 9223372036854775807) ∧ (-9223372036854775808 ≤ q.2 ∧ q.2 ≤ 9223372036854775807) := by
      intro i hi
      obtain ⟨_, _, h3, h4⟩ := hall i (by omega)
      obtain ⟨q, e5, _, e6⟩ := DataW.trod_int Try.underlying3 h3
      obtain ⟨r, e7, _, e8⟩ := DataW.trod_int Try.underlying3 h4
      injection e5 with e5
      injection e7 with e7
      exact ⟨(q, r), e5, e7, bd_i64 e6, bd_i64 e8⟩
    obtain ⟨q, hq⟩ := choose_lt each
    have hat : ∀ i, i < len → pnth ((List.range len).map fun i => ((q i).1, (q i).2)) i = ((q i).1, (q i).2) := fun i hi => by simp [pnth, List.getD, hi]
    refine ⟨some a, len, cap, (List.range len).map fun i => ((q i).1, (q i).2), rfl, ⟨by simp, fun hn => ?_⟩, hl, hmm, fun j => ?_⟩
    · have h0 := (hall 0 (by omega)).1
      obtain ⟨b, o, sp⟩ := a
      have hsp : sp = none := by simpa [Addr.add] using World.cell?_spot h0
      subst hsp
      refine ⟨b, o, rfl, size_of_cell (p := (⟨b, o, none⟩ : Addr).add (0 * 2)) h0, fun j hj => ?_⟩
      obtain ⟨h1, h2, _, _⟩ := hall j (by omega)
      obtain ⟨e1, e2, _, _⟩ := hq j hj
      rw [add_plain] at h1 h2
      refine ⟨?_, ?_⟩
      · rw [p1, hat j hj, h1, e1]
      · rw [p2, hat j hj, ← e2, ← h2, Nat.add_assoc]
    · by_cases hj : j < len
      · rw [p1, p2, hat j hj]; exact (hq j hj).2.2
      · have : pnth ((List.range len).map fun i => ((q i).1, (q i).2)) j = (0, 0) := by simp [pnth, List.getD, hj]
        rw [p1, p2, this]; omega
theorem open_fracs_arg {H : Type} {enc : TypeId × Value → H} {W : World} {r : Reach} {base0 base : Nat} {spare : Nat → Bool} {held : Bool} {v : Value} {d : DataW H} {p : List MemPlace}
    (hv : Value.okWide Try.prog W r base0 32 v) (h : DataW.Trod enc Try.prog W base spare held 32 v d p) :
    ∃ (A : Option Addr) (n c : Nat) (ps : List (Int × Int)), v = .slice A n c ∧ (Pairs W A n ps ∧ n ≤ c ∧ c ≤ maxLen ∧ P64 ps) := by
  obtain ⟨a0, len, cap, rfl⟩ := okWide_slice Try.underlying32 hv
  obtain ⟨m, hm⟩ := h
  exact pairs_cells (m := m) (v := .slice a0 len cap) hm
end Go.Proofs.Ytadacfammhianaa
