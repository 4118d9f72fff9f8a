/- How an argument that is a slice of strings is opened. -/
import Derived.Test.YtadacfammhianaaFrameInts
import Derived.Test.YtadacfammhianaaStrs
import Derived.SliceStrings
namespace Go.Proofs.Ytadacfammhianaa
open Go.ChangeShapes Go.WideShapes Go.ChangeAt Go.RowKit Go.Joins

set_option maxRecDepth 100000
theorem cellsStr : Try.prog.cellsOf 9 = 1 := by kernel_rfl
theorem open_strs_arg {H : Type} {enc : TypeId × Value → H} {W : World} {r : Reach} {base0 base : Nat} {spare : Nat → Bool} {held : Bool} {v : Value} {d : DataW H} {p : List MemPlace}
    (hv : Value.okWide Try.prog W r base0 22 v) (h : DataW.Trod enc Try.prog W base spare held 22 v d p) :
    ∃ (A : Option Addr) (n c : Nat) (ss : List ByteArray), v = .slice A n c ∧ (Strs W A n ss ∧ n ≤ c ∧ c ≤ maxLen ∧ ∀ j, (snth ss j).size ≤ maxLen) := by
  obtain ⟨a0, len, cap, rfl⟩ := okWide_slice Try.underlying22 hv
  obtain ⟨m, hm⟩ := h
  rcases open_strings Try.underlying22 Try.underlying9 cellsStr hm with ⟨hcs, hx⟩ | ⟨a, len', cap', ss, hcs, _, hl, hmm, hz, hx, hcell, hwz⟩
  · simp [Value.cells] at hcs
    obtain ⟨rfl, rfl, rfl⟩ := hcs
    exact ⟨none, 0, 0, [], rfl, Strs.nil_, Nat.le_refl _, Nat.zero_le _, fun j => by simp [snth]⟩
  · simp [Value.cells] at hcs
    obtain ⟨rfl, rfl, rfl⟩ := hcs
    have hle : len ≤ ss.length := by rw [hz]; split <;> omega
    refine ⟨some a, len, cap, ss.take len, rfl, ⟨by rw [List.length_take]; omega, fun hn => ?_⟩, hl, hmm, fun j => ?_⟩
    · obtain ⟨b, o, sp⟩ := a
      have h0 := hcell 0 (by omega)
      have hsp : sp = none := by simpa [Addr.add] using World.cell?_spot h0
      subst hsp
      refine ⟨b, o, rfl, size_of_cell h0, fun j hj => ?_⟩
      have h1 := hcell j (by omega)
      rw [Addr.add_lit] at h1
      rw [h1]
      simp [snth, List.getD, hj]
    · by_cases hj : j < (ss.take len).length
      · rw [snth_get hj]
        exact hwz _ (List.mem_of_mem_take (List.getElem_mem hj))
      · have e : snth (ss.take len) j = ByteArray.empty := by
          unfold snth
          simp only [List.getD]
          rw [List.getElem?_eq_none (by omega)]; rfl
        rw [e]; exact Nat.zero_le _
end Go.Proofs.Ytadacfammhianaa
