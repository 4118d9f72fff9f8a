/- How an argument that is a slice of bytes is opened. -/
import Derived.Test.YtfcbnpjfpeiheaaDoorFrameInts
import Derived.Test.YtfcbnpjfpeiheaaDoorCursor
namespace Go.Proofs.YtfcbnpjfpeiheaaDoor
open Go.ChangeShapes Go.WideShapes Go.ChangeAt Go.RowKit Go.Joins

set_option maxRecDepth 100000
theorem cellsByte : Tryd.prog.cellsOf 5 = 1 := by kernel_rfl
theorem bd_u8 {n : Int} (h : (Lit.int .u8 n).wf = true) : 0 ≤ n ∧ n ≤ 255 := by
  simp [Lit.wf, IntKind.min, IntKind.max, IntKind.signed, IntKind.bits] at h
  omega
theorem open_bytes_arg {H : Type} {enc : TypeId × Value → H} {W : World} {r : Reach} {base0 base : Nat} {spare : Nat → Bool} {held : Bool} {v : Value} {d : DataW H} {p : List MemPlace}
    (hv : Value.okWide Tryd.prog W r base0 28 v) (h : DataW.Trod enc Tryd.prog W base spare held 28 v d p) :
    ∃ (A : Option Addr) (n c : Nat) (_z : Unit), v = .slice A n c ∧ (Byts W W.heap.size A n ∧ n ≤ c ∧ c ≤ maxLen) := by
  obtain ⟨a0, len, cap, rfl⟩ := okWide_slice Tryd.underlying28 hv
  obtain ⟨m, hm⟩ := h
  rcases open_ints Tryd.underlying28 Tryd.underlying5 cellsByte hm with ⟨hcs, hx⟩ | ⟨a, len', cap', zs, hcs, _, hl, hmm, hz, hx, hcell, hwz⟩
  · simp [Value.cells] at hcs
    obtain ⟨rfl, rfl, rfl⟩ := hcs
    exact ⟨none, 0, 0, (), rfl, fun h => absurd h (by omega), Nat.le_refl _, Nat.zero_le _⟩
  · simp [Value.cells] at hcs
    obtain ⟨rfl, rfl, rfl⟩ := hcs
    have hle : len ≤ zs.length := by rw [hz]; split <;> omega
    refine ⟨some a, len, cap, (), rfl, fun hn => ?_, hl, hmm⟩
    obtain ⟨b, o, sp⟩ := a
    have h0 := hcell 0 (by omega)
    have hsp : sp = none := by simpa [Addr.add] using World.cell?_spot h0
    subst hsp
    have hlt := size_of_cell h0
    refine ⟨b, o, rfl, hlt, hlt, fun j hj => ⟨zs.getD j 0, ?_, bd_u8 (hwz _ ?_)⟩⟩
    · have := hcell j (by omega)
      simpa [Addr.add_lit] using this
    · have hj2 : j < zs.length := by omega
      simp [List.getD, hj2]
end Go.Proofs.YtfcbnpjfpeiheaaDoor
