/- A vote alone: marks; how an argument that is a vote is opened. -/
import Derived.Test.YtblofiimfhbkdaaFrameProf
import Derived.Test.YtblofiimfhbkdaaMarkV
namespace Go.Proofs.Ytblofiimfhbkdaa
open Go.ChangeShapes Go.WideShapes Go.ChangeAt Go.RowKit Go.Joins Go.Deep
set_option maxRecDepth 100000

theorem open_vote_arg {H : Type} {enc : TypeId × Value → H} {W : World} {r : Reach} {base0 base : Nat} {spare : Nat → Bool} {held : Bool} {v : Value} {d : DataW H} {p : List MemPlace}
    (hv : Value.okWide Try.prog W r base0 59 v) (h : DataW.Trod enc Try.prog W base spare held 59 v d p) :
    ∃ (A : Option Addr) (n c : Nat) (xs : List Int) (t : Int), v = .agg #[.slice A n c, .int .i64 t] ∧ (Ints W A n xs ∧ n ≤ c ∧ c ≤ maxLen ∧ -9223372036854775808 ≤ t ∧ t ≤ 9223372036854775807) := by
  obtain ⟨c0, c1, y0, y1, k, rfl, _, _, hy0, hy1⟩ := open_agg2 Try.underlying59 (by kernel_rfl) cellsVote hv h
  obtain ⟨a, e0, _, wa⟩ := DataW.trod_int Try.underlying3 hy1
  injection e0 with e0
  subst e0
  obtain ⟨A, n, c, xs, rfl, h1, h2, h3⟩ := ints_cells hy0
  exact ⟨A, n, c, xs, a, rfl, h1, h2, h3, bd_i64 wa⟩

set_option maxHeartbeats 1000000 in
theorem markVote (A : Option Addr) (n c base : Nat) (xs : List Int) (t m : Int) (w : World) (h : Own w base A n c xs) (hn : (n : Int) ≤ 1048576) (hm : 0 ≤ m ∧ m ≤ 1152921504606846976) :
    Calls Try.prog 46 #[.agg #[.slice A n c, .int .i64 t], .int .i64 m] w fun e w' => e = .returned (.int .i64 (m + (n : Int))) ∧ Own w' base A n c (marks m n) ∧ w.grownBy w' (A.map (·.block)) := by
  go_enter Try.func46, Try.ntmps46
  go_wp2_with fail
  refine (markIntS _ _ _ _ _ m _ (own_alloc h _) hn hm).mono ?_; rintro e w1 ⟨rfl, o1, gr⟩
  go_wp2_with fail
  go_ret
  exact ⟨rfl, o1, World.grownBy.andThen (World.grownBy_alloc _ _ _) gr (fun j hj => .inr hj)⟩
end Go.Proofs.Ytblofiimfhbkdaa
