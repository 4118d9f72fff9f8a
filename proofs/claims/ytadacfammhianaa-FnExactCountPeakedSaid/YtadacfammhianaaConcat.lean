/- slices.Grow at nil and slices.Concat of two lists. -/
import Derived.Test.YtadacfammhianaaHeads
import Derived.Lib.AppendZerosOnto
import Derived.Lib.Walk
namespace Go.Proofs.Ytadacfammhianaa
open Go.RowKit
set_option maxRecDepth 100000

/-- An own row of which nothing is used yet. -/
theorem own_room {w : World} {base g cap : Nat} {cur : Array Value} (hb : base ≤ g) (hh : w.heap[g]? = some (.cells cur 3 (0, 0))) (hm : cap ≤ maxLen) (hs : cur.size = cap) : Own w base (some ⟨g, 0, none⟩) 0 cap [] :=
  ⟨rfl, .inr ⟨g, cap, cur, rfl, hb, hh, Nat.zero_le _, hm, by omega, by simp [iv]⟩⟩

end Go.Proofs.Ytadacfammhianaa
