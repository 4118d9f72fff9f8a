/-
  No cell of these rows narrows 'for every input' (looked for: loops, veiled, ifaces, maps, wideKeys, modest, calm, conditions, laid).
  DERIVED. THE GIVEN ROWS OF THIS SEAT. 9 by the template 'for every input the law returns true; each argument reads behind the call as it read before'; 0 by the template 'total and deterministic' (their statements: YtblofiimfhbkdabTotals.lean).
  GIVEN WITH THE SEED: the statements are not yours to turn. If you find one false, say at which input.
  Laid BY PROGRAM, IN A SANDBOX (cutbox-rows.mjs): the forced cells as the released guide's own fill.sh prints them over the translation 8d3a41da5bd672b2… (all of the seat's roots in one cut). By AI agents, Wed Nov 11 2026. No macro, syntax, notation, axiom, sorry.
-/
import Derived.Test.YtblofiimfhbkdabChecked
import GoSem.Claim
import GoSem.ClaimJoined
import GoSem.ClaimMapViews
import Derived.JoinedTies
import Derived.KernelRfl
namespace Go.Proofs.Ytblofiimfhbkdab
/- THE CELL 'sum', in the pinned program and in every row, IS THE sha256 OF THE DUMP (.gsa) THAT YtblofiimfhbkdabProg.lean LOADS. Nothing in Lean hashes anything: it is a label: what it is worth is what the hold of that sum in a sandbox is worth. -/
noncomputable def Try.pinned : Pinned := { name := "ytblofiimfhbkdab", sum := "8d3a41da5bd672b2a4b4256e1b7f0069a97468887ef492a385bffc0f05189a76", checked := Try.checked }
namespace Rows
def none {H : Type} : Left H := { results := [], args := [] }

/-- 'laws.FnExactFirstPlaces': WHATEVER THE INPUT: true; the input reads as it did. -/
def fnExactFirstPlacesSpec : ChangeSpec := { name := "fnExactFirstPlaces", fn := fun _ => fun
  | [d] => { results := [.lit (.bool true)], args := [d] }
  | _ => none }
def fnExactFirstPlacesRow : OpenClaim := { program := "ytblofiimfhbkdab", sum := "8d3a41da5bd672b2a4b4256e1b7f0069a97468887ef492a385bffc0f05189a76", func := "loop.example/g03202/laws.FnExactFirstPlaces", spec := "fnExactFirstPlaces", unfollowed := true, recurses := true, apart := false }
def FnExactFirstPlacesSaid : Prop := fnExactFirstPlacesRow.holds Try.pinned (OpenSpec.ofChange fnExactFirstPlacesSpec)

/-- ITS FALSE NEIGHBOUR: 'it returns false'. Refute it at one input. -/
def fnExactFirstPlacesWrong : ChangeSpec := { name := "fnExactFirstPlaces", fn := fun _ => fun
  | [d] => { results := [.lit (.bool false)], args := [d] }
  | _ => none }
def FnExactFirstPlacesWrongFalsely : Prop := fnExactFirstPlacesRow.holds Try.pinned (OpenSpec.ofChange fnExactFirstPlacesWrong)

/-- 'laws.FnExactScoreWinners': WHATEVER THE INPUT: true; the input reads as it did. -/
def fnExactScoreWinnersSpec : ChangeSpec := { name := "fnExactScoreWinners", fn := fun _ => fun
  | [d1, d2] => { results := [.lit (.bool true)], args := [d1, d2] }
  | _ => none }
def fnExactScoreWinnersRow : OpenClaim := { program := "ytblofiimfhbkdab", sum := "8d3a41da5bd672b2a4b4256e1b7f0069a97468887ef492a385bffc0f05189a76", func := "loop.example/g03202/laws.FnExactScoreWinners", spec := "fnExactScoreWinners", unfollowed := true, recurses := true, apart := false }
def FnExactScoreWinnersSaid : Prop := fnExactScoreWinnersRow.holds Try.pinned (OpenSpec.ofChange fnExactScoreWinnersSpec)

/-- ITS FALSE NEIGHBOUR: 'it returns false'. Refute it at one input. -/
def fnExactScoreWinnersWrong : ChangeSpec := { name := "fnExactScoreWinners", fn := fun _ => fun
  | [d1, d2] => { results := [.lit (.bool false)], args := [d1, d2] }
  | _ => none }
def FnExactScoreWinnersWrongFalsely : Prop := fnExactScoreWinnersRow.holds Try.pinned (OpenSpec.ofChange fnExactScoreWinnersWrong)

/-- 'laws.FnExactAxisOf': WHATEVER THE INPUT: true; the input reads as it did. -/
def fnExactAxisOfSpec : ChangeSpec := { name := "fnExactAxisOf", fn := fun _ => fun
  | [d] => { results := [.lit (.bool true)], args := [d] }
  | _ => none }
def fnExactAxisOfRow : OpenClaim := { program := "ytblofiimfhbkdab", sum := "8d3a41da5bd672b2a4b4256e1b7f0069a97468887ef492a385bffc0f05189a76", func := "loop.example/g03202/laws.FnExactAxisOf", spec := "fnExactAxisOf", unfollowed := true, recurses := true, apart := false }
def FnExactAxisOfSaid : Prop := fnExactAxisOfRow.holds Try.pinned (OpenSpec.ofChange fnExactAxisOfSpec)

/-- ITS FALSE NEIGHBOUR: 'it returns false'. Refute it at one input. -/
def fnExactAxisOfWrong : ChangeSpec := { name := "fnExactAxisOf", fn := fun _ => fun
  | [d] => { results := [.lit (.bool false)], args := [d] }
  | _ => none }
def FnExactAxisOfWrongFalsely : Prop := fnExactAxisOfRow.holds Try.pinned (OpenSpec.ofChange fnExactAxisOfWrong)

/-- 'laws.FnExactCountKemeny': WHATEVER THE INPUT: true; the input reads as it did. -/
def fnExactCountKemenySpec : ChangeSpec := { name := "fnExactCountKemeny", fn := fun _ => fun
  | [d] => { results := [.lit (.bool true)], args := [d] }
  | _ => none }
def fnExactCountKemenyRow : OpenClaim := { program := "ytblofiimfhbkdab", sum := "8d3a41da5bd672b2a4b4256e1b7f0069a97468887ef492a385bffc0f05189a76", func := "loop.example/g03202/laws.FnExactCountKemeny", spec := "fnExactCountKemeny", unfollowed := true, recurses := true, apart := false }
def FnExactCountKemenySaid : Prop := fnExactCountKemenyRow.holds Try.pinned (OpenSpec.ofChange fnExactCountKemenySpec)

/-- ITS FALSE NEIGHBOUR: 'it returns false'. Refute it at one input. -/
def fnExactCountKemenyWrong : ChangeSpec := { name := "fnExactCountKemeny", fn := fun _ => fun
  | [d] => { results := [.lit (.bool false)], args := [d] }
  | _ => none }
def FnExactCountKemenyWrongFalsely : Prop := fnExactCountKemenyRow.holds Try.pinned (OpenSpec.ofChange fnExactCountKemenyWrong)

/-- 'laws.FnExactPeaksOf': WHATEVER THE INPUT: true; the input reads as it did. -/
def fnExactPeaksOfSpec : ChangeSpec := { name := "fnExactPeaksOf", fn := fun _ => fun
  | [d1, d2] => { results := [.lit (.bool true)], args := [d1, d2] }
  | _ => none }
def fnExactPeaksOfRow : OpenClaim := { program := "ytblofiimfhbkdab", sum := "8d3a41da5bd672b2a4b4256e1b7f0069a97468887ef492a385bffc0f05189a76", func := "loop.example/g03202/laws.FnExactPeaksOf", spec := "fnExactPeaksOf", unfollowed := true, recurses := true, apart := false }
def FnExactPeaksOfSaid : Prop := fnExactPeaksOfRow.holds Try.pinned (OpenSpec.ofChange fnExactPeaksOfSpec)

/-- ITS FALSE NEIGHBOUR: 'it returns false'. Refute it at one input. -/
def fnExactPeaksOfWrong : ChangeSpec := { name := "fnExactPeaksOf", fn := fun _ => fun
  | [d1, d2] => { results := [.lit (.bool false)], args := [d1, d2] }
  | _ => none }
def FnExactPeaksOfWrongFalsely : Prop := fnExactPeaksOfRow.holds Try.pinned (OpenSpec.ofChange fnExactPeaksOfWrong)

/-- 'laws.FnExactMergeProfile': WHATEVER THE INPUT: true; the input reads as it did. -/
def fnExactMergeProfileSpec : ChangeSpec := { name := "fnExactMergeProfile", fn := fun _ => fun
  | [d] => { results := [.lit (.bool true)], args := [d] }
  | _ => none }
def fnExactMergeProfileRow : OpenClaim := { program := "ytblofiimfhbkdab", sum := "8d3a41da5bd672b2a4b4256e1b7f0069a97468887ef492a385bffc0f05189a76", func := "loop.example/g03202/laws.FnExactMergeProfile", spec := "fnExactMergeProfile", unfollowed := true, recurses := true, apart := false }
def FnExactMergeProfileSaid : Prop := fnExactMergeProfileRow.holds Try.pinned (OpenSpec.ofChange fnExactMergeProfileSpec)

/-- ITS FALSE NEIGHBOUR: 'it returns false'. Refute it at one input. -/
def fnExactMergeProfileWrong : ChangeSpec := { name := "fnExactMergeProfile", fn := fun _ => fun
  | [d] => { results := [.lit (.bool false)], args := [d] }
  | _ => none }
def FnExactMergeProfileWrongFalsely : Prop := fnExactMergeProfileRow.holds Try.pinned (OpenSpec.ofChange fnExactMergeProfileWrong)

/-- 'laws.FnExactKemenyRanking': WHATEVER THE INPUT: true; the input reads as it did. -/
def fnExactKemenyRankingSpec : ChangeSpec := { name := "fnExactKemenyRanking", fn := fun _ => fun
  | [d] => { results := [.lit (.bool true)], args := [d] }
  | _ => none }
def fnExactKemenyRankingRow : OpenClaim := { program := "ytblofiimfhbkdab", sum := "8d3a41da5bd672b2a4b4256e1b7f0069a97468887ef492a385bffc0f05189a76", func := "loop.example/g03202/laws.FnExactKemenyRanking", spec := "fnExactKemenyRanking", unfollowed := true, recurses := true, apart := false }
def FnExactKemenyRankingSaid : Prop := fnExactKemenyRankingRow.holds Try.pinned (OpenSpec.ofChange fnExactKemenyRankingSpec)

/-- ITS FALSE NEIGHBOUR: 'it returns false'. Refute it at one input. -/
def fnExactKemenyRankingWrong : ChangeSpec := { name := "fnExactKemenyRanking", fn := fun _ => fun
  | [d] => { results := [.lit (.bool false)], args := [d] }
  | _ => none }
def FnExactKemenyRankingWrongFalsely : Prop := fnExactKemenyRankingRow.holds Try.pinned (OpenSpec.ofChange fnExactKemenyRankingWrong)

/-- 'laws.FnExactSameProfile': WHATEVER THE INPUT: true; the input reads as it did. -/
def fnExactSameProfileSpec : ChangeSpec := { name := "fnExactSameProfile", fn := fun _ => fun
  | [d1, d2] => { results := [.lit (.bool true)], args := [d1, d2] }
  | _ => none }
def fnExactSameProfileRow : OpenClaim := { program := "ytblofiimfhbkdab", sum := "8d3a41da5bd672b2a4b4256e1b7f0069a97468887ef492a385bffc0f05189a76", func := "loop.example/g03202/laws.FnExactSameProfile", spec := "fnExactSameProfile", unfollowed := true, recurses := true, apart := false }
def FnExactSameProfileSaid : Prop := fnExactSameProfileRow.holds Try.pinned (OpenSpec.ofChange fnExactSameProfileSpec)

/-- ITS FALSE NEIGHBOUR: 'it returns false'. Refute it at one input. -/
def fnExactSameProfileWrong : ChangeSpec := { name := "fnExactSameProfile", fn := fun _ => fun
  | [d1, d2] => { results := [.lit (.bool false)], args := [d1, d2] }
  | _ => none }
def FnExactSameProfileWrongFalsely : Prop := fnExactSameProfileRow.holds Try.pinned (OpenSpec.ofChange fnExactSameProfileWrong)

/-- 'laws.FnExactScoreRanking': WHATEVER THE INPUT: true; the input reads as it did. -/
def fnExactScoreRankingSpec : ChangeSpec := { name := "fnExactScoreRanking", fn := fun _ => fun
  | [d1, d2] => { results := [.lit (.bool true)], args := [d1, d2] }
  | _ => none }
def fnExactScoreRankingRow : OpenClaim := { program := "ytblofiimfhbkdab", sum := "8d3a41da5bd672b2a4b4256e1b7f0069a97468887ef492a385bffc0f05189a76", func := "loop.example/g03202/laws.FnExactScoreRanking", spec := "fnExactScoreRanking", unfollowed := true, recurses := true, apart := false }
def FnExactScoreRankingSaid : Prop := fnExactScoreRankingRow.holds Try.pinned (OpenSpec.ofChange fnExactScoreRankingSpec)

/-- ITS FALSE NEIGHBOUR: 'it returns false'. Refute it at one input. -/
def fnExactScoreRankingWrong : ChangeSpec := { name := "fnExactScoreRanking", fn := fun _ => fun
  | [d1, d2] => { results := [.lit (.bool false)], args := [d1, d2] }
  | _ => none }
def FnExactScoreRankingWrongFalsely : Prop := fnExactScoreRankingRow.holds Try.pinned (OpenSpec.ofChange fnExactScoreRankingWrong)

/- THE SECOND FORM. 'bulk': how many values and letters a reading holds, each counted each time it is reached (what is shared counts as often as it is met; a slice's spare places count too). A statement '..UptoSaid' is the law's where the arguments, and the package variables that the reading takes, are together of bulk at most 1048576: NARROWER than '..Said'. Prove '..Said' where nothing that the law and all that it calls make is longer than what came in: it says more and counts as full. Else prove '..UptoSaid'. A law counts once. -/
mutual
def uptoBulk {H : Type} : DataW H → Nat
  | .lit (.string bytes) => bytes.length + 1
  | .lit _ => 1
  | .nil => 1
  | .ptr d => uptoBulk d + 1
  | .slice elems spare => uptoBulkAll elems + uptoBulkAll spare + 1
  | .agg parts => uptoBulkAll parts + 1
  | .iface _ d => uptoBulk d + 1
  | .map entries => uptoBulkEntries entries + 1
  | .held _ => 1
def uptoBulkAll {H : Type} : List (DataW H) → Nat
  | [] => 0
  | d :: r => uptoBulk d + uptoBulkAll r
def uptoBulkEntries {H : Type} : List (Lit × DataW H) → Nat
  | [] => 0
  | x :: r => uptoBulkEntry x + uptoBulkEntries r
def uptoBulkEntry {H : Type} : Lit × DataW H → Nat
  | (.string bytes, d) => bytes.length + uptoBulk d + 1
  | (_, d) => uptoBulk d + 1
 end
def uptoSmall : (H : Type) → List (DataW H) → Bool := fun _ ds => decide (uptoBulkAll ds ≤ 1048576)
def OpenSpec.upto (s : _root_.Go.ChangeSpec) : _root_.Go.OpenSpec := { _root_.Go.OpenSpec.ofChange s with cond := some uptoSmall }

/-- 'laws.FnExactFirstPlaces', WHERE WHAT IT READS IS OF BULK AT MOST 1048576: true; the input reads as it did. -/
def fnExactFirstPlacesUptoRow : OpenClaim := { program := "ytblofiimfhbkdab", sum := "8d3a41da5bd672b2a4b4256e1b7f0069a97468887ef492a385bffc0f05189a76", func := "loop.example/g03202/laws.FnExactFirstPlaces", spec := "fnExactFirstPlaces", unfollowed := true, recurses := true, apart := false, narrowed := true }
def FnExactFirstPlacesUptoSaid : Prop := fnExactFirstPlacesUptoRow.holds Try.pinned (OpenSpec.upto fnExactFirstPlacesSpec)

/-- 'laws.FnExactScoreWinners', WHERE WHAT IT READS IS OF BULK AT MOST 1048576: true; the input reads as it did. -/
def fnExactScoreWinnersUptoRow : OpenClaim := { program := "ytblofiimfhbkdab", sum := "8d3a41da5bd672b2a4b4256e1b7f0069a97468887ef492a385bffc0f05189a76", func := "loop.example/g03202/laws.FnExactScoreWinners", spec := "fnExactScoreWinners", unfollowed := true, recurses := true, apart := false, narrowed := true }
def FnExactScoreWinnersUptoSaid : Prop := fnExactScoreWinnersUptoRow.holds Try.pinned (OpenSpec.upto fnExactScoreWinnersSpec)

/-- 'laws.FnExactAxisOf', WHERE WHAT IT READS IS OF BULK AT MOST 1048576: true; the input reads as it did. -/
def fnExactAxisOfUptoRow : OpenClaim := { program := "ytblofiimfhbkdab", sum := "8d3a41da5bd672b2a4b4256e1b7f0069a97468887ef492a385bffc0f05189a76", func := "loop.example/g03202/laws.FnExactAxisOf", spec := "fnExactAxisOf", unfollowed := true, recurses := true, apart := false, narrowed := true }
def FnExactAxisOfUptoSaid : Prop := fnExactAxisOfUptoRow.holds Try.pinned (OpenSpec.upto fnExactAxisOfSpec)

/-- 'laws.FnExactCountKemeny', WHERE WHAT IT READS IS OF BULK AT MOST 1048576: true; the input reads as it did. -/
def fnExactCountKemenyUptoRow : OpenClaim := { program := "ytblofiimfhbkdab", sum := "8d3a41da5bd672b2a4b4256e1b7f0069a97468887ef492a385bffc0f05189a76", func := "loop.example/g03202/laws.FnExactCountKemeny", spec := "fnExactCountKemeny", unfollowed := true, recurses := true, apart := false, narrowed := true }
def FnExactCountKemenyUptoSaid : Prop := fnExactCountKemenyUptoRow.holds Try.pinned (OpenSpec.upto fnExactCountKemenySpec)

/-- 'laws.FnExactPeaksOf', WHERE WHAT IT READS IS OF BULK AT MOST 1048576: true; the input reads as it did. -/
def fnExactPeaksOfUptoRow : OpenClaim := { program := "ytblofiimfhbkdab", sum := "8d3a41da5bd672b2a4b4256e1b7f0069a97468887ef492a385bffc0f05189a76", func := "loop.example/g03202/laws.FnExactPeaksOf", spec := "fnExactPeaksOf", unfollowed := true, recurses := true, apart := false, narrowed := true }
def FnExactPeaksOfUptoSaid : Prop := fnExactPeaksOfUptoRow.holds Try.pinned (OpenSpec.upto fnExactPeaksOfSpec)

/-- 'laws.FnExactMergeProfile', WHERE WHAT IT READS IS OF BULK AT MOST 1048576: true; the input reads as it did. -/
def fnExactMergeProfileUptoRow : OpenClaim := { program := "ytblofiimfhbkdab", sum := "8d3a41da5bd672b2a4b4256e1b7f0069a97468887ef492a385bffc0f05189a76", func := "loop.example/g03202/laws.FnExactMergeProfile", spec := "fnExactMergeProfile", unfollowed := true, recurses := true, apart := false, narrowed := true }
def FnExactMergeProfileUptoSaid : Prop := fnExactMergeProfileUptoRow.holds Try.pinned (OpenSpec.upto fnExactMergeProfileSpec)

/-- 'laws.FnExactKemenyRanking', WHERE WHAT IT READS IS OF BULK AT MOST 1048576: true; the input reads as it did. -/
def fnExactKemenyRankingUptoRow : OpenClaim := { program := "ytblofiimfhbkdab", sum := "8d3a41da5bd672b2a4b4256e1b7f0069a97468887ef492a385bffc0f05189a76", func := "loop.example/g03202/laws.FnExactKemenyRanking", spec := "fnExactKemenyRanking", unfollowed := true, recurses := true, apart := false, narrowed := true }
def FnExactKemenyRankingUptoSaid : Prop := fnExactKemenyRankingUptoRow.holds Try.pinned (OpenSpec.upto fnExactKemenyRankingSpec)

/-- 'laws.FnExactSameProfile', WHERE WHAT IT READS IS OF BULK AT MOST 1048576: true; the input reads as it did. -/
def fnExactSameProfileUptoRow : OpenClaim := { program := "ytblofiimfhbkdab", sum := "8d3a41da5bd672b2a4b4256e1b7f0069a97468887ef492a385bffc0f05189a76", func := "loop.example/g03202/laws.FnExactSameProfile", spec := "fnExactSameProfile", unfollowed := true, recurses := true, apart := false, narrowed := true }
def FnExactSameProfileUptoSaid : Prop := fnExactSameProfileUptoRow.holds Try.pinned (OpenSpec.upto fnExactSameProfileSpec)

/-- 'laws.FnExactScoreRanking', WHERE WHAT IT READS IS OF BULK AT MOST 1048576: true; the input reads as it did. -/
def fnExactScoreRankingUptoRow : OpenClaim := { program := "ytblofiimfhbkdab", sum := "8d3a41da5bd672b2a4b4256e1b7f0069a97468887ef492a385bffc0f05189a76", func := "loop.example/g03202/laws.FnExactScoreRanking", spec := "fnExactScoreRanking", unfollowed := true, recurses := true, apart := false, narrowed := true }
def FnExactScoreRankingUptoSaid : Prop := fnExactScoreRankingUptoRow.holds Try.pinned (OpenSpec.upto fnExactScoreRankingSpec)

end Rows
end Go.Proofs.Ytblofiimfhbkdab
