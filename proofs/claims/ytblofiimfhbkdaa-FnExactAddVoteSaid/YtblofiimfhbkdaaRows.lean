/-
  No cell of these rows narrows 'for every input' (looked for: loops, veiled, ifaces, maps, wideKeys, modest, calm, conditions, laid).
  DERIVED. THE GIVEN ROWS OF THIS SEAT. 10 by the template 'for every input the law returns true; each argument reads behind the call as it read before'; 0 by the template 'total and deterministic' (their statements: YtblofiimfhbkdaaTotals.lean).
  GIVEN WITH THE SEED: the statements are not yours to turn. If you find one false, say at which input.
  Laid BY PROGRAM, IN A SANDBOX (cutbox-rows.mjs): the forced cells as the released guide's own fill.sh prints them over the translation a41a1d7318f47fee… (all of the seat's roots in one cut). By AI agents, Wed Nov 11 2026. No macro, syntax, notation, axiom, sorry.
-/
import Derived.Test.YtblofiimfhbkdaaChecked
import GoSem.Claim
import GoSem.ClaimJoined
import GoSem.ClaimMapViews
import Derived.JoinedTies
import Derived.KernelRfl
namespace Go.Proofs.Ytblofiimfhbkdaa
/- THE CELL 'sum', in the pinned program and in every row, IS THE sha256 OF THE DUMP (.gsa) THAT YtblofiimfhbkdaaProg.lean LOADS. Nothing in Lean hashes anything: it is a label: what it is worth is what the hold of that sum in a sandbox is worth. -/
noncomputable def Try.pinned : Pinned := { name := "ytblofiimfhbkdaa", sum := "a41a1d7318f47fee400f5d7fd5120939f27020f9216f150b636526a86338da0a", checked := Try.checked }
namespace Rows
def none {H : Type} : Left H := { results := [], args := [] }

/-- 'laws.FnExactApprovalsOk': WHATEVER THE INPUT: true; the input reads as it did. -/
def fnExactApprovalsOkSpec : ChangeSpec := { name := "fnExactApprovalsOk", fn := fun _ => fun
  | [d] => { results := [.lit (.bool true)], args := [d] }
  | _ => none }
def fnExactApprovalsOkRow : OpenClaim := { program := "ytblofiimfhbkdaa", sum := "a41a1d7318f47fee400f5d7fd5120939f27020f9216f150b636526a86338da0a", func := "loop.example/g03202/laws.FnExactApprovalsOk", spec := "fnExactApprovalsOk", unfollowed := true, recurses := true, apart := false }
def FnExactApprovalsOkSaid : Prop := fnExactApprovalsOkRow.holds Try.pinned (OpenSpec.ofChange fnExactApprovalsOkSpec)

/-- ITS FALSE NEIGHBOUR: 'it returns false'. Refute it at one input. -/
def fnExactApprovalsOkWrong : ChangeSpec := { name := "fnExactApprovalsOk", fn := fun _ => fun
  | [d] => { results := [.lit (.bool false)], args := [d] }
  | _ => none }
def FnExactApprovalsOkWrongFalsely : Prop := fnExactApprovalsOkRow.holds Try.pinned (OpenSpec.ofChange fnExactApprovalsOkWrong)

/-- 'laws.FnExactProfileOk': WHATEVER THE INPUT: true; the input reads as it did. -/
def fnExactProfileOkSpec : ChangeSpec := { name := "fnExactProfileOk", fn := fun _ => fun
  | [d] => { results := [.lit (.bool true)], args := [d] }
  | _ => none }
def fnExactProfileOkRow : OpenClaim := { program := "ytblofiimfhbkdaa", sum := "a41a1d7318f47fee400f5d7fd5120939f27020f9216f150b636526a86338da0a", func := "loop.example/g03202/laws.FnExactProfileOk", spec := "fnExactProfileOk", unfollowed := true, recurses := true, apart := false }
def FnExactProfileOkSaid : Prop := fnExactProfileOkRow.holds Try.pinned (OpenSpec.ofChange fnExactProfileOkSpec)

/-- ITS FALSE NEIGHBOUR: 'it returns false'. Refute it at one input. -/
def fnExactProfileOkWrong : ChangeSpec := { name := "fnExactProfileOk", fn := fun _ => fun
  | [d] => { results := [.lit (.bool false)], args := [d] }
  | _ => none }
def FnExactProfileOkWrongFalsely : Prop := fnExactProfileOkRow.holds Try.pinned (OpenSpec.ofChange fnExactProfileOkWrong)

/-- 'laws.FnExactIsPeakedProfile': WHATEVER THE INPUT: true; the input reads as it did. -/
def fnExactIsPeakedProfileSpec : ChangeSpec := { name := "fnExactIsPeakedProfile", fn := fun _ => fun
  | [d1, d2] => { results := [.lit (.bool true)], args := [d1, d2] }
  | _ => none }
def fnExactIsPeakedProfileRow : OpenClaim := { program := "ytblofiimfhbkdaa", sum := "a41a1d7318f47fee400f5d7fd5120939f27020f9216f150b636526a86338da0a", func := "loop.example/g03202/laws.FnExactIsPeakedProfile", spec := "fnExactIsPeakedProfile", unfollowed := true, recurses := true, apart := false }
def FnExactIsPeakedProfileSaid : Prop := fnExactIsPeakedProfileRow.holds Try.pinned (OpenSpec.ofChange fnExactIsPeakedProfileSpec)

/-- ITS FALSE NEIGHBOUR: 'it returns false'. Refute it at one input. -/
def fnExactIsPeakedProfileWrong : ChangeSpec := { name := "fnExactIsPeakedProfile", fn := fun _ => fun
  | [d1, d2] => { results := [.lit (.bool false)], args := [d1, d2] }
  | _ => none }
def FnExactIsPeakedProfileWrongFalsely : Prop := fnExactIsPeakedProfileRow.holds Try.pinned (OpenSpec.ofChange fnExactIsPeakedProfileWrong)

/-- 'laws.FnExactKemenyScore': WHATEVER THE INPUT: true; the input reads as it did. -/
def fnExactKemenyScoreSpec : ChangeSpec := { name := "fnExactKemenyScore", fn := fun _ => fun
  | [d1, d2] => { results := [.lit (.bool true)], args := [d1, d2] }
  | _ => none }
def fnExactKemenyScoreRow : OpenClaim := { program := "ytblofiimfhbkdaa", sum := "a41a1d7318f47fee400f5d7fd5120939f27020f9216f150b636526a86338da0a", func := "loop.example/g03202/laws.FnExactKemenyScore", spec := "fnExactKemenyScore", unfollowed := true, recurses := true, apart := false }
def FnExactKemenyScoreSaid : Prop := fnExactKemenyScoreRow.holds Try.pinned (OpenSpec.ofChange fnExactKemenyScoreSpec)

/-- ITS FALSE NEIGHBOUR: 'it returns false'. Refute it at one input. -/
def fnExactKemenyScoreWrong : ChangeSpec := { name := "fnExactKemenyScore", fn := fun _ => fun
  | [d1, d2] => { results := [.lit (.bool false)], args := [d1, d2] }
  | _ => none }
def FnExactKemenyScoreWrongFalsely : Prop := fnExactKemenyScoreRow.holds Try.pinned (OpenSpec.ofChange fnExactKemenyScoreWrong)

/-- 'laws.FnExactLastPlaces': WHATEVER THE INPUT: true; the input reads as it did. -/
def fnExactLastPlacesSpec : ChangeSpec := { name := "fnExactLastPlaces", fn := fun _ => fun
  | [d] => { results := [.lit (.bool true)], args := [d] }
  | _ => none }
def fnExactLastPlacesRow : OpenClaim := { program := "ytblofiimfhbkdaa", sum := "a41a1d7318f47fee400f5d7fd5120939f27020f9216f150b636526a86338da0a", func := "loop.example/g03202/laws.FnExactLastPlaces", spec := "fnExactLastPlaces", unfollowed := true, recurses := true, apart := false }
def FnExactLastPlacesSaid : Prop := fnExactLastPlacesRow.holds Try.pinned (OpenSpec.ofChange fnExactLastPlacesSpec)

/-- ITS FALSE NEIGHBOUR: 'it returns false'. Refute it at one input. -/
def fnExactLastPlacesWrong : ChangeSpec := { name := "fnExactLastPlaces", fn := fun _ => fun
  | [d] => { results := [.lit (.bool false)], args := [d] }
  | _ => none }
def FnExactLastPlacesWrongFalsely : Prop := fnExactLastPlacesRow.holds Try.pinned (OpenSpec.ofChange fnExactLastPlacesWrong)

/-- 'laws.FnExactRenameProfile': WHATEVER THE INPUT: true; the input reads as it did. -/
def fnExactRenameProfileSpec : ChangeSpec := { name := "fnExactRenameProfile", fn := fun _ => fun
  | [d1, d2] => { results := [.lit (.bool true)], args := [d1, d2] }
  | _ => none }
def fnExactRenameProfileRow : OpenClaim := { program := "ytblofiimfhbkdaa", sum := "a41a1d7318f47fee400f5d7fd5120939f27020f9216f150b636526a86338da0a", func := "loop.example/g03202/laws.FnExactRenameProfile", spec := "fnExactRenameProfile", unfollowed := true, recurses := true, apart := false }
def FnExactRenameProfileSaid : Prop := fnExactRenameProfileRow.holds Try.pinned (OpenSpec.ofChange fnExactRenameProfileSpec)

/-- ITS FALSE NEIGHBOUR: 'it returns false'. Refute it at one input. -/
def fnExactRenameProfileWrong : ChangeSpec := { name := "fnExactRenameProfile", fn := fun _ => fun
  | [d1, d2] => { results := [.lit (.bool false)], args := [d1, d2] }
  | _ => none }
def FnExactRenameProfileWrongFalsely : Prop := fnExactRenameProfileRow.holds Try.pinned (OpenSpec.ofChange fnExactRenameProfileWrong)

/-- 'laws.FnExactScoresOf': WHATEVER THE INPUT: true; the input reads as it did. -/
def fnExactScoresOfSpec : ChangeSpec := { name := "fnExactScoresOf", fn := fun _ => fun
  | [d1, d2] => { results := [.lit (.bool true)], args := [d1, d2] }
  | _ => none }
def fnExactScoresOfRow : OpenClaim := { program := "ytblofiimfhbkdaa", sum := "a41a1d7318f47fee400f5d7fd5120939f27020f9216f150b636526a86338da0a", func := "loop.example/g03202/laws.FnExactScoresOf", spec := "fnExactScoresOf", unfollowed := true, recurses := true, apart := false }
def FnExactScoresOfSaid : Prop := fnExactScoresOfRow.holds Try.pinned (OpenSpec.ofChange fnExactScoresOfSpec)

/-- ITS FALSE NEIGHBOUR: 'it returns false'. Refute it at one input. -/
def fnExactScoresOfWrong : ChangeSpec := { name := "fnExactScoresOf", fn := fun _ => fun
  | [d1, d2] => { results := [.lit (.bool false)], args := [d1, d2] }
  | _ => none }
def FnExactScoresOfWrongFalsely : Prop := fnExactScoresOfRow.holds Try.pinned (OpenSpec.ofChange fnExactScoresOfWrong)

/-- 'laws.FnExactWithRanking': WHATEVER THE INPUT: true; the input reads as it did. -/
def fnExactWithRankingSpec : ChangeSpec := { name := "fnExactWithRanking", fn := fun _ => fun
  | [d1, d2, d3] => { results := [.lit (.bool true)], args := [d1, d2, d3] }
  | _ => none }
def fnExactWithRankingRow : OpenClaim := { program := "ytblofiimfhbkdaa", sum := "a41a1d7318f47fee400f5d7fd5120939f27020f9216f150b636526a86338da0a", func := "loop.example/g03202/laws.FnExactWithRanking", spec := "fnExactWithRanking", unfollowed := true, recurses := true, apart := false }
def FnExactWithRankingSaid : Prop := fnExactWithRankingRow.holds Try.pinned (OpenSpec.ofChange fnExactWithRankingSpec)

/-- ITS FALSE NEIGHBOUR: 'it returns false'. Refute it at one input. -/
def fnExactWithRankingWrong : ChangeSpec := { name := "fnExactWithRanking", fn := fun _ => fun
  | [d1, d2, d3] => { results := [.lit (.bool false)], args := [d1, d2, d3] }
  | _ => none }
def FnExactWithRankingWrongFalsely : Prop := fnExactWithRankingRow.holds Try.pinned (OpenSpec.ofChange fnExactWithRankingWrong)

/-- 'laws.FnExactAddVote': WHATEVER THE INPUT: true; the input reads as it did. -/
def fnExactAddVoteSpec : ChangeSpec := { name := "fnExactAddVote", fn := fun _ => fun
  | [d1, d2] => { results := [.lit (.bool true)], args := [d1, d2] }
  | _ => none }
def fnExactAddVoteRow : OpenClaim := { program := "ytblofiimfhbkdaa", sum := "a41a1d7318f47fee400f5d7fd5120939f27020f9216f150b636526a86338da0a", func := "loop.example/g03202/laws.FnExactAddVote", spec := "fnExactAddVote", unfollowed := true, recurses := true, apart := false }
def FnExactAddVoteSaid : Prop := fnExactAddVoteRow.holds Try.pinned (OpenSpec.ofChange fnExactAddVoteSpec)

/-- ITS FALSE NEIGHBOUR: 'it returns false'. Refute it at one input. -/
def fnExactAddVoteWrong : ChangeSpec := { name := "fnExactAddVote", fn := fun _ => fun
  | [d1, d2] => { results := [.lit (.bool false)], args := [d1, d2] }
  | _ => none }
def FnExactAddVoteWrongFalsely : Prop := fnExactAddVoteRow.holds Try.pinned (OpenSpec.ofChange fnExactAddVoteWrong)

/-- 'laws.FnExactReverseProfile': WHATEVER THE INPUT: true; the input reads as it did. -/
def fnExactReverseProfileSpec : ChangeSpec := { name := "fnExactReverseProfile", fn := fun _ => fun
  | [d] => { results := [.lit (.bool true)], args := [d] }
  | _ => none }
def fnExactReverseProfileRow : OpenClaim := { program := "ytblofiimfhbkdaa", sum := "a41a1d7318f47fee400f5d7fd5120939f27020f9216f150b636526a86338da0a", func := "loop.example/g03202/laws.FnExactReverseProfile", spec := "fnExactReverseProfile", unfollowed := true, recurses := true, apart := false }
def FnExactReverseProfileSaid : Prop := fnExactReverseProfileRow.holds Try.pinned (OpenSpec.ofChange fnExactReverseProfileSpec)

/-- ITS FALSE NEIGHBOUR: 'it returns false'. Refute it at one input. -/
def fnExactReverseProfileWrong : ChangeSpec := { name := "fnExactReverseProfile", fn := fun _ => fun
  | [d] => { results := [.lit (.bool false)], args := [d] }
  | _ => none }
def FnExactReverseProfileWrongFalsely : Prop := fnExactReverseProfileRow.holds Try.pinned (OpenSpec.ofChange fnExactReverseProfileWrong)

/- THE SECOND FORM. 'bulk': how many values and letters a reading holds, each counted each time it is reached (what is shared counts as often as it is met; a slice's spare places count too). A statement '..UptoSaid' is the law's where the arguments, and the package variables that the reading takes, are together of bulk at most 1048576: NARROWER than '..Said'. Prove '..Said' where nothing that the law and all that it calls make is longer than what came in: it says more and counts as full. Else prove '..UptoSaid'. A law counts once. -/
mutual
def uptoBulk {H : Type} : DataW H → Nat
  | .lit (.string bytes) => bytes.length + 1
  | .lit _ => 1
  | .nil => 1
  | .ptr d => uptoBulk d + 1
  | .slice elems spare => uptoBulkAll elems + uptoBulkAll spare + 1
  | .agg parts => uptoBulkAll parts + 1
  | .iface _ d => uptoBulk d + 1
  | .map entries => uptoBulkEntries entries + 1
  | .held _ => 1
def uptoBulkAll {H : Type} : List (DataW H) → Nat
  | [] => 0
  | d :: r => uptoBulk d + uptoBulkAll r
def uptoBulkEntries {H : Type} : List (Lit × DataW H) → Nat
  | [] => 0
  | x :: r => uptoBulkEntry x + uptoBulkEntries r
def uptoBulkEntry {H : Type} : Lit × DataW H → Nat
  | (.string bytes, d) => bytes.length + uptoBulk d + 1
  | (_, d) => uptoBulk d + 1
 end
def uptoSmall : (H : Type) → List (DataW H) → Bool := fun _ ds => decide (uptoBulkAll ds ≤ 1048576)
def OpenSpec.upto (s : _root_.Go.ChangeSpec) : _root_.Go.OpenSpec := { _root_.Go.OpenSpec.ofChange s with cond := some uptoSmall }

/-- 'laws.FnExactApprovalsOk', WHERE WHAT IT READS IS OF BULK AT MOST 1048576: true; the input reads as it did. -/
def fnExactApprovalsOkUptoRow : OpenClaim := { program := "ytblofiimfhbkdaa", sum := "a41a1d7318f47fee400f5d7fd5120939f27020f9216f150b636526a86338da0a", func := "loop.example/g03202/laws.FnExactApprovalsOk", spec := "fnExactApprovalsOk", unfollowed := true, recurses := true, apart := false, narrowed := true }
def FnExactApprovalsOkUptoSaid : Prop := fnExactApprovalsOkUptoRow.holds Try.pinned (OpenSpec.upto fnExactApprovalsOkSpec)

/-- 'laws.FnExactProfileOk', WHERE WHAT IT READS IS OF BULK AT MOST 1048576: true; the input reads as it did. -/
def fnExactProfileOkUptoRow : OpenClaim := { program := "ytblofiimfhbkdaa", sum := "a41a1d7318f47fee400f5d7fd5120939f27020f9216f150b636526a86338da0a", func := "loop.example/g03202/laws.FnExactProfileOk", spec := "fnExactProfileOk", unfollowed := true, recurses := true, apart := false, narrowed := true }
def FnExactProfileOkUptoSaid : Prop := fnExactProfileOkUptoRow.holds Try.pinned (OpenSpec.upto fnExactProfileOkSpec)

/-- 'laws.FnExactIsPeakedProfile', WHERE WHAT IT READS IS OF BULK AT MOST 1048576: true; the input reads as it did. -/
def fnExactIsPeakedProfileUptoRow : OpenClaim := { program := "ytblofiimfhbkdaa", sum := "a41a1d7318f47fee400f5d7fd5120939f27020f9216f150b636526a86338da0a", func := "loop.example/g03202/laws.FnExactIsPeakedProfile", spec := "fnExactIsPeakedProfile", unfollowed := true, recurses := true, apart := false, narrowed := true }
def FnExactIsPeakedProfileUptoSaid : Prop := fnExactIsPeakedProfileUptoRow.holds Try.pinned (OpenSpec.upto fnExactIsPeakedProfileSpec)

/-- 'laws.FnExactKemenyScore', WHERE WHAT IT READS IS OF BULK AT MOST 1048576: true; the input reads as it did. -/
def fnExactKemenyScoreUptoRow : OpenClaim := { program := "ytblofiimfhbkdaa", sum := "a41a1d7318f47fee400f5d7fd5120939f27020f9216f150b636526a86338da0a", func := "loop.example/g03202/laws.FnExactKemenyScore", spec := "fnExactKemenyScore", unfollowed := true, recurses := true, apart := false, narrowed := true }
def FnExactKemenyScoreUptoSaid : Prop := fnExactKemenyScoreUptoRow.holds Try.pinned (OpenSpec.upto fnExactKemenyScoreSpec)

/-- 'laws.FnExactLastPlaces', WHERE WHAT IT READS IS OF BULK AT MOST 1048576: true; the input reads as it did. -/
def fnExactLastPlacesUptoRow : OpenClaim := { program := "ytblofiimfhbkdaa", sum := "a41a1d7318f47fee400f5d7fd5120939f27020f9216f150b636526a86338da0a", func := "loop.example/g03202/laws.FnExactLastPlaces", spec := "fnExactLastPlaces", unfollowed := true, recurses := true, apart := false, narrowed := true }
def FnExactLastPlacesUptoSaid : Prop := fnExactLastPlacesUptoRow.holds Try.pinned (OpenSpec.upto fnExactLastPlacesSpec)

/-- 'laws.FnExactRenameProfile', WHERE WHAT IT READS IS OF BULK AT MOST 1048576: true; the input reads as it did. -/
def fnExactRenameProfileUptoRow : OpenClaim := { program := "ytblofiimfhbkdaa", sum := "a41a1d7318f47fee400f5d7fd5120939f27020f9216f150b636526a86338da0a", func := "loop.example/g03202/laws.FnExactRenameProfile", spec := "fnExactRenameProfile", unfollowed := true, recurses := true, apart := false, narrowed := true }
def FnExactRenameProfileUptoSaid : Prop := fnExactRenameProfileUptoRow.holds Try.pinned (OpenSpec.upto fnExactRenameProfileSpec)

/-- 'laws.FnExactScoresOf', WHERE WHAT IT READS IS OF BULK AT MOST 1048576: true; the input reads as it did. -/
def fnExactScoresOfUptoRow : OpenClaim := { program := "ytblofiimfhbkdaa", sum := "a41a1d7318f47fee400f5d7fd5120939f27020f9216f150b636526a86338da0a", func := "loop.example/g03202/laws.FnExactScoresOf", spec := "fnExactScoresOf", unfollowed := true, recurses := true, apart := false, narrowed := true }
def FnExactScoresOfUptoSaid : Prop := fnExactScoresOfUptoRow.holds Try.pinned (OpenSpec.upto fnExactScoresOfSpec)

/-- 'laws.FnExactWithRanking', WHERE WHAT IT READS IS OF BULK AT MOST 1048576: true; the input reads as it did. -/
def fnExactWithRankingUptoRow : OpenClaim := { program := "ytblofiimfhbkdaa", sum := "a41a1d7318f47fee400f5d7fd5120939f27020f9216f150b636526a86338da0a", func := "loop.example/g03202/laws.FnExactWithRanking", spec := "fnExactWithRanking", unfollowed := true, recurses := true, apart := false, narrowed := true }
def FnExactWithRankingUptoSaid : Prop := fnExactWithRankingUptoRow.holds Try.pinned (OpenSpec.upto fnExactWithRankingSpec)

/-- 'laws.FnExactAddVote', WHERE WHAT IT READS IS OF BULK AT MOST 1048576: true; the input reads as it did. -/
def fnExactAddVoteUptoRow : OpenClaim := { program := "ytblofiimfhbkdaa", sum := "a41a1d7318f47fee400f5d7fd5120939f27020f9216f150b636526a86338da0a", func := "loop.example/g03202/laws.FnExactAddVote", spec := "fnExactAddVote", unfollowed := true, recurses := true, apart := false, narrowed := true }
def FnExactAddVoteUptoSaid : Prop := fnExactAddVoteUptoRow.holds Try.pinned (OpenSpec.upto fnExactAddVoteSpec)

/-- 'laws.FnExactReverseProfile', WHERE WHAT IT READS IS OF BULK AT MOST 1048576: true; the input reads as it did. -/
def fnExactReverseProfileUptoRow : OpenClaim := { program := "ytblofiimfhbkdaa", sum := "a41a1d7318f47fee400f5d7fd5120939f27020f9216f150b636526a86338da0a", func := "loop.example/g03202/laws.FnExactReverseProfile", spec := "fnExactReverseProfile", unfollowed := true, recurses := true, apart := false, narrowed := true }
def FnExactReverseProfileUptoSaid : Prop := fnExactReverseProfileUptoRow.holds Try.pinned (OpenSpec.upto fnExactReverseProfileSpec)

end Rows
end Go.Proofs.Ytblofiimfhbkdaa
