/-
  No cell of these rows narrows 'for every input' (looked for: loops, veiled, ifaces, maps, wideKeys, modest, calm, conditions, laid).
  DERIVED. THE GIVEN ROWS OF THIS SEAT. 7 by the template 'for every input the law returns true; each argument reads behind the call as it read before'; 0 by the template 'total and deterministic' (their statements: YtaclpilehlednaaTotals.lean).
  GIVEN WITH THE SEED: the statements are not yours to turn. If you find one false, say at which input.
  Laid BY PROGRAM, IN A SANDBOX (cutbox-rows.mjs): the forced cells as the released guide's own fill.sh prints them over the translation ee688372698bb46c… (all of the seat's roots in one cut). By AI agents, Wed Nov 11 2026. No macro, syntax, notation, axiom, sorry.
-/
import Derived.Test.YtaclpilehlednaaChecked
import GoSem.Claim
import GoSem.ClaimJoined
import GoSem.ClaimMapViews
import Derived.JoinedTies
import Derived.KernelRfl
namespace Go.Proofs.Ytaclpilehlednaa
/- THE CELL 'sum', in the pinned program and in every row, IS THE sha256 OF THE DUMP (.gsa) THAT YtaclpilehlednaaProg.lean LOADS. Nothing in Lean hashes anything: it is a label: what it is worth is what the hold of that sum in a sandbox is worth. -/
noncomputable def Try.pinned : Pinned := { name := "ytaclpilehlednaa", sum := "ee688372698bb46c5a5403214302deac037004577af43a2c8c91bf1f0cd29ff3", checked := Try.checked }
namespace Rows
def none {H : Type} : Left H := { results := [], args := [] }

/-- 'laws.FnExactRankingNumber': WHATEVER THE INPUT: true; the input reads as it did. -/
def fnExactRankingNumberSpec : ChangeSpec := { name := "fnExactRankingNumber", fn := fun _ => fun
  | [d] => { results := [.lit (.bool true)], args := [d] }
  | _ => none }
def fnExactRankingNumberRow : OpenClaim := { program := "ytaclpilehlednaa", sum := "ee688372698bb46c5a5403214302deac037004577af43a2c8c91bf1f0cd29ff3", func := "loop.example/g03202/laws.FnExactRankingNumber", spec := "fnExactRankingNumber", unfollowed := true, recurses := true, apart := false }
def FnExactRankingNumberSaid : Prop := fnExactRankingNumberRow.holds Try.pinned (OpenSpec.ofChange fnExactRankingNumberSpec)

/-- ITS FALSE NEIGHBOUR: 'it returns false'. Refute it at one input. -/
def fnExactRankingNumberWrong : ChangeSpec := { name := "fnExactRankingNumber", fn := fun _ => fun
  | [d] => { results := [.lit (.bool false)], args := [d] }
  | _ => none }
def FnExactRankingNumberWrongFalsely : Prop := fnExactRankingNumberRow.holds Try.pinned (OpenSpec.ofChange fnExactRankingNumberWrong)

/-- 'laws.FnExactWithoutCandidate': WHATEVER THE INPUT: true; the input reads as it did. -/
def fnExactWithoutCandidateSpec : ChangeSpec := { name := "fnExactWithoutCandidate", fn := fun _ => fun
  | [d1, d2] => { results := [.lit (.bool true)], args := [d1, d2] }
  | _ => none }
def fnExactWithoutCandidateRow : OpenClaim := { program := "ytaclpilehlednaa", sum := "ee688372698bb46c5a5403214302deac037004577af43a2c8c91bf1f0cd29ff3", func := "loop.example/g03202/laws.FnExactWithoutCandidate", spec := "fnExactWithoutCandidate", apart := false }
def FnExactWithoutCandidateSaid : Prop := fnExactWithoutCandidateRow.holds Try.pinned (OpenSpec.ofChange fnExactWithoutCandidateSpec)

/-- ITS FALSE NEIGHBOUR: 'it returns false'. Refute it at one input. -/
def fnExactWithoutCandidateWrong : ChangeSpec := { name := "fnExactWithoutCandidate", fn := fun _ => fun
  | [d1, d2] => { results := [.lit (.bool false)], args := [d1, d2] }
  | _ => none }
def FnExactWithoutCandidateWrongFalsely : Prop := fnExactWithoutCandidateRow.holds Try.pinned (OpenSpec.ofChange fnExactWithoutCandidateWrong)

/-- 'laws.FnRankings': WHATEVER THE INPUT: true; the input reads as it did. -/
def fnRankingsSpec : ChangeSpec := { name := "fnRankings", fn := fun _ => fun
  | [d] => { results := [.lit (.bool true)], args := [d] }
  | _ => none }
def fnRankingsRow : OpenClaim := { program := "ytaclpilehlednaa", sum := "ee688372698bb46c5a5403214302deac037004577af43a2c8c91bf1f0cd29ff3", func := "loop.example/g03202/laws.FnRankings", spec := "fnRankings", unfollowed := true, recurses := true, apart := false }
def FnRankingsSaid : Prop := fnRankingsRow.holds Try.pinned (OpenSpec.ofChange fnRankingsSpec)

/-- ITS FALSE NEIGHBOUR: 'it returns false'. Refute it at one input. -/
def fnRankingsWrong : ChangeSpec := { name := "fnRankings", fn := fun _ => fun
  | [d] => { results := [.lit (.bool false)], args := [d] }
  | _ => none }
def FnRankingsWrongFalsely : Prop := fnRankingsRow.holds Try.pinned (OpenSpec.ofChange fnRankingsWrong)

/-- 'laws.FnExactApprovalsOk': WHATEVER THE INPUT: true; the input reads as it did. -/
def fnExactApprovalsOkSpec : ChangeSpec := { name := "fnExactApprovalsOk", fn := fun _ => fun
  | [d] => { results := [.lit (.bool true)], args := [d] }
  | _ => none }
def fnExactApprovalsOkRow : OpenClaim := { program := "ytaclpilehlednaa", sum := "ee688372698bb46c5a5403214302deac037004577af43a2c8c91bf1f0cd29ff3", func := "loop.example/g03202/laws.FnExactApprovalsOk", spec := "fnExactApprovalsOk", unfollowed := true, recurses := true, apart := false }
def FnExactApprovalsOkSaid : Prop := fnExactApprovalsOkRow.holds Try.pinned (OpenSpec.ofChange fnExactApprovalsOkSpec)

/-- ITS FALSE NEIGHBOUR: 'it returns false'. Refute it at one input. -/
def fnExactApprovalsOkWrong : ChangeSpec := { name := "fnExactApprovalsOk", fn := fun _ => fun
  | [d] => { results := [.lit (.bool false)], args := [d] }
  | _ => none }
def FnExactApprovalsOkWrongFalsely : Prop := fnExactApprovalsOkRow.holds Try.pinned (OpenSpec.ofChange fnExactApprovalsOkWrong)

/-- 'laws.FnExactMergeProfile': WHATEVER THE INPUT: true; the input reads as it did. -/
def fnExactMergeProfileSpec : ChangeSpec := { name := "fnExactMergeProfile", fn := fun _ => fun
  | [d] => { results := [.lit (.bool true)], args := [d] }
  | _ => none }
def fnExactMergeProfileRow : OpenClaim := { program := "ytaclpilehlednaa", sum := "ee688372698bb46c5a5403214302deac037004577af43a2c8c91bf1f0cd29ff3", func := "loop.example/g03202/laws.FnExactMergeProfile", spec := "fnExactMergeProfile", unfollowed := true, recurses := true, apart := false }
def FnExactMergeProfileSaid : Prop := fnExactMergeProfileRow.holds Try.pinned (OpenSpec.ofChange fnExactMergeProfileSpec)

/-- ITS FALSE NEIGHBOUR: 'it returns false'. Refute it at one input. -/
def fnExactMergeProfileWrong : ChangeSpec := { name := "fnExactMergeProfile", fn := fun _ => fun
  | [d] => { results := [.lit (.bool false)], args := [d] }
  | _ => none }
def FnExactMergeProfileWrongFalsely : Prop := fnExactMergeProfileRow.holds Try.pinned (OpenSpec.ofChange fnExactMergeProfileWrong)

/-- 'laws.FnExactScoreRanking': WHATEVER THE INPUT: true; the input reads as it did. -/
def fnExactScoreRankingSpec : ChangeSpec := { name := "fnExactScoreRanking", fn := fun _ => fun
  | [d1, d2] => { results := [.lit (.bool true)], args := [d1, d2] }
  | _ => none }
def fnExactScoreRankingRow : OpenClaim := { program := "ytaclpilehlednaa", sum := "ee688372698bb46c5a5403214302deac037004577af43a2c8c91bf1f0cd29ff3", func := "loop.example/g03202/laws.FnExactScoreRanking", spec := "fnExactScoreRanking", unfollowed := true, recurses := true, apart := false }
def FnExactScoreRankingSaid : Prop := fnExactScoreRankingRow.holds Try.pinned (OpenSpec.ofChange fnExactScoreRankingSpec)

/-- ITS FALSE NEIGHBOUR: 'it returns false'. Refute it at one input. -/
def fnExactScoreRankingWrong : ChangeSpec := { name := "fnExactScoreRanking", fn := fun _ => fun
  | [d1, d2] => { results := [.lit (.bool false)], args := [d1, d2] }
  | _ => none }
def FnExactScoreRankingWrongFalsely : Prop := fnExactScoreRankingRow.holds Try.pinned (OpenSpec.ofChange fnExactScoreRankingWrong)

/-- 'laws.FnExactSameProfile': WHATEVER THE INPUT: true; the input reads as it did. -/
def fnExactSameProfileSpec : ChangeSpec := { name := "fnExactSameProfile", fn := fun _ => fun
  | [d1, d2] => { results := [.lit (.bool true)], args := [d1, d2] }
  | _ => none }
def fnExactSameProfileRow : OpenClaim := { program := "ytaclpilehlednaa", sum := "ee688372698bb46c5a5403214302deac037004577af43a2c8c91bf1f0cd29ff3", func := "loop.example/g03202/laws.FnExactSameProfile", spec := "fnExactSameProfile", unfollowed := true, recurses := true, apart := false }
def FnExactSameProfileSaid : Prop := fnExactSameProfileRow.holds Try.pinned (OpenSpec.ofChange fnExactSameProfileSpec)

/-- ITS FALSE NEIGHBOUR: 'it returns false'. Refute it at one input. -/
def fnExactSameProfileWrong : ChangeSpec := { name := "fnExactSameProfile", fn := fun _ => fun
  | [d1, d2] => { results := [.lit (.bool false)], args := [d1, d2] }
  | _ => none }
def FnExactSameProfileWrongFalsely : Prop := fnExactSameProfileRow.holds Try.pinned (OpenSpec.ofChange fnExactSameProfileWrong)

/- THE SECOND FORM. 'bulk': how many values and letters a reading holds, each counted each time it is reached (what is shared counts as often as it is met; a slice's spare places count too). A statement '..UptoSaid' is the law's where the arguments, and the package variables that the reading takes, are together of bulk at most 1048576: NARROWER than '..Said'. Prove '..Said' where nothing that the law and all that it calls make is longer than what came in: it says more and counts as full. Else prove '..UptoSaid'. A law counts once. -/
mutual
def uptoBulk {H : Type} : DataW H → Nat
  | .lit (.string bytes) => bytes.length + 1
  | .lit _ => 1
  | .nil => 1
  | .ptr d => uptoBulk d + 1
  | .slice elems spare => uptoBulkAll elems + uptoBulkAll spare + 1
  | .agg parts => uptoBulkAll parts + 1
  | .iface _ d => uptoBulk d + 1
  | .map entries => uptoBulkEntries entries + 1
  | .held _ => 1
def uptoBulkAll {H : Type} : List (DataW H) → Nat
  | [] => 0
  | d :: r => uptoBulk d + uptoBulkAll r
def uptoBulkEntries {H : Type} : List (Lit × DataW H) → Nat
  | [] => 0
  | x :: r => uptoBulkEntry x + uptoBulkEntries r
def uptoBulkEntry {H : Type} : Lit × DataW H → Nat
  | (.string bytes, d) => bytes.length + uptoBulk d + 1
  | (_, d) => uptoBulk d + 1
 end
def uptoSmall : (H : Type) → List (DataW H) → Bool := fun _ ds => decide (uptoBulkAll ds ≤ 1048576)
def OpenSpec.upto (s : _root_.Go.ChangeSpec) : _root_.Go.OpenSpec := { _root_.Go.OpenSpec.ofChange s with cond := some uptoSmall }

/-- 'laws.FnExactRankingNumber', WHERE WHAT IT READS IS OF BULK AT MOST 1048576: true; the input reads as it did. -/
def fnExactRankingNumberUptoRow : OpenClaim := { program := "ytaclpilehlednaa", sum := "ee688372698bb46c5a5403214302deac037004577af43a2c8c91bf1f0cd29ff3", func := "loop.example/g03202/laws.FnExactRankingNumber", spec := "fnExactRankingNumber", unfollowed := true, recurses := true, apart := false, narrowed := true }
def FnExactRankingNumberUptoSaid : Prop := fnExactRankingNumberUptoRow.holds Try.pinned (OpenSpec.upto fnExactRankingNumberSpec)

/-- 'laws.FnExactWithoutCandidate', WHERE WHAT IT READS IS OF BULK AT MOST 1048576: true; the input reads as it did. -/
def fnExactWithoutCandidateUptoRow : OpenClaim := { program := "ytaclpilehlednaa", sum := "ee688372698bb46c5a5403214302deac037004577af43a2c8c91bf1f0cd29ff3", func := "loop.example/g03202/laws.FnExactWithoutCandidate", spec := "fnExactWithoutCandidate", apart := false, narrowed := true }
def FnExactWithoutCandidateUptoSaid : Prop := fnExactWithoutCandidateUptoRow.holds Try.pinned (OpenSpec.upto fnExactWithoutCandidateSpec)

/-- 'laws.FnRankings', WHERE WHAT IT READS IS OF BULK AT MOST 1048576: true; the input reads as it did. -/
def fnRankingsUptoRow : OpenClaim := { program := "ytaclpilehlednaa", sum := "ee688372698bb46c5a5403214302deac037004577af43a2c8c91bf1f0cd29ff3", func := "loop.example/g03202/laws.FnRankings", spec := "fnRankings", unfollowed := true, recurses := true, apart := false, narrowed := true }
def FnRankingsUptoSaid : Prop := fnRankingsUptoRow.holds Try.pinned (OpenSpec.upto fnRankingsSpec)

/-- 'laws.FnExactApprovalsOk', WHERE WHAT IT READS IS OF BULK AT MOST 1048576: true; the input reads as it did. -/
def fnExactApprovalsOkUptoRow : OpenClaim := { program := "ytaclpilehlednaa", sum := "ee688372698bb46c5a5403214302deac037004577af43a2c8c91bf1f0cd29ff3", func := "loop.example/g03202/laws.FnExactApprovalsOk", spec := "fnExactApprovalsOk", unfollowed := true, recurses := true, apart := false, narrowed := true }
def FnExactApprovalsOkUptoSaid : Prop := fnExactApprovalsOkUptoRow.holds Try.pinned (OpenSpec.upto fnExactApprovalsOkSpec)

/-- 'laws.FnExactMergeProfile', WHERE WHAT IT READS IS OF BULK AT MOST 1048576: true; the input reads as it did. -/
def fnExactMergeProfileUptoRow : OpenClaim := { program := "ytaclpilehlednaa", sum := "ee688372698bb46c5a5403214302deac037004577af43a2c8c91bf1f0cd29ff3", func := "loop.example/g03202/laws.FnExactMergeProfile", spec := "fnExactMergeProfile", unfollowed := true, recurses := true, apart := false, narrowed := true }
def FnExactMergeProfileUptoSaid : Prop := fnExactMergeProfileUptoRow.holds Try.pinned (OpenSpec.upto fnExactMergeProfileSpec)

/-- 'laws.FnExactScoreRanking', WHERE WHAT IT READS IS OF BULK AT MOST 1048576: true; the input reads as it did. -/
def fnExactScoreRankingUptoRow : OpenClaim := { program := "ytaclpilehlednaa", sum := "ee688372698bb46c5a5403214302deac037004577af43a2c8c91bf1f0cd29ff3", func := "loop.example/g03202/laws.FnExactScoreRanking", spec := "fnExactScoreRanking", unfollowed := true, recurses := true, apart := false, narrowed := true }
def FnExactScoreRankingUptoSaid : Prop := fnExactScoreRankingUptoRow.holds Try.pinned (OpenSpec.upto fnExactScoreRankingSpec)

/-- 'laws.FnExactSameProfile', WHERE WHAT IT READS IS OF BULK AT MOST 1048576: true; the input reads as it did. -/
def fnExactSameProfileUptoRow : OpenClaim := { program := "ytaclpilehlednaa", sum := "ee688372698bb46c5a5403214302deac037004577af43a2c8c91bf1f0cd29ff3", func := "loop.example/g03202/laws.FnExactSameProfile", spec := "fnExactSameProfile", unfollowed := true, recurses := true, apart := false, narrowed := true }
def FnExactSameProfileUptoSaid : Prop := fnExactSameProfileUptoRow.holds Try.pinned (OpenSpec.upto fnExactSameProfileSpec)

end Rows
end Go.Proofs.Ytaclpilehlednaa
