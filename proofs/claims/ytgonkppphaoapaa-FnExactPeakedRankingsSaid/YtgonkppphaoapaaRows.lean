/-
  No cell of these rows narrows 'for every input' (looked for: loops, veiled, ifaces, maps, wideKeys, modest, calm, conditions, laid).
  DERIVED. THE GIVEN ROWS OF THIS SEAT. 19 by the template 'for every input the law returns true; each argument reads behind the call as it read before'; 0 by the template 'total and deterministic' (their statements: YtgonkppphaoapaaTotals.lean).
  GIVEN WITH THE SEED: the statements are not yours to turn. If you find one false, say at which input.
  Laid BY PROGRAM, IN A SANDBOX (cutbox-rows.mjs): the forced cells as the released guide's own fill.sh prints them over the translation aeb1aa941b766dd2… (all of the seat's roots in one cut). By AI agents, Wed Nov 11 2026. No macro, syntax, notation, axiom, sorry.
-/
import Derived.Test.YtgonkppphaoapaaChecked
import GoSem.Claim
import GoSem.ClaimJoined
import GoSem.ClaimMapViews
import Derived.JoinedTies
import Derived.KernelRfl
namespace Go.Proofs.Ytgonkppphaoapaa
/- THE CELL 'sum', in the pinned program and in every row, IS THE sha256 OF THE DUMP (.gsa) THAT YtgonkppphaoapaaProg.lean LOADS. Nothing in Lean hashes anything: it is a label: what it is worth is what the hold of that sum in a sandbox is worth. -/
noncomputable def Try.pinned : Pinned := { name := "ytgonkppphaoapaa", sum := "aeb1aa941b766dd21b8e19279fa7aa893a15f2daac7fd007318dec350dd130af", checked := Try.checked }
namespace Rows
def none {H : Type} : Left H := { results := [], args := [] }

/-- 'laws.FnExactLastOf': WHATEVER THE INPUT: true; the input reads as it did. -/
def fnExactLastOfSpec : ChangeSpec := { name := "fnExactLastOf", fn := fun _ => fun
  | [d] => { results := [.lit (.bool true)], args := [d] }
  | _ => none }
def fnExactLastOfRow : OpenClaim := { program := "ytgonkppphaoapaa", sum := "aeb1aa941b766dd21b8e19279fa7aa893a15f2daac7fd007318dec350dd130af", func := "loop.example/g03202/laws.FnExactLastOf", spec := "fnExactLastOf", apart := false }
def FnExactLastOfSaid : Prop := fnExactLastOfRow.holds Try.pinned (OpenSpec.ofChange fnExactLastOfSpec)

/-- ITS FALSE NEIGHBOUR: 'it returns false'. Refute it at one input. -/
def fnExactLastOfWrong : ChangeSpec := { name := "fnExactLastOf", fn := fun _ => fun
  | [d] => { results := [.lit (.bool false)], args := [d] }
  | _ => none }
def FnExactLastOfWrongFalsely : Prop := fnExactLastOfRow.holds Try.pinned (OpenSpec.ofChange fnExactLastOfWrong)

/-- 'laws.FnExactPlaceOf': WHATEVER THE INPUT: true; the input reads as it did. -/
def fnExactPlaceOfSpec : ChangeSpec := { name := "fnExactPlaceOf", fn := fun _ => fun
  | [d1, d2] => { results := [.lit (.bool true)], args := [d1, d2] }
  | _ => none }
def fnExactPlaceOfRow : OpenClaim := { program := "ytgonkppphaoapaa", sum := "aeb1aa941b766dd21b8e19279fa7aa893a15f2daac7fd007318dec350dd130af", func := "loop.example/g03202/laws.FnExactPlaceOf", spec := "fnExactPlaceOf", apart := false }
def FnExactPlaceOfSaid : Prop := fnExactPlaceOfRow.holds Try.pinned (OpenSpec.ofChange fnExactPlaceOfSpec)

/-- ITS FALSE NEIGHBOUR: 'it returns false'. Refute it at one input. -/
def fnExactPlaceOfWrong : ChangeSpec := { name := "fnExactPlaceOf", fn := fun _ => fun
  | [d1, d2] => { results := [.lit (.bool false)], args := [d1, d2] }
  | _ => none }
def FnExactPlaceOfWrongFalsely : Prop := fnExactPlaceOfRow.holds Try.pinned (OpenSpec.ofChange fnExactPlaceOfWrong)

/-- 'laws.FnExactPrefers': WHATEVER THE INPUT: true; the input reads as it did. -/
def fnExactPrefersSpec : ChangeSpec := { name := "fnExactPrefers", fn := fun _ => fun
  | [d1, d2, d3] => { results := [.lit (.bool true)], args := [d1, d2, d3] }
  | _ => none }
def fnExactPrefersRow : OpenClaim := { program := "ytgonkppphaoapaa", sum := "aeb1aa941b766dd21b8e19279fa7aa893a15f2daac7fd007318dec350dd130af", func := "loop.example/g03202/laws.FnExactPrefers", spec := "fnExactPrefers", apart := false }
def FnExactPrefersSaid : Prop := fnExactPrefersRow.holds Try.pinned (OpenSpec.ofChange fnExactPrefersSpec)

/-- ITS FALSE NEIGHBOUR: 'it returns false'. Refute it at one input. -/
def fnExactPrefersWrong : ChangeSpec := { name := "fnExactPrefers", fn := fun _ => fun
  | [d1, d2, d3] => { results := [.lit (.bool false)], args := [d1, d2, d3] }
  | _ => none }
def FnExactPrefersWrongFalsely : Prop := fnExactPrefersRow.holds Try.pinned (OpenSpec.ofChange fnExactPrefersWrong)

/-- 'laws.FnExactPluralityWeights': WHATEVER THE INPUT: true; the input reads as it did. -/
def fnExactPluralityWeightsSpec : ChangeSpec := { name := "fnExactPluralityWeights", fn := fun _ => fun
  | [d] => { results := [.lit (.bool true)], args := [d] }
  | _ => none }
def fnExactPluralityWeightsRow : OpenClaim := { program := "ytgonkppphaoapaa", sum := "aeb1aa941b766dd21b8e19279fa7aa893a15f2daac7fd007318dec350dd130af", func := "loop.example/g03202/laws.FnExactPluralityWeights", spec := "fnExactPluralityWeights", unfollowed := true, recurses := true, apart := false }
def FnExactPluralityWeightsSaid : Prop := fnExactPluralityWeightsRow.holds Try.pinned (OpenSpec.ofChange fnExactPluralityWeightsSpec)

/-- ITS FALSE NEIGHBOUR: 'it returns false'. Refute it at one input. -/
def fnExactPluralityWeightsWrong : ChangeSpec := { name := "fnExactPluralityWeights", fn := fun _ => fun
  | [d] => { results := [.lit (.bool false)], args := [d] }
  | _ => none }
def FnExactPluralityWeightsWrongFalsely : Prop := fnExactPluralityWeightsRow.holds Try.pinned (OpenSpec.ofChange fnExactPluralityWeightsWrong)

/-- 'laws.FnExactBordaWeights': WHATEVER THE INPUT: true; the input reads as it did. -/
def fnExactBordaWeightsSpec : ChangeSpec := { name := "fnExactBordaWeights", fn := fun _ => fun
  | [d] => { results := [.lit (.bool true)], args := [d] }
  | _ => none }
def fnExactBordaWeightsRow : OpenClaim := { program := "ytgonkppphaoapaa", sum := "aeb1aa941b766dd21b8e19279fa7aa893a15f2daac7fd007318dec350dd130af", func := "loop.example/g03202/laws.FnExactBordaWeights", spec := "fnExactBordaWeights", unfollowed := true, recurses := true, apart := false }
def FnExactBordaWeightsSaid : Prop := fnExactBordaWeightsRow.holds Try.pinned (OpenSpec.ofChange fnExactBordaWeightsSpec)

/-- ITS FALSE NEIGHBOUR: 'it returns false'. Refute it at one input. -/
def fnExactBordaWeightsWrong : ChangeSpec := { name := "fnExactBordaWeights", fn := fun _ => fun
  | [d] => { results := [.lit (.bool false)], args := [d] }
  | _ => none }
def FnExactBordaWeightsWrongFalsely : Prop := fnExactBordaWeightsRow.holds Try.pinned (OpenSpec.ofChange fnExactBordaWeightsWrong)

/-- 'laws.FnExactVetoWeights': WHATEVER THE INPUT: true; the input reads as it did. -/
def fnExactVetoWeightsSpec : ChangeSpec := { name := "fnExactVetoWeights", fn := fun _ => fun
  | [d] => { results := [.lit (.bool true)], args := [d] }
  | _ => none }
def fnExactVetoWeightsRow : OpenClaim := { program := "ytgonkppphaoapaa", sum := "aeb1aa941b766dd21b8e19279fa7aa893a15f2daac7fd007318dec350dd130af", func := "loop.example/g03202/laws.FnExactVetoWeights", spec := "fnExactVetoWeights", unfollowed := true, recurses := true, apart := false }
def FnExactVetoWeightsSaid : Prop := fnExactVetoWeightsRow.holds Try.pinned (OpenSpec.ofChange fnExactVetoWeightsSpec)

/-- ITS FALSE NEIGHBOUR: 'it returns false'. Refute it at one input. -/
def fnExactVetoWeightsWrong : ChangeSpec := { name := "fnExactVetoWeights", fn := fun _ => fun
  | [d] => { results := [.lit (.bool false)], args := [d] }
  | _ => none }
def FnExactVetoWeightsWrongFalsely : Prop := fnExactVetoWeightsRow.holds Try.pinned (OpenSpec.ofChange fnExactVetoWeightsWrong)

/-- 'laws.FnExactRankingOk': WHATEVER THE INPUT: true; the input reads as it did. -/
def fnExactRankingOkSpec : ChangeSpec := { name := "fnExactRankingOk", fn := fun _ => fun
  | [d1, d2] => { results := [.lit (.bool true)], args := [d1, d2] }
  | _ => none }
def fnExactRankingOkRow : OpenClaim := { program := "ytgonkppphaoapaa", sum := "aeb1aa941b766dd21b8e19279fa7aa893a15f2daac7fd007318dec350dd130af", func := "loop.example/g03202/laws.FnExactRankingOk", spec := "fnExactRankingOk", apart := false }
def FnExactRankingOkSaid : Prop := fnExactRankingOkRow.holds Try.pinned (OpenSpec.ofChange fnExactRankingOkSpec)

/-- ITS FALSE NEIGHBOUR: 'it returns false'. Refute it at one input. -/
def fnExactRankingOkWrong : ChangeSpec := { name := "fnExactRankingOk", fn := fun _ => fun
  | [d1, d2] => { results := [.lit (.bool false)], args := [d1, d2] }
  | _ => none }
def FnExactRankingOkWrongFalsely : Prop := fnExactRankingOkRow.holds Try.pinned (OpenSpec.ofChange fnExactRankingOkWrong)

/-- 'laws.FnExactReverseRanking': WHATEVER THE INPUT: true; the input reads as it did. -/
def fnExactReverseRankingSpec : ChangeSpec := { name := "fnExactReverseRanking", fn := fun _ => fun
  | [d] => { results := [.lit (.bool true)], args := [d] }
  | _ => none }
def fnExactReverseRankingRow : OpenClaim := { program := "ytgonkppphaoapaa", sum := "aeb1aa941b766dd21b8e19279fa7aa893a15f2daac7fd007318dec350dd130af", func := "loop.example/g03202/laws.FnExactReverseRanking", spec := "fnExactReverseRanking", apart := false }
def FnExactReverseRankingSaid : Prop := fnExactReverseRankingRow.holds Try.pinned (OpenSpec.ofChange fnExactReverseRankingSpec)

/-- ITS FALSE NEIGHBOUR: 'it returns false'. Refute it at one input. -/
def fnExactReverseRankingWrong : ChangeSpec := { name := "fnExactReverseRanking", fn := fun _ => fun
  | [d] => { results := [.lit (.bool false)], args := [d] }
  | _ => none }
def FnExactReverseRankingWrongFalsely : Prop := fnExactReverseRankingRow.holds Try.pinned (OpenSpec.ofChange fnExactReverseRankingWrong)

/-- 'laws.FnExactWeightsOk': WHATEVER THE INPUT: true; the input reads as it did. -/
def fnExactWeightsOkSpec : ChangeSpec := { name := "fnExactWeightsOk", fn := fun _ => fun
  | [d1, d2] => { results := [.lit (.bool true)], args := [d1, d2] }
  | _ => none }
def fnExactWeightsOkRow : OpenClaim := { program := "ytgonkppphaoapaa", sum := "aeb1aa941b766dd21b8e19279fa7aa893a15f2daac7fd007318dec350dd130af", func := "loop.example/g03202/laws.FnExactWeightsOk", spec := "fnExactWeightsOk", unfollowed := true, recurses := true, apart := false }
def FnExactWeightsOkSaid : Prop := fnExactWeightsOkRow.holds Try.pinned (OpenSpec.ofChange fnExactWeightsOkSpec)

/-- ITS FALSE NEIGHBOUR: 'it returns false'. Refute it at one input. -/
def fnExactWeightsOkWrong : ChangeSpec := { name := "fnExactWeightsOk", fn := fun _ => fun
  | [d1, d2] => { results := [.lit (.bool false)], args := [d1, d2] }
  | _ => none }
def FnExactWeightsOkWrongFalsely : Prop := fnExactWeightsOkRow.holds Try.pinned (OpenSpec.ofChange fnExactWeightsOkWrong)

/-- 'laws.FnExactFormatRanking': WHATEVER THE INPUT: true; the input reads as it did. -/
def fnExactFormatRankingSpec : ChangeSpec := { name := "fnExactFormatRanking", fn := fun _ => fun
  | [d] => { results := [.lit (.bool true)], args := [d] }
  | _ => none }
def fnExactFormatRankingRow : OpenClaim := { program := "ytgonkppphaoapaa", sum := "aeb1aa941b766dd21b8e19279fa7aa893a15f2daac7fd007318dec350dd130af", func := "loop.example/g03202/laws.FnExactFormatRanking", spec := "fnExactFormatRanking", apart := false }
def FnExactFormatRankingSaid : Prop := fnExactFormatRankingRow.holds Try.pinned (OpenSpec.ofChange fnExactFormatRankingSpec)

/-- ITS FALSE NEIGHBOUR: 'it returns false'. Refute it at one input. -/
def fnExactFormatRankingWrong : ChangeSpec := { name := "fnExactFormatRanking", fn := fun _ => fun
  | [d] => { results := [.lit (.bool false)], args := [d] }
  | _ => none }
def FnExactFormatRankingWrongFalsely : Prop := fnExactFormatRankingRow.holds Try.pinned (OpenSpec.ofChange fnExactFormatRankingWrong)

/-- 'laws.FnExactParseRanking': WHATEVER THE INPUT: true; the input reads as it did. -/
def fnExactParseRankingSpec : ChangeSpec := { name := "fnExactParseRanking", fn := fun _ => fun
  | [d] => { results := [.lit (.bool true)], args := [d] }
  | _ => none }
def fnExactParseRankingRow : OpenClaim := { program := "ytgonkppphaoapaa", sum := "aeb1aa941b766dd21b8e19279fa7aa893a15f2daac7fd007318dec350dd130af", func := "loop.example/g03202/laws.FnExactParseRanking", spec := "fnExactParseRanking", apart := false }
def FnExactParseRankingSaid : Prop := fnExactParseRankingRow.holds Try.pinned (OpenSpec.ofChange fnExactParseRankingSpec)

/-- ITS FALSE NEIGHBOUR: 'it returns false'. Refute it at one input. -/
def fnExactParseRankingWrong : ChangeSpec := { name := "fnExactParseRanking", fn := fun _ => fun
  | [d] => { results := [.lit (.bool false)], args := [d] }
  | _ => none }
def FnExactParseRankingWrongFalsely : Prop := fnExactParseRankingRow.holds Try.pinned (OpenSpec.ofChange fnExactParseRankingWrong)

/-- 'laws.FnExactIsPeaked': WHATEVER THE INPUT: true; the input reads as it did. -/
def fnExactIsPeakedSpec : ChangeSpec := { name := "fnExactIsPeaked", fn := fun _ => fun
  | [d1, d2] => { results := [.lit (.bool true)], args := [d1, d2] }
  | _ => none }
def fnExactIsPeakedRow : OpenClaim := { program := "ytgonkppphaoapaa", sum := "aeb1aa941b766dd21b8e19279fa7aa893a15f2daac7fd007318dec350dd130af", func := "loop.example/g03202/laws.FnExactIsPeaked", spec := "fnExactIsPeaked", apart := false }
def FnExactIsPeakedSaid : Prop := fnExactIsPeakedRow.holds Try.pinned (OpenSpec.ofChange fnExactIsPeakedSpec)

/-- ITS FALSE NEIGHBOUR: 'it returns false'. Refute it at one input. -/
def fnExactIsPeakedWrong : ChangeSpec := { name := "fnExactIsPeaked", fn := fun _ => fun
  | [d1, d2] => { results := [.lit (.bool false)], args := [d1, d2] }
  | _ => none }
def FnExactIsPeakedWrongFalsely : Prop := fnExactIsPeakedRow.holds Try.pinned (OpenSpec.ofChange fnExactIsPeakedWrong)

/-- 'laws.FnExactSwapDistance': WHATEVER THE INPUT: true; the input reads as it did. -/
def fnExactSwapDistanceSpec : ChangeSpec := { name := "fnExactSwapDistance", fn := fun _ => fun
  | [d1, d2] => { results := [.lit (.bool true)], args := [d1, d2] }
  | _ => none }
def fnExactSwapDistanceRow : OpenClaim := { program := "ytgonkppphaoapaa", sum := "aeb1aa941b766dd21b8e19279fa7aa893a15f2daac7fd007318dec350dd130af", func := "loop.example/g03202/laws.FnExactSwapDistance", spec := "fnExactSwapDistance", apart := false }
def FnExactSwapDistanceSaid : Prop := fnExactSwapDistanceRow.holds Try.pinned (OpenSpec.ofChange fnExactSwapDistanceSpec)

/-- ITS FALSE NEIGHBOUR: 'it returns false'. Refute it at one input. -/
def fnExactSwapDistanceWrong : ChangeSpec := { name := "fnExactSwapDistance", fn := fun _ => fun
  | [d1, d2] => { results := [.lit (.bool false)], args := [d1, d2] }
  | _ => none }
def FnExactSwapDistanceWrongFalsely : Prop := fnExactSwapDistanceRow.holds Try.pinned (OpenSpec.ofChange fnExactSwapDistanceWrong)

/-- 'laws.FnExactRaiseIn': WHATEVER THE INPUT: true; the input reads as it did. -/
def fnExactRaiseInSpec : ChangeSpec := { name := "fnExactRaiseIn", fn := fun _ => fun
  | [d1, d2] => { results := [.lit (.bool true)], args := [d1, d2] }
  | _ => none }
def fnExactRaiseInRow : OpenClaim := { program := "ytgonkppphaoapaa", sum := "aeb1aa941b766dd21b8e19279fa7aa893a15f2daac7fd007318dec350dd130af", func := "loop.example/g03202/laws.FnExactRaiseIn", spec := "fnExactRaiseIn", apart := false }
def FnExactRaiseInSaid : Prop := fnExactRaiseInRow.holds Try.pinned (OpenSpec.ofChange fnExactRaiseInSpec)

/-- ITS FALSE NEIGHBOUR: 'it returns false'. Refute it at one input. -/
def fnExactRaiseInWrong : ChangeSpec := { name := "fnExactRaiseIn", fn := fun _ => fun
  | [d1, d2] => { results := [.lit (.bool false)], args := [d1, d2] }
  | _ => none }
def FnExactRaiseInWrongFalsely : Prop := fnExactRaiseInRow.holds Try.pinned (OpenSpec.ofChange fnExactRaiseInWrong)

/-- 'laws.FnExactRankingNumber': WHATEVER THE INPUT: true; the input reads as it did. -/
def fnExactRankingNumberSpec : ChangeSpec := { name := "fnExactRankingNumber", fn := fun _ => fun
  | [d] => { results := [.lit (.bool true)], args := [d] }
  | _ => none }
def fnExactRankingNumberRow : OpenClaim := { program := "ytgonkppphaoapaa", sum := "aeb1aa941b766dd21b8e19279fa7aa893a15f2daac7fd007318dec350dd130af", func := "loop.example/g03202/laws.FnExactRankingNumber", spec := "fnExactRankingNumber", unfollowed := true, recurses := true, apart := false }
def FnExactRankingNumberSaid : Prop := fnExactRankingNumberRow.holds Try.pinned (OpenSpec.ofChange fnExactRankingNumberSpec)

/-- ITS FALSE NEIGHBOUR: 'it returns false'. Refute it at one input. -/
def fnExactRankingNumberWrong : ChangeSpec := { name := "fnExactRankingNumber", fn := fun _ => fun
  | [d] => { results := [.lit (.bool false)], args := [d] }
  | _ => none }
def FnExactRankingNumberWrongFalsely : Prop := fnExactRankingNumberRow.holds Try.pinned (OpenSpec.ofChange fnExactRankingNumberWrong)

/-- 'laws.FnExactAllRankings': WHATEVER THE INPUT: true; the input reads as it did. -/
def fnExactAllRankingsSpec : ChangeSpec := { name := "fnExactAllRankings", fn := fun _ => fun
  | [d] => { results := [.lit (.bool true)], args := [d] }
  | _ => none }
def fnExactAllRankingsRow : OpenClaim := { program := "ytgonkppphaoapaa", sum := "aeb1aa941b766dd21b8e19279fa7aa893a15f2daac7fd007318dec350dd130af", func := "loop.example/g03202/laws.FnExactAllRankings", spec := "fnExactAllRankings", recurses := true, apart := false }
def FnExactAllRankingsSaid : Prop := fnExactAllRankingsRow.holds Try.pinned (OpenSpec.ofChange fnExactAllRankingsSpec)

/-- ITS FALSE NEIGHBOUR: 'it returns false'. Refute it at one input. -/
def fnExactAllRankingsWrong : ChangeSpec := { name := "fnExactAllRankings", fn := fun _ => fun
  | [d] => { results := [.lit (.bool false)], args := [d] }
  | _ => none }
def FnExactAllRankingsWrongFalsely : Prop := fnExactAllRankingsRow.holds Try.pinned (OpenSpec.ofChange fnExactAllRankingsWrong)

/-- 'laws.FnExactWithoutCandidate': WHATEVER THE INPUT: true; the input reads as it did. -/
def fnExactWithoutCandidateSpec : ChangeSpec := { name := "fnExactWithoutCandidate", fn := fun _ => fun
  | [d1, d2] => { results := [.lit (.bool true)], args := [d1, d2] }
  | _ => none }
def fnExactWithoutCandidateRow : OpenClaim := { program := "ytgonkppphaoapaa", sum := "aeb1aa941b766dd21b8e19279fa7aa893a15f2daac7fd007318dec350dd130af", func := "loop.example/g03202/laws.FnExactWithoutCandidate", spec := "fnExactWithoutCandidate", apart := false }
def FnExactWithoutCandidateSaid : Prop := fnExactWithoutCandidateRow.holds Try.pinned (OpenSpec.ofChange fnExactWithoutCandidateSpec)

/-- ITS FALSE NEIGHBOUR: 'it returns false'. Refute it at one input. -/
def fnExactWithoutCandidateWrong : ChangeSpec := { name := "fnExactWithoutCandidate", fn := fun _ => fun
  | [d1, d2] => { results := [.lit (.bool false)], args := [d1, d2] }
  | _ => none }
def FnExactWithoutCandidateWrongFalsely : Prop := fnExactWithoutCandidateRow.holds Try.pinned (OpenSpec.ofChange fnExactWithoutCandidateWrong)

/-- 'laws.FnExactPeakedRankings': WHATEVER THE INPUT: true; the input reads as it did. -/
def fnExactPeakedRankingsSpec : ChangeSpec := { name := "fnExactPeakedRankings", fn := fun _ => fun
  | [d] => { results := [.lit (.bool true)], args := [d] }
  | _ => none }
def fnExactPeakedRankingsRow : OpenClaim := { program := "ytgonkppphaoapaa", sum := "aeb1aa941b766dd21b8e19279fa7aa893a15f2daac7fd007318dec350dd130af", func := "loop.example/g03202/laws.FnExactPeakedRankings", spec := "fnExactPeakedRankings", recurses := true, apart := false }
def FnExactPeakedRankingsSaid : Prop := fnExactPeakedRankingsRow.holds Try.pinned (OpenSpec.ofChange fnExactPeakedRankingsSpec)

/-- ITS FALSE NEIGHBOUR: 'it returns false'. Refute it at one input. -/
def fnExactPeakedRankingsWrong : ChangeSpec := { name := "fnExactPeakedRankings", fn := fun _ => fun
  | [d] => { results := [.lit (.bool false)], args := [d] }
  | _ => none }
def FnExactPeakedRankingsWrongFalsely : Prop := fnExactPeakedRankingsRow.holds Try.pinned (OpenSpec.ofChange fnExactPeakedRankingsWrong)

/-- 'laws.FnRankings': WHATEVER THE INPUT: true; the input reads as it did. -/
def fnRankingsSpec : ChangeSpec := { name := "fnRankings", fn := fun _ => fun
  | [d] => { results := [.lit (.bool true)], args := [d] }
  | _ => none }
def fnRankingsRow : OpenClaim := { program := "ytgonkppphaoapaa", sum := "aeb1aa941b766dd21b8e19279fa7aa893a15f2daac7fd007318dec350dd130af", func := "loop.example/g03202/laws.FnRankings", spec := "fnRankings", unfollowed := true, recurses := true, apart := false }
def FnRankingsSaid : Prop := fnRankingsRow.holds Try.pinned (OpenSpec.ofChange fnRankingsSpec)

/-- ITS FALSE NEIGHBOUR: 'it returns false'. Refute it at one input. -/
def fnRankingsWrong : ChangeSpec := { name := "fnRankings", fn := fun _ => fun
  | [d] => { results := [.lit (.bool false)], args := [d] }
  | _ => none }
def FnRankingsWrongFalsely : Prop := fnRankingsRow.holds Try.pinned (OpenSpec.ofChange fnRankingsWrong)

/- THE SECOND FORM. 'bulk': how many values and letters a reading holds, each counted each time it is reached (what is shared counts as often as it is met; a slice's spare places count too). A statement '..UptoSaid' is the law's where the arguments, and the package variables that the reading takes, are together of bulk at most 1048576: NARROWER than '..Said'. Prove '..Said' where nothing that the law and all that it calls make is longer than what came in: it says more and counts as full. Else prove '..UptoSaid'. A law counts once. -/
mutual
def uptoBulk {H : Type} : DataW H → Nat
  | .lit (.string bytes) => bytes.length + 1
  | .lit _ => 1
  | .nil => 1
  | .ptr d => uptoBulk d + 1
  | .slice elems spare => uptoBulkAll elems + uptoBulkAll spare + 1
  | .agg parts => uptoBulkAll parts + 1
  | .iface _ d => uptoBulk d + 1
  | .map entries => uptoBulkEntries entries + 1
  | .held _ => 1
def uptoBulkAll {H : Type} : List (DataW H) → Nat
  | [] => 0
  | d :: r => uptoBulk d + uptoBulkAll r
def uptoBulkEntries {H : Type} : List (Lit × DataW H) → Nat
  | [] => 0
  | x :: r => uptoBulkEntry x + uptoBulkEntries r
def uptoBulkEntry {H : Type} : Lit × DataW H → Nat
  | (.string bytes, d) => bytes.length + uptoBulk d + 1
  | (_, d) => uptoBulk d + 1
 end
def uptoSmall : (H : Type) → List (DataW H) → Bool := fun _ ds => decide (uptoBulkAll ds ≤ 1048576)
def OpenSpec.upto (s : _root_.Go.ChangeSpec) : _root_.Go.OpenSpec := { _root_.Go.OpenSpec.ofChange s with cond := some uptoSmall }

/-- 'laws.FnExactLastOf', WHERE WHAT IT READS IS OF BULK AT MOST 1048576: true; the input reads as it did. -/
def fnExactLastOfUptoRow : OpenClaim := { program := "ytgonkppphaoapaa", sum := "aeb1aa941b766dd21b8e19279fa7aa893a15f2daac7fd007318dec350dd130af", func := "loop.example/g03202/laws.FnExactLastOf", spec := "fnExactLastOf", apart := false, narrowed := true }
def FnExactLastOfUptoSaid : Prop := fnExactLastOfUptoRow.holds Try.pinned (OpenSpec.upto fnExactLastOfSpec)

/-- 'laws.FnExactPlaceOf', WHERE WHAT IT READS IS OF BULK AT MOST 1048576: true; the input reads as it did. -/
def fnExactPlaceOfUptoRow : OpenClaim := { program := "ytgonkppphaoapaa", sum := "aeb1aa941b766dd21b8e19279fa7aa893a15f2daac7fd007318dec350dd130af", func := "loop.example/g03202/laws.FnExactPlaceOf", spec := "fnExactPlaceOf", apart := false, narrowed := true }
def FnExactPlaceOfUptoSaid : Prop := fnExactPlaceOfUptoRow.holds Try.pinned (OpenSpec.upto fnExactPlaceOfSpec)

/-- 'laws.FnExactPrefers', WHERE WHAT IT READS IS OF BULK AT MOST 1048576: true; the input reads as it did. -/
def fnExactPrefersUptoRow : OpenClaim := { program := "ytgonkppphaoapaa", sum := "aeb1aa941b766dd21b8e19279fa7aa893a15f2daac7fd007318dec350dd130af", func := "loop.example/g03202/laws.FnExactPrefers", spec := "fnExactPrefers", apart := false, narrowed := true }
def FnExactPrefersUptoSaid : Prop := fnExactPrefersUptoRow.holds Try.pinned (OpenSpec.upto fnExactPrefersSpec)

/-- 'laws.FnExactPluralityWeights', WHERE WHAT IT READS IS OF BULK AT MOST 1048576: true; the input reads as it did. -/
def fnExactPluralityWeightsUptoRow : OpenClaim := { program := "ytgonkppphaoapaa", sum := "aeb1aa941b766dd21b8e19279fa7aa893a15f2daac7fd007318dec350dd130af", func := "loop.example/g03202/laws.FnExactPluralityWeights", spec := "fnExactPluralityWeights", unfollowed := true, recurses := true, apart := false, narrowed := true }
def FnExactPluralityWeightsUptoSaid : Prop := fnExactPluralityWeightsUptoRow.holds Try.pinned (OpenSpec.upto fnExactPluralityWeightsSpec)

/-- 'laws.FnExactBordaWeights', WHERE WHAT IT READS IS OF BULK AT MOST 1048576: true; the input reads as it did. -/
def fnExactBordaWeightsUptoRow : OpenClaim := { program := "ytgonkppphaoapaa", sum := "aeb1aa941b766dd21b8e19279fa7aa893a15f2daac7fd007318dec350dd130af", func := "loop.example/g03202/laws.FnExactBordaWeights", spec := "fnExactBordaWeights", unfollowed := true, recurses := true, apart := false, narrowed := true }
def FnExactBordaWeightsUptoSaid : Prop := fnExactBordaWeightsUptoRow.holds Try.pinned (OpenSpec.upto fnExactBordaWeightsSpec)

/-- 'laws.FnExactVetoWeights', WHERE WHAT IT READS IS OF BULK AT MOST 1048576: true; the input reads as it did. -/
def fnExactVetoWeightsUptoRow : OpenClaim := { program := "ytgonkppphaoapaa", sum := "aeb1aa941b766dd21b8e19279fa7aa893a15f2daac7fd007318dec350dd130af", func := "loop.example/g03202/laws.FnExactVetoWeights", spec := "fnExactVetoWeights", unfollowed := true, recurses := true, apart := false, narrowed := true }
def FnExactVetoWeightsUptoSaid : Prop := fnExactVetoWeightsUptoRow.holds Try.pinned (OpenSpec.upto fnExactVetoWeightsSpec)

/-- 'laws.FnExactRankingOk', WHERE WHAT IT READS IS OF BULK AT MOST 1048576: true; the input reads as it did. -/
def fnExactRankingOkUptoRow : OpenClaim := { program := "ytgonkppphaoapaa", sum := "aeb1aa941b766dd21b8e19279fa7aa893a15f2daac7fd007318dec350dd130af", func := "loop.example/g03202/laws.FnExactRankingOk", spec := "fnExactRankingOk", apart := false, narrowed := true }
def FnExactRankingOkUptoSaid : Prop := fnExactRankingOkUptoRow.holds Try.pinned (OpenSpec.upto fnExactRankingOkSpec)

/-- 'laws.FnExactReverseRanking', WHERE WHAT IT READS IS OF BULK AT MOST 1048576: true; the input reads as it did. -/
def fnExactReverseRankingUptoRow : OpenClaim := { program := "ytgonkppphaoapaa", sum := "aeb1aa941b766dd21b8e19279fa7aa893a15f2daac7fd007318dec350dd130af", func := "loop.example/g03202/laws.FnExactReverseRanking", spec := "fnExactReverseRanking", apart := false, narrowed := true }
def FnExactReverseRankingUptoSaid : Prop := fnExactReverseRankingUptoRow.holds Try.pinned (OpenSpec.upto fnExactReverseRankingSpec)

/-- 'laws.FnExactWeightsOk', WHERE WHAT IT READS IS OF BULK AT MOST 1048576: true; the input reads as it did. -/
def fnExactWeightsOkUptoRow : OpenClaim := { program := "ytgonkppphaoapaa", sum := "aeb1aa941b766dd21b8e19279fa7aa893a15f2daac7fd007318dec350dd130af", func := "loop.example/g03202/laws.FnExactWeightsOk", spec := "fnExactWeightsOk", unfollowed := true, recurses := true, apart := false, narrowed := true }
def FnExactWeightsOkUptoSaid : Prop := fnExactWeightsOkUptoRow.holds Try.pinned (OpenSpec.upto fnExactWeightsOkSpec)

/-- 'laws.FnExactFormatRanking', WHERE WHAT IT READS IS OF BULK AT MOST 1048576: true; the input reads as it did. -/
def fnExactFormatRankingUptoRow : OpenClaim := { program := "ytgonkppphaoapaa", sum := "aeb1aa941b766dd21b8e19279fa7aa893a15f2daac7fd007318dec350dd130af", func := "loop.example/g03202/laws.FnExactFormatRanking", spec := "fnExactFormatRanking", apart := false, narrowed := true }
def FnExactFormatRankingUptoSaid : Prop := fnExactFormatRankingUptoRow.holds Try.pinned (OpenSpec.upto fnExactFormatRankingSpec)

/-- 'laws.FnExactParseRanking', WHERE WHAT IT READS IS OF BULK AT MOST 1048576: true; the input reads as it did. -/
def fnExactParseRankingUptoRow : OpenClaim := { program := "ytgonkppphaoapaa", sum := "aeb1aa941b766dd21b8e19279fa7aa893a15f2daac7fd007318dec350dd130af", func := "loop.example/g03202/laws.FnExactParseRanking", spec := "fnExactParseRanking", apart := false, narrowed := true }
def FnExactParseRankingUptoSaid : Prop := fnExactParseRankingUptoRow.holds Try.pinned (OpenSpec.upto fnExactParseRankingSpec)

/-- 'laws.FnExactIsPeaked', WHERE WHAT IT READS IS OF BULK AT MOST 1048576: true; the input reads as it did. -/
def fnExactIsPeakedUptoRow : OpenClaim := { program := "ytgonkppphaoapaa", sum := "aeb1aa941b766dd21b8e19279fa7aa893a15f2daac7fd007318dec350dd130af", func := "loop.example/g03202/laws.FnExactIsPeaked", spec := "fnExactIsPeaked", apart := false, narrowed := true }
def FnExactIsPeakedUptoSaid : Prop := fnExactIsPeakedUptoRow.holds Try.pinned (OpenSpec.upto fnExactIsPeakedSpec)

/-- 'laws.FnExactSwapDistance', WHERE WHAT IT READS IS OF BULK AT MOST 1048576: true; the input reads as it did. -/
def fnExactSwapDistanceUptoRow : OpenClaim := { program := "ytgonkppphaoapaa", sum := "aeb1aa941b766dd21b8e19279fa7aa893a15f2daac7fd007318dec350dd130af", func := "loop.example/g03202/laws.FnExactSwapDistance", spec := "fnExactSwapDistance", apart := false, narrowed := true }
def FnExactSwapDistanceUptoSaid : Prop := fnExactSwapDistanceUptoRow.holds Try.pinned (OpenSpec.upto fnExactSwapDistanceSpec)

/-- 'laws.FnExactRaiseIn', WHERE WHAT IT READS IS OF BULK AT MOST 1048576: true; the input reads as it did. -/
def fnExactRaiseInUptoRow : OpenClaim := { program := "ytgonkppphaoapaa", sum := "aeb1aa941b766dd21b8e19279fa7aa893a15f2daac7fd007318dec350dd130af", func := "loop.example/g03202/laws.FnExactRaiseIn", spec := "fnExactRaiseIn", apart := false, narrowed := true }
def FnExactRaiseInUptoSaid : Prop := fnExactRaiseInUptoRow.holds Try.pinned (OpenSpec.upto fnExactRaiseInSpec)

/-- 'laws.FnExactRankingNumber', WHERE WHAT IT READS IS OF BULK AT MOST 1048576: true; the input reads as it did. -/
def fnExactRankingNumberUptoRow : OpenClaim := { program := "ytgonkppphaoapaa", sum := "aeb1aa941b766dd21b8e19279fa7aa893a15f2daac7fd007318dec350dd130af", func := "loop.example/g03202/laws.FnExactRankingNumber", spec := "fnExactRankingNumber", unfollowed := true, recurses := true, apart := false, narrowed := true }
def FnExactRankingNumberUptoSaid : Prop := fnExactRankingNumberUptoRow.holds Try.pinned (OpenSpec.upto fnExactRankingNumberSpec)

/-- 'laws.FnExactAllRankings', WHERE WHAT IT READS IS OF BULK AT MOST 1048576: true; the input reads as it did. -/
def fnExactAllRankingsUptoRow : OpenClaim := { program := "ytgonkppphaoapaa", sum := "aeb1aa941b766dd21b8e19279fa7aa893a15f2daac7fd007318dec350dd130af", func := "loop.example/g03202/laws.FnExactAllRankings", spec := "fnExactAllRankings", recurses := true, apart := false, narrowed := true }
def FnExactAllRankingsUptoSaid : Prop := fnExactAllRankingsUptoRow.holds Try.pinned (OpenSpec.upto fnExactAllRankingsSpec)

/-- 'laws.FnExactWithoutCandidate', WHERE WHAT IT READS IS OF BULK AT MOST 1048576: true; the input reads as it did. -/
def fnExactWithoutCandidateUptoRow : OpenClaim := { program := "ytgonkppphaoapaa", sum := "aeb1aa941b766dd21b8e19279fa7aa893a15f2daac7fd007318dec350dd130af", func := "loop.example/g03202/laws.FnExactWithoutCandidate", spec := "fnExactWithoutCandidate", apart := false, narrowed := true }
def FnExactWithoutCandidateUptoSaid : Prop := fnExactWithoutCandidateUptoRow.holds Try.pinned (OpenSpec.upto fnExactWithoutCandidateSpec)

/-- 'laws.FnExactPeakedRankings', WHERE WHAT IT READS IS OF BULK AT MOST 1048576: true; the input reads as it did. -/
def fnExactPeakedRankingsUptoRow : OpenClaim := { program := "ytgonkppphaoapaa", sum := "aeb1aa941b766dd21b8e19279fa7aa893a15f2daac7fd007318dec350dd130af", func := "loop.example/g03202/laws.FnExactPeakedRankings", spec := "fnExactPeakedRankings", recurses := true, apart := false, narrowed := true }
def FnExactPeakedRankingsUptoSaid : Prop := fnExactPeakedRankingsUptoRow.holds Try.pinned (OpenSpec.upto fnExactPeakedRankingsSpec)

/-- 'laws.FnRankings', WHERE WHAT IT READS IS OF BULK AT MOST 1048576: true; the input reads as it did. -/
def fnRankingsUptoRow : OpenClaim := { program := "ytgonkppphaoapaa", sum := "aeb1aa941b766dd21b8e19279fa7aa893a15f2daac7fd007318dec350dd130af", func := "loop.example/g03202/laws.FnRankings", spec := "fnRankings", unfollowed := true, recurses := true, apart := false, narrowed := true }
def FnRankingsUptoSaid : Prop := fnRankingsUptoRow.holds Try.pinned (OpenSpec.upto fnRankingsSpec)

end Rows
end Go.Proofs.Ytgonkppphaoapaa
