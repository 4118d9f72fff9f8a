/-
  No cell of these rows narrows 'for every input' (looked for: loops, veiled, ifaces, maps, wideKeys, modest, calm, conditions, laid).
  DERIVED. THE GIVEN ROWS OF THIS SEAT. 17 by the template 'for every input the law returns true; each argument reads behind the call as it read before'; 0 by the template 'total and deterministic' (their statements: YtpmdmlchmojfmaaTotals.lean).
  GIVEN WITH THE SEED: the statements are not yours to turn. If you find one false, say at which input.
  Laid BY PROGRAM, IN A SANDBOX (cutbox-rows.mjs): the forced cells as the released guide's own fill.sh prints them over the translation d84d4034b7c855ad… (all of the seat's roots in one cut). By AI agents, Wed Nov 11 2026. No macro, syntax, notation, axiom, sorry.
-/
import Derived.Test.YtpmdmlchmojfmaaChecked
import GoSem.Claim
import GoSem.ClaimJoined
import GoSem.ClaimMapViews
import Derived.JoinedTies
import Derived.KernelRfl
namespace Go.Proofs.Ytpmdmlchmojfmaa
/- THE CELL 'sum', in the pinned program and in every row, IS THE sha256 OF THE DUMP (.gsa) THAT YtpmdmlchmojfmaaProg.lean LOADS. Nothing in Lean hashes anything: it is a label: what it is worth is what the hold of that sum in a sandbox is worth. -/
noncomputable def Try.pinned : Pinned := { name := "ytpmdmlchmojfmaa", sum := "d84d4034b7c855ad161266a880ff549f4d691b74f53f56bea16fbb01e8abd836", checked := Try.checked }
namespace Rows
def none {H : Type} : Left H := { results := [], args := [] }

/-- 'laws.FnExactConstants': WHATEVER THE INPUT: true; the input reads as it did. -/
def fnExactConstantsSpec : ChangeSpec := { name := "fnExactConstants", fn := fun _ => fun
  | [] => { results := [.lit (.bool true)], args := [] }
  | _ => none }
def fnExactConstantsRow : OpenClaim := { program := "ytpmdmlchmojfmaa", sum := "d84d4034b7c855ad161266a880ff549f4d691b74f53f56bea16fbb01e8abd836", func := "loop.example/g03202/laws.FnExactConstants", spec := "fnExactConstants", apart := false }
def FnExactConstantsSaid : Prop := fnExactConstantsRow.holds Try.pinned (OpenSpec.ofChange fnExactConstantsSpec)

/-- ITS FALSE NEIGHBOUR: 'it returns false'. Refute it at one input. -/
def fnExactConstantsWrong : ChangeSpec := { name := "fnExactConstants", fn := fun _ => fun
  | [] => { results := [.lit (.bool false)], args := [] }
  | _ => none }
def FnExactConstantsWrongFalsely : Prop := fnExactConstantsRow.holds Try.pinned (OpenSpec.ofChange fnExactConstantsWrong)

/-- 'laws.FnExactIsDigits': WHATEVER THE INPUT: true; the input reads as it did. -/
def fnExactIsDigitsSpec : ChangeSpec := { name := "fnExactIsDigits", fn := fun _ => fun
  | [d] => { results := [.lit (.bool true)], args := [d] }
  | _ => none }
def fnExactIsDigitsRow : OpenClaim := { program := "ytpmdmlchmojfmaa", sum := "d84d4034b7c855ad161266a880ff549f4d691b74f53f56bea16fbb01e8abd836", func := "loop.example/g03202/laws.FnExactIsDigits", spec := "fnExactIsDigits", apart := false }
def FnExactIsDigitsSaid : Prop := fnExactIsDigitsRow.holds Try.pinned (OpenSpec.ofChange fnExactIsDigitsSpec)

/-- ITS FALSE NEIGHBOUR: 'it returns false'. Refute it at one input. -/
def fnExactIsDigitsWrong : ChangeSpec := { name := "fnExactIsDigits", fn := fun _ => fun
  | [d] => { results := [.lit (.bool false)], args := [d] }
  | _ => none }
def FnExactIsDigitsWrongFalsely : Prop := fnExactIsDigitsRow.holds Try.pinned (OpenSpec.ofChange fnExactIsDigitsWrong)

/-- 'laws.FnExactIsName': WHATEVER THE INPUT: true; the input reads as it did. -/
def fnExactIsNameSpec : ChangeSpec := { name := "fnExactIsName", fn := fun _ => fun
  | [d] => { results := [.lit (.bool true)], args := [d] }
  | _ => none }
def fnExactIsNameRow : OpenClaim := { program := "ytpmdmlchmojfmaa", sum := "d84d4034b7c855ad161266a880ff549f4d691b74f53f56bea16fbb01e8abd836", func := "loop.example/g03202/laws.FnExactIsName", spec := "fnExactIsName", apart := false }
def FnExactIsNameSaid : Prop := fnExactIsNameRow.holds Try.pinned (OpenSpec.ofChange fnExactIsNameSpec)

/-- ITS FALSE NEIGHBOUR: 'it returns false'. Refute it at one input. -/
def fnExactIsNameWrong : ChangeSpec := { name := "fnExactIsName", fn := fun _ => fun
  | [d] => { results := [.lit (.bool false)], args := [d] }
  | _ => none }
def FnExactIsNameWrongFalsely : Prop := fnExactIsNameRow.holds Try.pinned (OpenSpec.ofChange fnExactIsNameWrong)

/-- 'laws.FnExactFractionOk': WHATEVER THE INPUT: true; the input reads as it did. -/
def fnExactFractionOkSpec : ChangeSpec := { name := "fnExactFractionOk", fn := fun _ => fun
  | [d] => { results := [.lit (.bool true)], args := [d] }
  | _ => none }
def fnExactFractionOkRow : OpenClaim := { program := "ytpmdmlchmojfmaa", sum := "d84d4034b7c855ad161266a880ff549f4d691b74f53f56bea16fbb01e8abd836", func := "loop.example/g03202/laws.FnExactFractionOk", spec := "fnExactFractionOk", apart := false }
def FnExactFractionOkSaid : Prop := fnExactFractionOkRow.holds Try.pinned (OpenSpec.ofChange fnExactFractionOkSpec)

/-- ITS FALSE NEIGHBOUR: 'it returns false'. Refute it at one input. -/
def fnExactFractionOkWrong : ChangeSpec := { name := "fnExactFractionOk", fn := fun _ => fun
  | [d] => { results := [.lit (.bool false)], args := [d] }
  | _ => none }
def FnExactFractionOkWrongFalsely : Prop := fnExactFractionOkRow.holds Try.pinned (OpenSpec.ofChange fnExactFractionOkWrong)

/-- 'laws.FnExactFloorOf': WHATEVER THE INPUT: true; the input reads as it did. -/
def fnExactFloorOfSpec : ChangeSpec := { name := "fnExactFloorOf", fn := fun _ => fun
  | [d] => { results := [.lit (.bool true)], args := [d] }
  | _ => none }
def fnExactFloorOfRow : OpenClaim := { program := "ytpmdmlchmojfmaa", sum := "d84d4034b7c855ad161266a880ff549f4d691b74f53f56bea16fbb01e8abd836", func := "loop.example/g03202/laws.FnExactFloorOf", spec := "fnExactFloorOf", apart := false }
def FnExactFloorOfSaid : Prop := fnExactFloorOfRow.holds Try.pinned (OpenSpec.ofChange fnExactFloorOfSpec)

/-- ITS FALSE NEIGHBOUR: 'it returns false'. Refute it at one input. -/
def fnExactFloorOfWrong : ChangeSpec := { name := "fnExactFloorOf", fn := fun _ => fun
  | [d] => { results := [.lit (.bool false)], args := [d] }
  | _ => none }
def FnExactFloorOfWrongFalsely : Prop := fnExactFloorOfRow.holds Try.pinned (OpenSpec.ofChange fnExactFloorOfWrong)

/-- 'laws.FnExactSizeOf': WHATEVER THE INPUT: true; the input reads as it did. -/
def fnExactSizeOfSpec : ChangeSpec := { name := "fnExactSizeOf", fn := fun _ => fun
  | [d] => { results := [.lit (.bool true)], args := [d] }
  | _ => none }
def fnExactSizeOfRow : OpenClaim := { program := "ytpmdmlchmojfmaa", sum := "d84d4034b7c855ad161266a880ff549f4d691b74f53f56bea16fbb01e8abd836", func := "loop.example/g03202/laws.FnExactSizeOf", spec := "fnExactSizeOf", apart := false }
def FnExactSizeOfSaid : Prop := fnExactSizeOfRow.holds Try.pinned (OpenSpec.ofChange fnExactSizeOfSpec)

/-- ITS FALSE NEIGHBOUR: 'it returns false'. Refute it at one input. -/
def fnExactSizeOfWrong : ChangeSpec := { name := "fnExactSizeOf", fn := fun _ => fun
  | [d] => { results := [.lit (.bool false)], args := [d] }
  | _ => none }
def FnExactSizeOfWrongFalsely : Prop := fnExactSizeOfRow.holds Try.pinned (OpenSpec.ofChange fnExactSizeOfWrong)

/-- 'laws.FnExactFractionOf': WHATEVER THE INPUT: true; the input reads as it did. -/
def fnExactFractionOfSpec : ChangeSpec := { name := "fnExactFractionOf", fn := fun _ => fun
  | [d1, d2] => { results := [.lit (.bool true)], args := [d1, d2] }
  | _ => none }
def fnExactFractionOfRow : OpenClaim := { program := "ytpmdmlchmojfmaa", sum := "d84d4034b7c855ad161266a880ff549f4d691b74f53f56bea16fbb01e8abd836", func := "loop.example/g03202/laws.FnExactFractionOf", spec := "fnExactFractionOf", apart := false }
def FnExactFractionOfSaid : Prop := fnExactFractionOfRow.holds Try.pinned (OpenSpec.ofChange fnExactFractionOfSpec)

/-- ITS FALSE NEIGHBOUR: 'it returns false'. Refute it at one input. -/
def fnExactFractionOfWrong : ChangeSpec := { name := "fnExactFractionOf", fn := fun _ => fun
  | [d1, d2] => { results := [.lit (.bool false)], args := [d1, d2] }
  | _ => none }
def FnExactFractionOfWrongFalsely : Prop := fnExactFractionOfRow.holds Try.pinned (OpenSpec.ofChange fnExactFractionOfWrong)

/-- 'laws.FnExactSplitAny': WHATEVER THE INPUT: true; the input reads as it did. -/
def fnExactSplitAnySpec : ChangeSpec := { name := "fnExactSplitAny", fn := fun _ => fun
  | [d1, d2] => { results := [.lit (.bool true)], args := [d1, d2] }
  | _ => none }
def fnExactSplitAnyRow : OpenClaim := { program := "ytpmdmlchmojfmaa", sum := "d84d4034b7c855ad161266a880ff549f4d691b74f53f56bea16fbb01e8abd836", func := "loop.example/g03202/laws.FnExactSplitAny", spec := "fnExactSplitAny", inPlace := ["internal/bytealg.IndexByteString"], apart := false }
def FnExactSplitAnySaid : Prop := fnExactSplitAnyRow.holds Try.pinned (OpenSpec.ofChange fnExactSplitAnySpec)

/-- ITS FALSE NEIGHBOUR: 'it returns false'. Refute it at one input. -/
def fnExactSplitAnyWrong : ChangeSpec := { name := "fnExactSplitAny", fn := fun _ => fun
  | [d1, d2] => { results := [.lit (.bool false)], args := [d1, d2] }
  | _ => none }
def FnExactSplitAnyWrongFalsely : Prop := fnExactSplitAnyRow.holds Try.pinned (OpenSpec.ofChange fnExactSplitAnyWrong)

/-- 'laws.FnExactAddFractions': WHATEVER THE INPUT: true; the input reads as it did. -/
def fnExactAddFractionsSpec : ChangeSpec := { name := "fnExactAddFractions", fn := fun _ => fun
  | [d1, d2] => { results := [.lit (.bool true)], args := [d1, d2] }
  | _ => none }
def fnExactAddFractionsRow : OpenClaim := { program := "ytpmdmlchmojfmaa", sum := "d84d4034b7c855ad161266a880ff549f4d691b74f53f56bea16fbb01e8abd836", func := "loop.example/g03202/laws.FnExactAddFractions", spec := "fnExactAddFractions", apart := false }
def FnExactAddFractionsSaid : Prop := fnExactAddFractionsRow.holds Try.pinned (OpenSpec.ofChange fnExactAddFractionsSpec)

/-- ITS FALSE NEIGHBOUR: 'it returns false'. Refute it at one input. -/
def fnExactAddFractionsWrong : ChangeSpec := { name := "fnExactAddFractions", fn := fun _ => fun
  | [d1, d2] => { results := [.lit (.bool false)], args := [d1, d2] }
  | _ => none }
def FnExactAddFractionsWrongFalsely : Prop := fnExactAddFractionsRow.holds Try.pinned (OpenSpec.ofChange fnExactAddFractionsWrong)

/-- 'laws.FnExactTimesFractions': WHATEVER THE INPUT: true; the input reads as it did. -/
def fnExactTimesFractionsSpec : ChangeSpec := { name := "fnExactTimesFractions", fn := fun _ => fun
  | [d1, d2] => { results := [.lit (.bool true)], args := [d1, d2] }
  | _ => none }
def fnExactTimesFractionsRow : OpenClaim := { program := "ytpmdmlchmojfmaa", sum := "d84d4034b7c855ad161266a880ff549f4d691b74f53f56bea16fbb01e8abd836", func := "loop.example/g03202/laws.FnExactTimesFractions", spec := "fnExactTimesFractions", apart := false }
def FnExactTimesFractionsSaid : Prop := fnExactTimesFractionsRow.holds Try.pinned (OpenSpec.ofChange fnExactTimesFractionsSpec)

/-- ITS FALSE NEIGHBOUR: 'it returns false'. Refute it at one input. -/
def fnExactTimesFractionsWrong : ChangeSpec := { name := "fnExactTimesFractions", fn := fun _ => fun
  | [d1, d2] => { results := [.lit (.bool false)], args := [d1, d2] }
  | _ => none }
def FnExactTimesFractionsWrongFalsely : Prop := fnExactTimesFractionsRow.holds Try.pinned (OpenSpec.ofChange fnExactTimesFractionsWrong)

/-- 'laws.FnExactCompareFractions': WHATEVER THE INPUT: true; the input reads as it did. -/
def fnExactCompareFractionsSpec : ChangeSpec := { name := "fnExactCompareFractions", fn := fun _ => fun
  | [d1, d2] => { results := [.lit (.bool true)], args := [d1, d2] }
  | _ => none }
def fnExactCompareFractionsRow : OpenClaim := { program := "ytpmdmlchmojfmaa", sum := "d84d4034b7c855ad161266a880ff549f4d691b74f53f56bea16fbb01e8abd836", func := "loop.example/g03202/laws.FnExactCompareFractions", spec := "fnExactCompareFractions", apart := false }
def FnExactCompareFractionsSaid : Prop := fnExactCompareFractionsRow.holds Try.pinned (OpenSpec.ofChange fnExactCompareFractionsSpec)

/-- ITS FALSE NEIGHBOUR: 'it returns false'. Refute it at one input. -/
def fnExactCompareFractionsWrong : ChangeSpec := { name := "fnExactCompareFractions", fn := fun _ => fun
  | [d1, d2] => { results := [.lit (.bool false)], args := [d1, d2] }
  | _ => none }
def FnExactCompareFractionsWrongFalsely : Prop := fnExactCompareFractionsRow.holds Try.pinned (OpenSpec.ofChange fnExactCompareFractionsWrong)

/-- 'laws.FnExactDivideFractions': WHATEVER THE INPUT: true; the input reads as it did. -/
def fnExactDivideFractionsSpec : ChangeSpec := { name := "fnExactDivideFractions", fn := fun _ => fun
  | [d1, d2] => { results := [.lit (.bool true)], args := [d1, d2] }
  | _ => none }
def fnExactDivideFractionsRow : OpenClaim := { program := "ytpmdmlchmojfmaa", sum := "d84d4034b7c855ad161266a880ff549f4d691b74f53f56bea16fbb01e8abd836", func := "loop.example/g03202/laws.FnExactDivideFractions", spec := "fnExactDivideFractions", apart := false }
def FnExactDivideFractionsSaid : Prop := fnExactDivideFractionsRow.holds Try.pinned (OpenSpec.ofChange fnExactDivideFractionsSpec)

/-- ITS FALSE NEIGHBOUR: 'it returns false'. Refute it at one input. -/
def fnExactDivideFractionsWrong : ChangeSpec := { name := "fnExactDivideFractions", fn := fun _ => fun
  | [d1, d2] => { results := [.lit (.bool false)], args := [d1, d2] }
  | _ => none }
def FnExactDivideFractionsWrongFalsely : Prop := fnExactDivideFractionsRow.holds Try.pinned (OpenSpec.ofChange fnExactDivideFractionsWrong)

/-- 'laws.FnExactCountPeaked': WHATEVER THE INPUT: true; the input reads as it did. -/
def fnExactCountPeakedSpec : ChangeSpec := { name := "fnExactCountPeaked", fn := fun _ => fun
  | [d] => { results := [.lit (.bool true)], args := [d] }
  | _ => none }
def fnExactCountPeakedRow : OpenClaim := { program := "ytpmdmlchmojfmaa", sum := "d84d4034b7c855ad161266a880ff549f4d691b74f53f56bea16fbb01e8abd836", func := "loop.example/g03202/laws.FnExactCountPeaked", spec := "fnExactCountPeaked", recurses := true, apart := false }
def FnExactCountPeakedSaid : Prop := fnExactCountPeakedRow.holds Try.pinned (OpenSpec.ofChange fnExactCountPeakedSpec)

/-- ITS FALSE NEIGHBOUR: 'it returns false'. Refute it at one input. -/
def fnExactCountPeakedWrong : ChangeSpec := { name := "fnExactCountPeaked", fn := fun _ => fun
  | [d] => { results := [.lit (.bool false)], args := [d] }
  | _ => none }
def FnExactCountPeakedWrongFalsely : Prop := fnExactCountPeakedRow.holds Try.pinned (OpenSpec.ofChange fnExactCountPeakedWrong)

/-- 'laws.FnExactJoin': WHATEVER THE INPUT: true; the input reads as it did. -/
def fnExactJoinSpec : ChangeSpec := { name := "fnExactJoin", fn := fun _ => fun
  | [d1, d2] => { results := [.lit (.bool true)], args := [d1, d2] }
  | _ => none }
def fnExactJoinRow : OpenClaim := { program := "ytpmdmlchmojfmaa", sum := "d84d4034b7c855ad161266a880ff549f4d691b74f53f56bea16fbb01e8abd836", func := "loop.example/g03202/laws.FnExactJoin", spec := "fnExactJoin", inPlace := ["internal/abi.NoEscape", "internal/bytealg.MakeNoZero"], apart := false }
def FnExactJoinSaid : Prop := fnExactJoinRow.holds Try.pinned (OpenSpec.ofChange fnExactJoinSpec)

/-- ITS FALSE NEIGHBOUR: 'it returns false'. Refute it at one input. -/
def fnExactJoinWrong : ChangeSpec := { name := "fnExactJoin", fn := fun _ => fun
  | [d1, d2] => { results := [.lit (.bool false)], args := [d1, d2] }
  | _ => none }
def FnExactJoinWrongFalsely : Prop := fnExactJoinRow.holds Try.pinned (OpenSpec.ofChange fnExactJoinWrong)

/-- 'laws.FnExactSumFractions': WHATEVER THE INPUT: true; the input reads as it did. -/
def fnExactSumFractionsSpec : ChangeSpec := { name := "fnExactSumFractions", fn := fun _ => fun
  | [d] => { results := [.lit (.bool true)], args := [d] }
  | _ => none }
def fnExactSumFractionsRow : OpenClaim := { program := "ytpmdmlchmojfmaa", sum := "d84d4034b7c855ad161266a880ff549f4d691b74f53f56bea16fbb01e8abd836", func := "loop.example/g03202/laws.FnExactSumFractions", spec := "fnExactSumFractions", apart := false }
def FnExactSumFractionsSaid : Prop := fnExactSumFractionsRow.holds Try.pinned (OpenSpec.ofChange fnExactSumFractionsSpec)

/-- ITS FALSE NEIGHBOUR: 'it returns false'. Refute it at one input. -/
def fnExactSumFractionsWrong : ChangeSpec := { name := "fnExactSumFractions", fn := fun _ => fun
  | [d] => { results := [.lit (.bool false)], args := [d] }
  | _ => none }
def FnExactSumFractionsWrongFalsely : Prop := fnExactSumFractionsRow.holds Try.pinned (OpenSpec.ofChange fnExactSumFractionsWrong)

/-- 'laws.FnExactPadZeros': WHATEVER THE INPUT: true; the input reads as it did. -/
def fnExactPadZerosSpec : ChangeSpec := { name := "fnExactPadZeros", fn := fun _ => fun
  | [d1, d2] => { results := [.lit (.bool true)], args := [d1, d2] }
  | _ => none }
def fnExactPadZerosRow : OpenClaim := { program := "ytpmdmlchmojfmaa", sum := "d84d4034b7c855ad161266a880ff549f4d691b74f53f56bea16fbb01e8abd836", func := "loop.example/g03202/laws.FnExactPadZeros", spec := "fnExactPadZeros", inPlace := ["internal/abi.NoEscape", "internal/bytealg.MakeNoZero"], apart := false }
def FnExactPadZerosSaid : Prop := fnExactPadZerosRow.holds Try.pinned (OpenSpec.ofChange fnExactPadZerosSpec)

/-- ITS FALSE NEIGHBOUR: 'it returns false'. Refute it at one input. -/
def fnExactPadZerosWrong : ChangeSpec := { name := "fnExactPadZeros", fn := fun _ => fun
  | [d1, d2] => { results := [.lit (.bool false)], args := [d1, d2] }
  | _ => none }
def FnExactPadZerosWrongFalsely : Prop := fnExactPadZerosRow.holds Try.pinned (OpenSpec.ofChange fnExactPadZerosWrong)

/-- 'laws.FnFractions': WHATEVER THE INPUT: true; the input reads as it did. -/
def fnFractionsSpec : ChangeSpec := { name := "fnFractions", fn := fun _ => fun
  | [d] => { results := [.lit (.bool true)], args := [d] }
  | _ => none }
def fnFractionsRow : OpenClaim := { program := "ytpmdmlchmojfmaa", sum := "d84d4034b7c855ad161266a880ff549f4d691b74f53f56bea16fbb01e8abd836", func := "loop.example/g03202/laws.FnFractions", spec := "fnFractions", apart := false }
def FnFractionsSaid : Prop := fnFractionsRow.holds Try.pinned (OpenSpec.ofChange fnFractionsSpec)

/-- ITS FALSE NEIGHBOUR: 'it returns false'. Refute it at one input. -/
def fnFractionsWrong : ChangeSpec := { name := "fnFractions", fn := fun _ => fun
  | [d] => { results := [.lit (.bool false)], args := [d] }
  | _ => none }
def FnFractionsWrongFalsely : Prop := fnFractionsRow.holds Try.pinned (OpenSpec.ofChange fnFractionsWrong)

/- THE SECOND FORM. 'bulk': how many values and letters a reading holds, each counted each time it is reached (what is shared counts as often as it is met; a slice's spare places count too). A statement '..UptoSaid' is the law's where the arguments, and the package variables that the reading takes, are together of bulk at most 1048576: NARROWER than '..Said'. Prove '..Said' where nothing that the law and all that it calls make is longer than what came in: it says more and counts as full. Else prove '..UptoSaid'. A law counts once. -/
mutual
def uptoBulk {H : Type} : DataW H → Nat
  | .lit (.string bytes) => bytes.length + 1
  | .lit _ => 1
  | .nil => 1
  | .ptr d => uptoBulk d + 1
  | .slice elems spare => uptoBulkAll elems + uptoBulkAll spare + 1
  | .agg parts => uptoBulkAll parts + 1
  | .iface _ d => uptoBulk d + 1
  | .map entries => uptoBulkEntries entries + 1
  | .held _ => 1
def uptoBulkAll {H : Type} : List (DataW H) → Nat
  | [] => 0
  | d :: r => uptoBulk d + uptoBulkAll r
def uptoBulkEntries {H : Type} : List (Lit × DataW H) → Nat
  | [] => 0
  | x :: r => uptoBulkEntry x + uptoBulkEntries r
def uptoBulkEntry {H : Type} : Lit × DataW H → Nat
  | (.string bytes, d) => bytes.length + uptoBulk d + 1
  | (_, d) => uptoBulk d + 1
 end
def uptoSmall : (H : Type) → List (DataW H) → Bool := fun _ ds => decide (uptoBulkAll ds ≤ 1048576)
def OpenSpec.upto (s : _root_.Go.ChangeSpec) : _root_.Go.OpenSpec := { _root_.Go.OpenSpec.ofChange s with cond := some uptoSmall }

/-- 'laws.FnExactConstants', WHERE WHAT IT READS IS OF BULK AT MOST 1048576: true; the input reads as it did. -/
def fnExactConstantsUptoRow : OpenClaim := { program := "ytpmdmlchmojfmaa", sum := "d84d4034b7c855ad161266a880ff549f4d691b74f53f56bea16fbb01e8abd836", func := "loop.example/g03202/laws.FnExactConstants", spec := "fnExactConstants", apart := false, narrowed := true }
def FnExactConstantsUptoSaid : Prop := fnExactConstantsUptoRow.holds Try.pinned (OpenSpec.upto fnExactConstantsSpec)

/-- 'laws.FnExactIsDigits', WHERE WHAT IT READS IS OF BULK AT MOST 1048576: true; the input reads as it did. -/
def fnExactIsDigitsUptoRow : OpenClaim := { program := "ytpmdmlchmojfmaa", sum := "d84d4034b7c855ad161266a880ff549f4d691b74f53f56bea16fbb01e8abd836", func := "loop.example/g03202/laws.FnExactIsDigits", spec := "fnExactIsDigits", apart := false, narrowed := true }
def FnExactIsDigitsUptoSaid : Prop := fnExactIsDigitsUptoRow.holds Try.pinned (OpenSpec.upto fnExactIsDigitsSpec)

/-- 'laws.FnExactIsName', WHERE WHAT IT READS IS OF BULK AT MOST 1048576: true; the input reads as it did. -/
def fnExactIsNameUptoRow : OpenClaim := { program := "ytpmdmlchmojfmaa", sum := "d84d4034b7c855ad161266a880ff549f4d691b74f53f56bea16fbb01e8abd836", func := "loop.example/g03202/laws.FnExactIsName", spec := "fnExactIsName", apart := false, narrowed := true }
def FnExactIsNameUptoSaid : Prop := fnExactIsNameUptoRow.holds Try.pinned (OpenSpec.upto fnExactIsNameSpec)

/-- 'laws.FnExactFractionOk', WHERE WHAT IT READS IS OF BULK AT MOST 1048576: true; the input reads as it did. -/
def fnExactFractionOkUptoRow : OpenClaim := { program := "ytpmdmlchmojfmaa", sum := "d84d4034b7c855ad161266a880ff549f4d691b74f53f56bea16fbb01e8abd836", func := "loop.example/g03202/laws.FnExactFractionOk", spec := "fnExactFractionOk", apart := false, narrowed := true }
def FnExactFractionOkUptoSaid : Prop := fnExactFractionOkUptoRow.holds Try.pinned (OpenSpec.upto fnExactFractionOkSpec)

/-- 'laws.FnExactFloorOf', WHERE WHAT IT READS IS OF BULK AT MOST 1048576: true; the input reads as it did. -/
def fnExactFloorOfUptoRow : OpenClaim := { program := "ytpmdmlchmojfmaa", sum := "d84d4034b7c855ad161266a880ff549f4d691b74f53f56bea16fbb01e8abd836", func := "loop.example/g03202/laws.FnExactFloorOf", spec := "fnExactFloorOf", apart := false, narrowed := true }
def FnExactFloorOfUptoSaid : Prop := fnExactFloorOfUptoRow.holds Try.pinned (OpenSpec.upto fnExactFloorOfSpec)

/-- 'laws.FnExactSizeOf', WHERE WHAT IT READS IS OF BULK AT MOST 1048576: true; the input reads as it did. -/
def fnExactSizeOfUptoRow : OpenClaim := { program := "ytpmdmlchmojfmaa", sum := "d84d4034b7c855ad161266a880ff549f4d691b74f53f56bea16fbb01e8abd836", func := "loop.example/g03202/laws.FnExactSizeOf", spec := "fnExactSizeOf", apart := false, narrowed := true }
def FnExactSizeOfUptoSaid : Prop := fnExactSizeOfUptoRow.holds Try.pinned (OpenSpec.upto fnExactSizeOfSpec)

/-- 'laws.FnExactFractionOf', WHERE WHAT IT READS IS OF BULK AT MOST 1048576: true; the input reads as it did. -/
def fnExactFractionOfUptoRow : OpenClaim := { program := "ytpmdmlchmojfmaa", sum := "d84d4034b7c855ad161266a880ff549f4d691b74f53f56bea16fbb01e8abd836", func := "loop.example/g03202/laws.FnExactFractionOf", spec := "fnExactFractionOf", apart := false, narrowed := true }
def FnExactFractionOfUptoSaid : Prop := fnExactFractionOfUptoRow.holds Try.pinned (OpenSpec.upto fnExactFractionOfSpec)

/-- 'laws.FnExactSplitAny', WHERE WHAT IT READS IS OF BULK AT MOST 1048576: true; the input reads as it did. -/
def fnExactSplitAnyUptoRow : OpenClaim := { program := "ytpmdmlchmojfmaa", sum := "d84d4034b7c855ad161266a880ff549f4d691b74f53f56bea16fbb01e8abd836", func := "loop.example/g03202/laws.FnExactSplitAny", spec := "fnExactSplitAny", inPlace := ["internal/bytealg.IndexByteString"], apart := false, narrowed := true }
def FnExactSplitAnyUptoSaid : Prop := fnExactSplitAnyUptoRow.holds Try.pinned (OpenSpec.upto fnExactSplitAnySpec)

/-- 'laws.FnExactAddFractions', WHERE WHAT IT READS IS OF BULK AT MOST 1048576: true; the input reads as it did. -/
def fnExactAddFractionsUptoRow : OpenClaim := { program := "ytpmdmlchmojfmaa", sum := "d84d4034b7c855ad161266a880ff549f4d691b74f53f56bea16fbb01e8abd836", func := "loop.example/g03202/laws.FnExactAddFractions", spec := "fnExactAddFractions", apart := false, narrowed := true }
def FnExactAddFractionsUptoSaid : Prop := fnExactAddFractionsUptoRow.holds Try.pinned (OpenSpec.upto fnExactAddFractionsSpec)

/-- 'laws.FnExactTimesFractions', WHERE WHAT IT READS IS OF BULK AT MOST 1048576: true; the input reads as it did. -/
def fnExactTimesFractionsUptoRow : OpenClaim := { program := "ytpmdmlchmojfmaa", sum := "d84d4034b7c855ad161266a880ff549f4d691b74f53f56bea16fbb01e8abd836", func := "loop.example/g03202/laws.FnExactTimesFractions", spec := "fnExactTimesFractions", apart := false, narrowed := true }
def FnExactTimesFractionsUptoSaid : Prop := fnExactTimesFractionsUptoRow.holds Try.pinned (OpenSpec.upto fnExactTimesFractionsSpec)

/-- 'laws.FnExactCompareFractions', WHERE WHAT IT READS IS OF BULK AT MOST 1048576: true; the input reads as it did. -/
def fnExactCompareFractionsUptoRow : OpenClaim := { program := "ytpmdmlchmojfmaa", sum := "d84d4034b7c855ad161266a880ff549f4d691b74f53f56bea16fbb01e8abd836", func := "loop.example/g03202/laws.FnExactCompareFractions", spec := "fnExactCompareFractions", apart := false, narrowed := true }
def FnExactCompareFractionsUptoSaid : Prop := fnExactCompareFractionsUptoRow.holds Try.pinned (OpenSpec.upto fnExactCompareFractionsSpec)

/-- 'laws.FnExactDivideFractions', WHERE WHAT IT READS IS OF BULK AT MOST 1048576: true; the input reads as it did. -/
def fnExactDivideFractionsUptoRow : OpenClaim := { program := "ytpmdmlchmojfmaa", sum := "d84d4034b7c855ad161266a880ff549f4d691b74f53f56bea16fbb01e8abd836", func := "loop.example/g03202/laws.FnExactDivideFractions", spec := "fnExactDivideFractions", apart := false, narrowed := true }
def FnExactDivideFractionsUptoSaid : Prop := fnExactDivideFractionsUptoRow.holds Try.pinned (OpenSpec.upto fnExactDivideFractionsSpec)

/-- 'laws.FnExactCountPeaked', WHERE WHAT IT READS IS OF BULK AT MOST 1048576: true; the input reads as it did. -/
def fnExactCountPeakedUptoRow : OpenClaim := { program := "ytpmdmlchmojfmaa", sum := "d84d4034b7c855ad161266a880ff549f4d691b74f53f56bea16fbb01e8abd836", func := "loop.example/g03202/laws.FnExactCountPeaked", spec := "fnExactCountPeaked", recurses := true, apart := false, narrowed := true }
def FnExactCountPeakedUptoSaid : Prop := fnExactCountPeakedUptoRow.holds Try.pinned (OpenSpec.upto fnExactCountPeakedSpec)

/-- 'laws.FnExactJoin', WHERE WHAT IT READS IS OF BULK AT MOST 1048576: true; the input reads as it did. -/
def fnExactJoinUptoRow : OpenClaim := { program := "ytpmdmlchmojfmaa", sum := "d84d4034b7c855ad161266a880ff549f4d691b74f53f56bea16fbb01e8abd836", func := "loop.example/g03202/laws.FnExactJoin", spec := "fnExactJoin", inPlace := ["internal/abi.NoEscape", "internal/bytealg.MakeNoZero"], apart := false, narrowed := true }
def FnExactJoinUptoSaid : Prop := fnExactJoinUptoRow.holds Try.pinned (OpenSpec.upto fnExactJoinSpec)

/-- 'laws.FnExactSumFractions', WHERE WHAT IT READS IS OF BULK AT MOST 1048576: true; the input reads as it did. -/
def fnExactSumFractionsUptoRow : OpenClaim := { program := "ytpmdmlchmojfmaa", sum := "d84d4034b7c855ad161266a880ff549f4d691b74f53f56bea16fbb01e8abd836", func := "loop.example/g03202/laws.FnExactSumFractions", spec := "fnExactSumFractions", apart := false, narrowed := true }
def FnExactSumFractionsUptoSaid : Prop := fnExactSumFractionsUptoRow.holds Try.pinned (OpenSpec.upto fnExactSumFractionsSpec)

/-- 'laws.FnExactPadZeros', WHERE WHAT IT READS IS OF BULK AT MOST 1048576: true; the input reads as it did. -/
def fnExactPadZerosUptoRow : OpenClaim := { program := "ytpmdmlchmojfmaa", sum := "d84d4034b7c855ad161266a880ff549f4d691b74f53f56bea16fbb01e8abd836", func := "loop.example/g03202/laws.FnExactPadZeros", spec := "fnExactPadZeros", inPlace := ["internal/abi.NoEscape", "internal/bytealg.MakeNoZero"], apart := false, narrowed := true }
def FnExactPadZerosUptoSaid : Prop := fnExactPadZerosUptoRow.holds Try.pinned (OpenSpec.upto fnExactPadZerosSpec)

/-- 'laws.FnFractions', WHERE WHAT IT READS IS OF BULK AT MOST 1048576: true; the input reads as it did. -/
def fnFractionsUptoRow : OpenClaim := { program := "ytpmdmlchmojfmaa", sum := "d84d4034b7c855ad161266a880ff549f4d691b74f53f56bea16fbb01e8abd836", func := "loop.example/g03202/laws.FnFractions", spec := "fnFractions", apart := false, narrowed := true }
def FnFractionsUptoSaid : Prop := fnFractionsUptoRow.holds Try.pinned (OpenSpec.upto fnFractionsSpec)

end Rows
end Go.Proofs.Ytpmdmlchmojfmaa
