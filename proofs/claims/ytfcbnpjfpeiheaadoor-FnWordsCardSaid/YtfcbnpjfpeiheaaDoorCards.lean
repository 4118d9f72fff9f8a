/-
  DERIVED. GIVEN WITH THE SEED: THE CARDS: each row of YtfcbnpjfpeiheaaDoorRows.lean that lists a variable, with what it lists TIED to the program's text (the seventh form; the later family's looks); each row that meets fmt, with fmt's text TOLD by the authors' own Lean function (tested against real Go, not proved from fmt's source: count such statements apart). THE CARD IS WHAT COUNTS. Prove the row's statement (the work); the ties are given (YtfcbnpjfpeiheaaDoorTie.lean); close each card by the builder's one call (the guide's Derived/Test/ToyasCard.lean, 'card_holds'). Laid BY PROGRAM, IN A SANDBOX (cutbox-door.mjs). By AI agents, Wed Nov 11 2026. No macro, syntax, notation, axiom, sorry.
-/
import Derived.Test.YtfcbnpjfpeiheaaDoorRows
import GoSem.ClaimSeven
namespace Go.Proofs.YtfcbnpjfpeiheaaDoor
namespace Rows

/-- THE TIED CARD OF 'laws.FnExactParseFraction'. -/
def fnExactParseFractionCard : Claim7 := { stood := { row := fnExactParseFractionRow, standIns := [], harness := (true, "61572e5c4f9c1851131f2d922974bd86be847ddfcd9e364c6f483e0ce544e8f6"), looks := true }, kinds := [], alts := [], laidByText := true, laidKinds := [.data, .data, .data, .sentinel, .sentinel], laidTests := true, laidLooks := .later }
def FnExactParseFractionCardSaid : Prop := Claim7.holds Tryd.pinned (.plain (OpenSpec.ofChange fnExactParseFractionSpec)) fnExactParseFractionCard

/-- THE TIED CARD OF 'laws.FnWords'. -/
def fnWordsCard : Claim7 := { stood := { row := fnWordsRow, standIns := [], harness := (true, "61572e5c4f9c1851131f2d922974bd86be847ddfcd9e364c6f483e0ce544e8f6"), looks := true }, kinds := [], alts := [], laidByText := true, laidKinds := [.data, .data, .data, .data, .sentinel, .sentinel, .pinned], laidTests := true, laidLooks := .later }
def FnWordsCardSaid : Prop := Claim7.holds Tryd.pinned (.plain (OpenSpec.ofChange fnWordsSpec)) fnWordsCard

/-- THE TIED CARD OF 'laws.FnExactFormatInt'. -/
def fnExactFormatIntCard : Claim7 := { stood := { row := fnExactFormatIntRow, standIns := [], harness := (true, "61572e5c4f9c1851131f2d922974bd86be847ddfcd9e364c6f483e0ce544e8f6"), looks := true }, kinds := [], alts := [], laidByText := true, laidKinds := [.data, .data, .data], laidTests := true, laidLooks := .later }
def FnExactFormatIntCardSaid : Prop := Claim7.holds Tryd.pinned (.plain (OpenSpec.ofChange fnExactFormatIntSpec)) fnExactFormatIntCard

/-- THE TIED CARD OF 'laws.FnExactFormatFraction'. -/
def fnExactFormatFractionCard : Claim7 := { stood := { row := fnExactFormatFractionRow, standIns := [], harness := (true, "61572e5c4f9c1851131f2d922974bd86be847ddfcd9e364c6f483e0ce544e8f6"), looks := true }, kinds := [], alts := [], laidByText := true, laidKinds := [.data, .data, .data], laidTests := true, laidLooks := .later }
def FnExactFormatFractionCardSaid : Prop := Claim7.holds Tryd.pinned (.plain (OpenSpec.ofChange fnExactFormatFractionSpec)) fnExactFormatFractionCard

/-- THE TIED CARD OF 'laws.FnExactSplitLines'. -/
def fnExactSplitLinesCard : Claim7 := { stood := { row := fnExactSplitLinesRow, standIns := [], harness := (true, "61572e5c4f9c1851131f2d922974bd86be847ddfcd9e364c6f483e0ce544e8f6"), looks := true }, kinds := [], alts := [], laidByText := true, laidKinds := [.data, .pinned], laidTests := true, laidLooks := .later }
def FnExactSplitLinesCardSaid : Prop := Claim7.holds Tryd.pinned (.plain (OpenSpec.ofChange fnExactSplitLinesSpec)) fnExactSplitLinesCard

/-- THE TIED CARD OF 'laws.FnExactParseInt'. -/
def fnExactParseIntCard : Claim7 := { stood := { row := fnExactParseIntRow, standIns := [], harness := (true, "61572e5c4f9c1851131f2d922974bd86be847ddfcd9e364c6f483e0ce544e8f6"), looks := true }, kinds := [], alts := [], laidByText := true, laidKinds := [.data, .data, .data, .sentinel, .sentinel], laidTests := true, laidLooks := .later }
def FnExactParseIntCardSaid : Prop := Claim7.holds Tryd.pinned (.plain (OpenSpec.ofChange fnExactParseIntSpec)) fnExactParseIntCard

/-- THE SECOND FORM's CARD OF 'laws.FnExactParseFraction'. -/
def fnExactParseFractionUptoCard : Claim7 := { stood := { row := fnExactParseFractionUptoRow, standIns := [], harness := (true, "61572e5c4f9c1851131f2d922974bd86be847ddfcd9e364c6f483e0ce544e8f6"), looks := true }, kinds := [], alts := [], laidByText := true, laidKinds := [.data, .data, .data, .sentinel, .sentinel], laidTests := true, laidLooks := .later }
def FnExactParseFractionUptoCardSaid : Prop := Claim7.holds Tryd.pinned (.plain (OpenSpec.upto fnExactParseFractionSpec)) fnExactParseFractionUptoCard

/-- THE SECOND FORM's CARD OF 'laws.FnWords'. -/
def fnWordsUptoCard : Claim7 := { stood := { row := fnWordsUptoRow, standIns := [], harness := (true, "61572e5c4f9c1851131f2d922974bd86be847ddfcd9e364c6f483e0ce544e8f6"), looks := true }, kinds := [], alts := [], laidByText := true, laidKinds := [.data, .data, .data, .data, .sentinel, .sentinel, .pinned], laidTests := true, laidLooks := .later }
def FnWordsUptoCardSaid : Prop := Claim7.holds Tryd.pinned (.plain (OpenSpec.upto fnWordsSpec)) fnWordsUptoCard

/-- THE SECOND FORM's CARD OF 'laws.FnExactFormatInt'. -/
def fnExactFormatIntUptoCard : Claim7 := { stood := { row := fnExactFormatIntUptoRow, standIns := [], harness := (true, "61572e5c4f9c1851131f2d922974bd86be847ddfcd9e364c6f483e0ce544e8f6"), looks := true }, kinds := [], alts := [], laidByText := true, laidKinds := [.data, .data, .data], laidTests := true, laidLooks := .later }
def FnExactFormatIntUptoCardSaid : Prop := Claim7.holds Tryd.pinned (.plain (OpenSpec.upto fnExactFormatIntSpec)) fnExactFormatIntUptoCard

/-- THE SECOND FORM's CARD OF 'laws.FnExactFormatFraction'. -/
def fnExactFormatFractionUptoCard : Claim7 := { stood := { row := fnExactFormatFractionUptoRow, standIns := [], harness := (true, "61572e5c4f9c1851131f2d922974bd86be847ddfcd9e364c6f483e0ce544e8f6"), looks := true }, kinds := [], alts := [], laidByText := true, laidKinds := [.data, .data, .data], laidTests := true, laidLooks := .later }
def FnExactFormatFractionUptoCardSaid : Prop := Claim7.holds Tryd.pinned (.plain (OpenSpec.upto fnExactFormatFractionSpec)) fnExactFormatFractionUptoCard

/-- THE SECOND FORM's CARD OF 'laws.FnExactSplitLines'. -/
def fnExactSplitLinesUptoCard : Claim7 := { stood := { row := fnExactSplitLinesUptoRow, standIns := [], harness := (true, "61572e5c4f9c1851131f2d922974bd86be847ddfcd9e364c6f483e0ce544e8f6"), looks := true }, kinds := [], alts := [], laidByText := true, laidKinds := [.data, .pinned], laidTests := true, laidLooks := .later }
def FnExactSplitLinesUptoCardSaid : Prop := Claim7.holds Tryd.pinned (.plain (OpenSpec.upto fnExactSplitLinesSpec)) fnExactSplitLinesUptoCard

/-- THE SECOND FORM's CARD OF 'laws.FnExactParseInt'. -/
def fnExactParseIntUptoCard : Claim7 := { stood := { row := fnExactParseIntUptoRow, standIns := [], harness := (true, "61572e5c4f9c1851131f2d922974bd86be847ddfcd9e364c6f483e0ce544e8f6"), looks := true }, kinds := [], alts := [], laidByText := true, laidKinds := [.data, .data, .data, .sentinel, .sentinel], laidTests := true, laidLooks := .later }
def FnExactParseIntUptoCardSaid : Prop := Claim7.holds Tryd.pinned (.plain (OpenSpec.upto fnExactParseIntSpec)) fnExactParseIntUptoCard
end Rows
end Go.Proofs.YtfcbnpjfpeiheaaDoor
