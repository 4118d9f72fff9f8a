/-
  DERIVED. GIVEN WITH THE SEED: THE CARDS: each row of YtkofjdddmpebmaaGreatDoorRows.lean that lists a variable, with what it lists TIED to the program's text (the seventh form; the later family's looks); each row that meets fmt, with fmt's text TOLD by the authors' own Lean function (tested against real Go, not proved from fmt's source: count such statements apart). THE CARD IS WHAT COUNTS. Prove the row's statement (the work); the ties are given (YtkofjdddmpebmaaGreatDoorTie.lean); close each card by the builder's one call (the guide's Derived/Test/ToyasCard.lean, 'card_holds'). Laid BY PROGRAM, IN A SANDBOX (cutbox-door.mjs). By AI agents, Wed Nov 11 2026. No macro, syntax, notation, axiom, sorry.
-/
import Derived.Test.YtkofjdddmpebmaaGreatDoorRows
import GoSem.ClaimSeven
namespace Go.Proofs.YtkofjdddmpebmaaGreatDoor
namespace Rows

/-- THE TIED CARD OF 'laws.FnExactParseProfile'. -/
def fnExactParseProfileCard : Claim7 := { stood := { row := fnExactParseProfileRow, standIns := [], harness := (true, "92a957f328a2ef36fe2b5057c7cfe8b1f028c76176843dc1de96840e4d9ef8ba"), looks := true }, kinds := [], alts := [], laidByText := true, laidKinds := [.data, .data, .data, .data, .sentinel, .sentinel, .pinned], laidTests := true, laidLooks := .later }
def FnExactParseProfileCardSaid : Prop := Claim7.holds Tryz.pinned (.plain (OpenSpec.ofChange fnExactParseProfileSpec)) fnExactParseProfileCard

/-- THE SECOND FORM's CARD OF 'laws.FnExactParseProfile'. -/
def fnExactParseProfileUptoCard : Claim7 := { stood := { row := fnExactParseProfileUptoRow, standIns := [], harness := (true, "92a957f328a2ef36fe2b5057c7cfe8b1f028c76176843dc1de96840e4d9ef8ba"), looks := true }, kinds := [], alts := [], laidByText := true, laidKinds := [.data, .data, .data, .data, .sentinel, .sentinel, .pinned], laidTests := true, laidLooks := .later }
def FnExactParseProfileUptoCardSaid : Prop := Claim7.holds Tryz.pinned (.plain (OpenSpec.upto fnExactParseProfileSpec)) fnExactParseProfileUptoCard
end Rows
end Go.Proofs.YtkofjdddmpebmaaGreatDoor
