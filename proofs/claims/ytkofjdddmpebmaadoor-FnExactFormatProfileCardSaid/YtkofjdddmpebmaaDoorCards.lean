/-
  DERIVED. GIVEN WITH THE SEED: THE CARDS: each row of YtkofjdddmpebmaaDoorRows.lean that lists a variable, with what it lists TIED to the program's text (the seventh form; the later family's looks); each row that meets fmt, with fmt's text TOLD by the authors' own Lean function (tested against real Go, not proved from fmt's source: count such statements apart). THE CARD IS WHAT COUNTS. Prove the row's statement (the work); the ties are given (YtkofjdddmpebmaaDoorTie.lean); close each card by the builder's one call (the guide's Derived/Test/ToyasCard.lean, 'card_holds'). Laid BY PROGRAM, IN A SANDBOX (cutbox-door.mjs). By AI agents, Wed Nov 11 2026. No macro, syntax, notation, axiom, sorry.
-/
import Derived.Test.YtkofjdddmpebmaaDoorRows
import GoSem.ClaimSeven
namespace Go.Proofs.YtkofjdddmpebmaaDoor
namespace Rows

/-- THE TIED CARD OF 'laws.FnExactFormatProfile'. -/
def fnExactFormatProfileCard : Claim7 := { stood := { row := fnExactFormatProfileRow, standIns := [], harness := (true, "7f3315f95879ad578c8174ec39dea4e56858cf8d73a5ec2f3215338e2fed5199"), looks := false }, kinds := [], alts := [], laidByText := true, laidKinds := [.data, .data, .data], laidTests := true, laidLooks := .later }
def FnExactFormatProfileCardSaid : Prop := Claim7.holds Tryd.pinned (.plain (OpenSpec.ofChange fnExactFormatProfileSpec)) fnExactFormatProfileCard

/-- THE SECOND FORM's CARD OF 'laws.FnExactFormatProfile'. -/
def fnExactFormatProfileUptoCard : Claim7 := { stood := { row := fnExactFormatProfileUptoRow, standIns := [], harness := (true, "7f3315f95879ad578c8174ec39dea4e56858cf8d73a5ec2f3215338e2fed5199"), looks := false }, kinds := [], alts := [], laidByText := true, laidKinds := [.data, .data, .data], laidTests := true, laidLooks := .later }
def FnExactFormatProfileUptoCardSaid : Prop := Claim7.holds Tryd.pinned (.plain (OpenSpec.upto fnExactFormatProfileSpec)) fnExactFormatProfileUptoCard
end Rows
end Go.Proofs.YtkofjdddmpebmaaDoor
