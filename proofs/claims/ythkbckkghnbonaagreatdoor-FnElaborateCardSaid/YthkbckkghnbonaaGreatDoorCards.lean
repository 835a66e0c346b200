/-
  DERIVED. GIVEN WITH THE SEED: THE CARDS: each row of YthkbckkghnbonaaGreatDoorRows.lean that lists a variable, with what it lists TIED to the program's text (the seventh form; the later family's looks); each row that meets fmt, with fmt's text TOLD by the authors' own Lean function (tested against real Go, not proved from fmt's source: count such statements apart). THE CARD IS WHAT COUNTS. Prove the row's statement (the work); the ties are given (YthkbckkghnbonaaGreatDoorTie.lean); close each card by the builder's one call (the guide's Derived/Test/ToyasCard.lean, 'card_holds'). Laid BY PROGRAM, IN A SANDBOX (cutbox-door.mjs). By AI agents, Wed Nov 11 2026. No macro, syntax, notation, axiom, sorry.
-/
import Derived.Test.YthkbckkghnbonaaGreatDoorRows
import GoSem.ClaimSeven
namespace Go.Proofs.YthkbckkghnbonaaGreatDoor
namespace Rows

/-- THE TIED CARD OF 'laws.FnProgramText'. -/
def fnProgramTextCard : Claim7 := { stood := { row := fnProgramTextRow, standIns := [], harness := (true, "64224490679f6881f559166ffb3ad8f164bbc1af6078a3191faee35b94f5eb6a"), looks := true }, kinds := [], alts := [], laidByText := true, laidKinds := [.data, .data, .data, .sentinel, .sentinel, .data], laidTests := true, laidLooks := .later }
def FnProgramTextCardSaid : Prop := Claim7.holds Tryz.pinned (.plain (OpenSpec.ofChange fnProgramTextSpec)) fnProgramTextCard

/-- THE TIED CARD OF 'laws.FnExactElaborate'. -/
def fnExactElaborateCard : Claim7 := { stood := { row := fnExactElaborateRow, standIns := [], harness := (true, "64224490679f6881f559166ffb3ad8f164bbc1af6078a3191faee35b94f5eb6a"), looks := true }, kinds := [], alts := [], laidByText := true, laidKinds := [.data], laidTests := true, laidLooks := .later }
def FnExactElaborateCardSaid : Prop := Claim7.holds Tryz.pinned (.plain (OpenSpec.ofChange fnExactElaborateSpec)) fnExactElaborateCard

/-- THE TIED CARD OF 'laws.FnElaborate'. -/
def fnElaborateCard : Claim7 := { stood := { row := fnElaborateRow, standIns := [], harness := (true, "64224490679f6881f559166ffb3ad8f164bbc1af6078a3191faee35b94f5eb6a"), looks := true }, kinds := [], alts := [], laidByText := true, laidKinds := [.data], laidTests := true, laidLooks := .later }
def FnElaborateCardSaid : Prop := Claim7.holds Tryz.pinned (.plain (OpenSpec.ofChange fnElaborateSpec)) fnElaborateCard

/-- THE TIED CARD OF 'laws.FnParse'. -/
def fnParseCard : Claim7 := { stood := { row := fnParseRow, standIns := [], harness := (true, "64224490679f6881f559166ffb3ad8f164bbc1af6078a3191faee35b94f5eb6a"), looks := true }, kinds := [], alts := [], laidByText := true, laidKinds := [.data, .data, .data, .sentinel, .sentinel, .data], laidTests := true, laidLooks := .later }
def FnParseCardSaid : Prop := Claim7.holds Tryz.pinned (.plain (OpenSpec.ofChange fnParseSpec)) fnParseCard

/-- THE SECOND FORM's CARD OF 'laws.FnProgramText'. -/
def fnProgramTextUptoCard : Claim7 := { stood := { row := fnProgramTextUptoRow, standIns := [], harness := (true, "64224490679f6881f559166ffb3ad8f164bbc1af6078a3191faee35b94f5eb6a"), looks := true }, kinds := [], alts := [], laidByText := true, laidKinds := [.data, .data, .data, .sentinel, .sentinel, .data], laidTests := true, laidLooks := .later }
def FnProgramTextUptoCardSaid : Prop := Claim7.holds Tryz.pinned (.plain (OpenSpec.upto fnProgramTextSpec)) fnProgramTextUptoCard

/-- THE SECOND FORM's CARD OF 'laws.FnExactElaborate'. -/
def fnExactElaborateUptoCard : Claim7 := { stood := { row := fnExactElaborateUptoRow, standIns := [], harness := (true, "64224490679f6881f559166ffb3ad8f164bbc1af6078a3191faee35b94f5eb6a"), looks := true }, kinds := [], alts := [], laidByText := true, laidKinds := [.data], laidTests := true, laidLooks := .later }
def FnExactElaborateUptoCardSaid : Prop := Claim7.holds Tryz.pinned (.plain (OpenSpec.upto fnExactElaborateSpec)) fnExactElaborateUptoCard

/-- THE SECOND FORM's CARD OF 'laws.FnElaborate'. -/
def fnElaborateUptoCard : Claim7 := { stood := { row := fnElaborateUptoRow, standIns := [], harness := (true, "64224490679f6881f559166ffb3ad8f164bbc1af6078a3191faee35b94f5eb6a"), looks := true }, kinds := [], alts := [], laidByText := true, laidKinds := [.data], laidTests := true, laidLooks := .later }
def FnElaborateUptoCardSaid : Prop := Claim7.holds Tryz.pinned (.plain (OpenSpec.upto fnElaborateSpec)) fnElaborateUptoCard

/-- THE SECOND FORM's CARD OF 'laws.FnParse'. -/
def fnParseUptoCard : Claim7 := { stood := { row := fnParseUptoRow, standIns := [], harness := (true, "64224490679f6881f559166ffb3ad8f164bbc1af6078a3191faee35b94f5eb6a"), looks := true }, kinds := [], alts := [], laidByText := true, laidKinds := [.data, .data, .data, .sentinel, .sentinel, .data], laidTests := true, laidLooks := .later }
def FnParseUptoCardSaid : Prop := Claim7.holds Tryz.pinned (.plain (OpenSpec.upto fnParseSpec)) fnParseUptoCard
end Rows
end Go.Proofs.YthkbckkghnbonaaGreatDoor
