/-
  DERIVED. GIVEN WITH THE SEED: THE CARDS: each row of YthkbckkghnbonaaDoorRows.lean that lists a variable, with what it lists TIED to the program's text (the seventh form; the later family's looks); each row that meets fmt, with fmt's text TOLD by the authors' own Lean function (tested against real Go, not proved from fmt's source: count such statements apart). THE CARD IS WHAT COUNTS. Prove the row's statement (the work); the ties are given (YthkbckkghnbonaaDoorTie.lean); close each card by the builder's one call (the guide's Derived/Test/ToyasCard.lean, 'card_holds'). Laid BY PROGRAM, IN A SANDBOX (cutbox-door.mjs). By AI agents, Wed Nov 11 2026. No macro, syntax, notation, axiom, sorry.
-/
import Derived.Test.YthkbckkghnbonaaDoorRows
import GoSem.ClaimSeven
namespace Go.Proofs.YthkbckkghnbonaaDoor
namespace Rows

/-- THE TIED CARD OF 'laws.FnExactParseProgram'. -/
def fnExactParseProgramCard : Claim7 := { stood := { row := fnExactParseProgramRow, standIns := [], harness := (true, "ff12ab015c25ee60dfe14812b9fba6f00dc482505af76aa96bc02ecc2f20ab0f"), looks := true }, kinds := [], alts := [], laidByText := true, laidKinds := [.data, .data, .data, .sentinel, .sentinel, .data], laidTests := true, laidLooks := .later }
def FnExactParseProgramCardSaid : Prop := Claim7.holds Tryd.pinned (.plain (OpenSpec.ofChange fnExactParseProgramSpec)) fnExactParseProgramCard

/-- THE TIED CARD OF 'laws.FnExactNormalizeSource'. -/
def fnExactNormalizeSourceCard : Claim7 := { stood := { row := fnExactNormalizeSourceRow, standIns := [], harness := (true, "ff12ab015c25ee60dfe14812b9fba6f00dc482505af76aa96bc02ecc2f20ab0f"), looks := true }, kinds := [], alts := [], laidByText := true, laidKinds := [.data, .data, .data, .sentinel, .sentinel, .data], laidTests := true, laidLooks := .later }
def FnExactNormalizeSourceCardSaid : Prop := Claim7.holds Tryd.pinned (.plain (OpenSpec.ofChange fnExactNormalizeSourceSpec)) fnExactNormalizeSourceCard

/-- THE SECOND FORM's CARD OF 'laws.FnExactParseProgram'. -/
def fnExactParseProgramUptoCard : Claim7 := { stood := { row := fnExactParseProgramUptoRow, standIns := [], harness := (true, "ff12ab015c25ee60dfe14812b9fba6f00dc482505af76aa96bc02ecc2f20ab0f"), looks := true }, kinds := [], alts := [], laidByText := true, laidKinds := [.data, .data, .data, .sentinel, .sentinel, .data], laidTests := true, laidLooks := .later }
def FnExactParseProgramUptoCardSaid : Prop := Claim7.holds Tryd.pinned (.plain (OpenSpec.upto fnExactParseProgramSpec)) fnExactParseProgramUptoCard

/-- THE SECOND FORM's CARD OF 'laws.FnExactNormalizeSource'. -/
def fnExactNormalizeSourceUptoCard : Claim7 := { stood := { row := fnExactNormalizeSourceUptoRow, standIns := [], harness := (true, "ff12ab015c25ee60dfe14812b9fba6f00dc482505af76aa96bc02ecc2f20ab0f"), looks := true }, kinds := [], alts := [], laidByText := true, laidKinds := [.data, .data, .data, .sentinel, .sentinel, .data], laidTests := true, laidLooks := .later }
def FnExactNormalizeSourceUptoCardSaid : Prop := Claim7.holds Tryd.pinned (.plain (OpenSpec.upto fnExactNormalizeSourceSpec)) fnExactNormalizeSourceUptoCard
end Rows
end Go.Proofs.YthkbckkghnbonaaDoor
