/-
  DERIVED. GIVEN WITH THE SEED: THE CARDS: each row of YtbamjfbfipkioaaDoorRows.lean that lists a variable, with what it lists TIED to the program's text (the seventh form; the later family's looks); each row that meets fmt, with fmt's text TOLD by the authors' own Lean function (tested against real Go, not proved from fmt's source: count such statements apart). THE CARD IS WHAT COUNTS. Prove the row's statement (the work); the ties are given (YtbamjfbfipkioaaDoorTie.lean); close each card by the builder's one call (the guide's Derived/Test/ToyasCard.lean, 'card_holds'). Laid BY PROGRAM, IN A SANDBOX (cutbox-door.mjs). By AI agents, Wed Nov 11 2026. No macro, syntax, notation, axiom, sorry.
-/
import Derived.Test.YtbamjfbfipkioaaDoorRows
import GoSem.ClaimSeven
namespace Go.Proofs.YtbamjfbfipkioaaDoor
namespace Rows

/-- THE TIED CARD OF 'laws.FnStmtTokens'. -/
def fnStmtTokensCard : Claim7 := { stood := { row := fnStmtTokensRow, standIns := [], harness := (true, "30c2abee178498631ace57a443689a3b337f7a84f6f688a296876958dfa781fe"), looks := false }, kinds := [], alts := [], laidByText := true, laidKinds := [.data, .data, .data, .data], laidTests := true, laidLooks := .later }
def FnStmtTokensCardSaid : Prop := Claim7.holds Tryd.pinned (.plain (OpenSpec.ofChange fnStmtTokensSpec)) fnStmtTokensCard

/-- THE TIED CARD OF 'laws.FnCheck'. -/
def fnCheckCard : Claim7 := { stood := { row := fnCheckRow, standIns := [], harness := (true, "30c2abee178498631ace57a443689a3b337f7a84f6f688a296876958dfa781fe"), looks := false }, kinds := [], alts := [], laidByText := true, laidKinds := [.data], laidTests := true, laidLooks := .later }
def FnCheckCardSaid : Prop := Claim7.holds Tryd.pinned (.plain (OpenSpec.ofChange fnCheckSpec)) fnCheckCard

/-- THE SECOND FORM's CARD OF 'laws.FnStmtTokens'. -/
def fnStmtTokensUptoCard : Claim7 := { stood := { row := fnStmtTokensUptoRow, standIns := [], harness := (true, "30c2abee178498631ace57a443689a3b337f7a84f6f688a296876958dfa781fe"), looks := false }, kinds := [], alts := [], laidByText := true, laidKinds := [.data, .data, .data, .data], laidTests := true, laidLooks := .later }
def FnStmtTokensUptoCardSaid : Prop := Claim7.holds Tryd.pinned (.plain (OpenSpec.upto fnStmtTokensSpec)) fnStmtTokensUptoCard

/-- THE SECOND FORM's CARD OF 'laws.FnCheck'. -/
def fnCheckUptoCard : Claim7 := { stood := { row := fnCheckUptoRow, standIns := [], harness := (true, "30c2abee178498631ace57a443689a3b337f7a84f6f688a296876958dfa781fe"), looks := false }, kinds := [], alts := [], laidByText := true, laidKinds := [.data], laidTests := true, laidLooks := .later }
def FnCheckUptoCardSaid : Prop := Claim7.holds Tryd.pinned (.plain (OpenSpec.upto fnCheckSpec)) fnCheckUptoCard
end Rows
end Go.Proofs.YtbamjfbfipkioaaDoor
