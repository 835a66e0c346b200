/-
  DERIVED. GIVEN WITH THE SEED: THE CARDS: each row of YtijocafindbebaaDoorRows.lean that lists a variable, with what it lists TIED to the program's text (the seventh form; the later family's looks); each row that meets fmt, with fmt's text TOLD by the authors' own Lean function (tested against real Go, not proved from fmt's source: count such statements apart). THE CARD IS WHAT COUNTS. Prove the row's statement (the work); the ties are given (YtijocafindbebaaDoorTie.lean); close each card by the builder's one call (the guide's Derived/Test/ToyasCard.lean, 'card_holds'). Laid BY PROGRAM, IN A SANDBOX (cutbox-door.mjs). By AI agents, Wed Nov 11 2026. No macro, syntax, notation, axiom, sorry.
-/
import Derived.Test.YtijocafindbebaaDoorRows
import GoSem.ClaimSeven
namespace Go.Proofs.YtijocafindbebaaDoor
namespace Rows

/-- THE TIED CARD OF 'laws.FnExactIsValidStmt'. -/
def fnExactIsValidStmtCard : Claim7 := { stood := { row := fnExactIsValidStmtRow, standIns := [], harness := (true, "6ccffde7702128554c8239359ea002d72e01e5902717307667f803019016a2bc"), looks := false }, kinds := [], alts := [], laidByText := true, laidKinds := [.data], laidTests := true, laidLooks := .later }
def FnExactIsValidStmtCardSaid : Prop := Claim7.holds Tryd.pinned (.plain (OpenSpec.ofChange fnExactIsValidStmtSpec)) fnExactIsValidStmtCard

/-- THE TIED CARD OF 'laws.FnExactIsValidProgram'. -/
def fnExactIsValidProgramCard : Claim7 := { stood := { row := fnExactIsValidProgramRow, standIns := [], harness := (true, "6ccffde7702128554c8239359ea002d72e01e5902717307667f803019016a2bc"), looks := false }, kinds := [], alts := [], laidByText := true, laidKinds := [.data], laidTests := true, laidLooks := .later }
def FnExactIsValidProgramCardSaid : Prop := Claim7.holds Tryd.pinned (.plain (OpenSpec.ofChange fnExactIsValidProgramSpec)) fnExactIsValidProgramCard

/-- THE TIED CARD OF 'laws.FnExactStmtTokens'. -/
def fnExactStmtTokensCard : Claim7 := { stood := { row := fnExactStmtTokensRow, standIns := [], harness := (true, "6ccffde7702128554c8239359ea002d72e01e5902717307667f803019016a2bc"), looks := false }, kinds := [], alts := [], laidByText := true, laidKinds := [.data, .data, .data, .data], laidTests := true, laidLooks := .later }
def FnExactStmtTokensCardSaid : Prop := Claim7.holds Tryd.pinned (.plain (OpenSpec.ofChange fnExactStmtTokensSpec)) fnExactStmtTokensCard

/-- THE TIED CARD OF 'laws.FnExactProgramTokens'. -/
def fnExactProgramTokensCard : Claim7 := { stood := { row := fnExactProgramTokensRow, standIns := [], harness := (true, "6ccffde7702128554c8239359ea002d72e01e5902717307667f803019016a2bc"), looks := false }, kinds := [], alts := [], laidByText := true, laidKinds := [.data, .data, .data, .data], laidTests := true, laidLooks := .later }
def FnExactProgramTokensCardSaid : Prop := Claim7.holds Tryd.pinned (.plain (OpenSpec.ofChange fnExactProgramTokensSpec)) fnExactProgramTokensCard

/-- THE TIED CARD OF 'laws.FnExactFormatProgram'. -/
def fnExactFormatProgramCard : Claim7 := { stood := { row := fnExactFormatProgramRow, standIns := [], harness := (true, "6ccffde7702128554c8239359ea002d72e01e5902717307667f803019016a2bc"), looks := false }, kinds := [], alts := [], laidByText := true, laidKinds := [.data, .data, .data, .data], laidTests := true, laidLooks := .later }
def FnExactFormatProgramCardSaid : Prop := Claim7.holds Tryd.pinned (.plain (OpenSpec.ofChange fnExactFormatProgramSpec)) fnExactFormatProgramCard

/-- THE TIED CARD OF 'laws.FnExactCheckProgram'. -/
def fnExactCheckProgramCard : Claim7 := { stood := { row := fnExactCheckProgramRow, standIns := [], harness := (true, "6ccffde7702128554c8239359ea002d72e01e5902717307667f803019016a2bc"), looks := false }, kinds := [], alts := [], laidByText := true, laidKinds := [.data], laidTests := true, laidLooks := .later }
def FnExactCheckProgramCardSaid : Prop := Claim7.holds Tryd.pinned (.plain (OpenSpec.ofChange fnExactCheckProgramSpec)) fnExactCheckProgramCard

/-- THE TIED CARD OF 'laws.FnStmtTokens'. -/
def fnStmtTokensCard : Claim7 := { stood := { row := fnStmtTokensRow, standIns := [], harness := (true, "6ccffde7702128554c8239359ea002d72e01e5902717307667f803019016a2bc"), looks := false }, kinds := [], alts := [], laidByText := true, laidKinds := [.data, .data, .data, .data], laidTests := true, laidLooks := .later }
def FnStmtTokensCardSaid : Prop := Claim7.holds Tryd.pinned (.plain (OpenSpec.ofChange fnStmtTokensSpec)) fnStmtTokensCard

/-- THE TIED CARD OF 'laws.FnCheck'. -/
def fnCheckCard : Claim7 := { stood := { row := fnCheckRow, standIns := [], harness := (true, "6ccffde7702128554c8239359ea002d72e01e5902717307667f803019016a2bc"), looks := false }, kinds := [], alts := [], laidByText := true, laidKinds := [.data], laidTests := true, laidLooks := .later }
def FnCheckCardSaid : Prop := Claim7.holds Tryd.pinned (.plain (OpenSpec.ofChange fnCheckSpec)) fnCheckCard

/-- THE TIED CARD OF 'laws.FnExactFormatOp'. -/
def fnExactFormatOpCard : Claim7 := { stood := { row := fnExactFormatOpRow, standIns := [], harness := (true, "6ccffde7702128554c8239359ea002d72e01e5902717307667f803019016a2bc"), looks := false }, kinds := [], alts := [], laidByText := true, laidKinds := [.data, .data, .data, .data], laidTests := true, laidLooks := .later }
def FnExactFormatOpCardSaid : Prop := Claim7.holds Tryd.pinned (.plain (OpenSpec.ofChange fnExactFormatOpSpec)) fnExactFormatOpCard

/-- THE SECOND FORM's CARD OF 'laws.FnExactIsValidStmt'. -/
def fnExactIsValidStmtUptoCard : Claim7 := { stood := { row := fnExactIsValidStmtUptoRow, standIns := [], harness := (true, "6ccffde7702128554c8239359ea002d72e01e5902717307667f803019016a2bc"), looks := false }, kinds := [], alts := [], laidByText := true, laidKinds := [.data], laidTests := true, laidLooks := .later }
def FnExactIsValidStmtUptoCardSaid : Prop := Claim7.holds Tryd.pinned (.plain (OpenSpec.upto fnExactIsValidStmtSpec)) fnExactIsValidStmtUptoCard

/-- THE SECOND FORM's CARD OF 'laws.FnExactIsValidProgram'. -/
def fnExactIsValidProgramUptoCard : Claim7 := { stood := { row := fnExactIsValidProgramUptoRow, standIns := [], harness := (true, "6ccffde7702128554c8239359ea002d72e01e5902717307667f803019016a2bc"), looks := false }, kinds := [], alts := [], laidByText := true, laidKinds := [.data], laidTests := true, laidLooks := .later }
def FnExactIsValidProgramUptoCardSaid : Prop := Claim7.holds Tryd.pinned (.plain (OpenSpec.upto fnExactIsValidProgramSpec)) fnExactIsValidProgramUptoCard

/-- THE SECOND FORM's CARD OF 'laws.FnExactStmtTokens'. -/
def fnExactStmtTokensUptoCard : Claim7 := { stood := { row := fnExactStmtTokensUptoRow, standIns := [], harness := (true, "6ccffde7702128554c8239359ea002d72e01e5902717307667f803019016a2bc"), looks := false }, kinds := [], alts := [], laidByText := true, laidKinds := [.data, .data, .data, .data], laidTests := true, laidLooks := .later }
def FnExactStmtTokensUptoCardSaid : Prop := Claim7.holds Tryd.pinned (.plain (OpenSpec.upto fnExactStmtTokensSpec)) fnExactStmtTokensUptoCard

/-- THE SECOND FORM's CARD OF 'laws.FnExactProgramTokens'. -/
def fnExactProgramTokensUptoCard : Claim7 := { stood := { row := fnExactProgramTokensUptoRow, standIns := [], harness := (true, "6ccffde7702128554c8239359ea002d72e01e5902717307667f803019016a2bc"), looks := false }, kinds := [], alts := [], laidByText := true, laidKinds := [.data, .data, .data, .data], laidTests := true, laidLooks := .later }
def FnExactProgramTokensUptoCardSaid : Prop := Claim7.holds Tryd.pinned (.plain (OpenSpec.upto fnExactProgramTokensSpec)) fnExactProgramTokensUptoCard

/-- THE SECOND FORM's CARD OF 'laws.FnExactFormatProgram'. -/
def fnExactFormatProgramUptoCard : Claim7 := { stood := { row := fnExactFormatProgramUptoRow, standIns := [], harness := (true, "6ccffde7702128554c8239359ea002d72e01e5902717307667f803019016a2bc"), looks := false }, kinds := [], alts := [], laidByText := true, laidKinds := [.data, .data, .data, .data], laidTests := true, laidLooks := .later }
def FnExactFormatProgramUptoCardSaid : Prop := Claim7.holds Tryd.pinned (.plain (OpenSpec.upto fnExactFormatProgramSpec)) fnExactFormatProgramUptoCard

/-- THE SECOND FORM's CARD OF 'laws.FnExactCheckProgram'. -/
def fnExactCheckProgramUptoCard : Claim7 := { stood := { row := fnExactCheckProgramUptoRow, standIns := [], harness := (true, "6ccffde7702128554c8239359ea002d72e01e5902717307667f803019016a2bc"), looks := false }, kinds := [], alts := [], laidByText := true, laidKinds := [.data], laidTests := true, laidLooks := .later }
def FnExactCheckProgramUptoCardSaid : Prop := Claim7.holds Tryd.pinned (.plain (OpenSpec.upto fnExactCheckProgramSpec)) fnExactCheckProgramUptoCard

/-- THE SECOND FORM's CARD OF 'laws.FnStmtTokens'. -/
def fnStmtTokensUptoCard : Claim7 := { stood := { row := fnStmtTokensUptoRow, standIns := [], harness := (true, "6ccffde7702128554c8239359ea002d72e01e5902717307667f803019016a2bc"), looks := false }, kinds := [], alts := [], laidByText := true, laidKinds := [.data, .data, .data, .data], laidTests := true, laidLooks := .later }
def FnStmtTokensUptoCardSaid : Prop := Claim7.holds Tryd.pinned (.plain (OpenSpec.upto fnStmtTokensSpec)) fnStmtTokensUptoCard

/-- THE SECOND FORM's CARD OF 'laws.FnCheck'. -/
def fnCheckUptoCard : Claim7 := { stood := { row := fnCheckUptoRow, standIns := [], harness := (true, "6ccffde7702128554c8239359ea002d72e01e5902717307667f803019016a2bc"), looks := false }, kinds := [], alts := [], laidByText := true, laidKinds := [.data], laidTests := true, laidLooks := .later }
def FnCheckUptoCardSaid : Prop := Claim7.holds Tryd.pinned (.plain (OpenSpec.upto fnCheckSpec)) fnCheckUptoCard

/-- THE SECOND FORM's CARD OF 'laws.FnExactFormatOp'. -/
def fnExactFormatOpUptoCard : Claim7 := { stood := { row := fnExactFormatOpUptoRow, standIns := [], harness := (true, "6ccffde7702128554c8239359ea002d72e01e5902717307667f803019016a2bc"), looks := false }, kinds := [], alts := [], laidByText := true, laidKinds := [.data, .data, .data, .data], laidTests := true, laidLooks := .later }
def FnExactFormatOpUptoCardSaid : Prop := Claim7.holds Tryd.pinned (.plain (OpenSpec.upto fnExactFormatOpSpec)) fnExactFormatOpUptoCard
end Rows
end Go.Proofs.YtijocafindbebaaDoor
