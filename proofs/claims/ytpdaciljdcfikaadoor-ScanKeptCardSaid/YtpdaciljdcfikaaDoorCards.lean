/-
  DERIVED. GIVEN WITH THE SEED: THE CARDS: each row of YtpdaciljdcfikaaDoorRows.lean that lists a variable, with what it lists TIED to the program's text (the seventh form; the later family's looks); each row that meets fmt, with fmt's text TOLD by the authors' own Lean function (tested against real Go, not proved from fmt's source: count such statements apart). THE CARD IS WHAT COUNTS. Prove the row's statement (the work); the ties are given (YtpdaciljdcfikaaDoorTie.lean); close each card by the builder's one call (the guide's Derived/Test/ToyasCard.lean, 'card_holds'). Laid BY PROGRAM, IN A SANDBOX (cutbox-door.mjs). By AI agents, Wed Nov 11 2026. No macro, syntax, notation, axiom, sorry.
-/
import Derived.Test.YtpdaciljdcfikaaDoorRows
import GoSem.ClaimSeven
namespace Go.Proofs.YtpdaciljdcfikaaDoor
namespace Rows

/-- THE TIED CARD OF 'guiselaw4.ScanNumbers'. -/
def scanNumbersCard : Claim7 := { stood := { row := scanNumbersRow, standIns := [], harness := (true, "0cf30a14ffe7a5161223c837ac4d00e9f9904616ba59bc2d8d9e2ee667a845d6"), looks := false }, kinds := [], alts := [], laidByText := true, laidKinds := [.data, .data, .data, .data, .pinned, .pinned], laidTests := true, laidLooks := .later }
def ScanNumbersCardSaid : Prop := Claim7.holds Tryd.pinned (.plain (OpenSpec.ofChange scanNumbersSpec)) scanNumbersCard

/-- THE TIED CARD OF 'guiselaw4.ScanWords'. -/
def scanWordsCard : Claim7 := { stood := { row := scanWordsRow, standIns := [], harness := (true, "0cf30a14ffe7a5161223c837ac4d00e9f9904616ba59bc2d8d9e2ee667a845d6"), looks := false }, kinds := [], alts := [], laidByText := true, laidKinds := [.data, .data, .data, .data, .pinned, .pinned], laidTests := true, laidLooks := .later }
def ScanWordsCardSaid : Prop := Claim7.holds Tryd.pinned (.plain (OpenSpec.ofChange scanWordsSpec)) scanWordsCard

/-- THE TIED CARD OF 'guiselaw4.ScanWhere'. -/
def scanWhereCard : Claim7 := { stood := { row := scanWhereRow, standIns := [], harness := (true, "0cf30a14ffe7a5161223c837ac4d00e9f9904616ba59bc2d8d9e2ee667a845d6"), looks := false }, kinds := [], alts := [], laidByText := true, laidKinds := [.data, .data, .data, .data, .pinned, .pinned], laidTests := true, laidLooks := .later }
def ScanWhereCardSaid : Prop := Claim7.holds Tryd.pinned (.plain (OpenSpec.ofChange scanWhereSpec)) scanWhereCard

/-- THE TIED CARD OF 'guiselaw4.ScanTexts'. -/
def scanTextsCard : Claim7 := { stood := { row := scanTextsRow, standIns := [], harness := (true, "0cf30a14ffe7a5161223c837ac4d00e9f9904616ba59bc2d8d9e2ee667a845d6"), looks := false }, kinds := [], alts := [], laidByText := true, laidKinds := [.data, .data, .data, .data, .pinned, .pinned], laidTests := true, laidLooks := .later }
def ScanTextsCardSaid : Prop := Claim7.holds Tryd.pinned (.plain (OpenSpec.ofChange scanTextsSpec)) scanTextsCard

/-- THE TIED CARD OF 'guiselaw4.ScanFirst'. -/
def scanFirstCard : Claim7 := { stood := { row := scanFirstRow, standIns := [], harness := (true, "0cf30a14ffe7a5161223c837ac4d00e9f9904616ba59bc2d8d9e2ee667a845d6"), looks := false }, kinds := [], alts := [], laidByText := true, laidKinds := [.data, .data, .data, .data, .pinned, .pinned], laidTests := true, laidLooks := .later }
def ScanFirstCardSaid : Prop := Claim7.holds Tryd.pinned (.plain (OpenSpec.ofChange scanFirstSpec)) scanFirstCard

/-- THE TIED CARD OF 'guiselaw4.ScanBack'. -/
def scanBackCard : Claim7 := { stood := { row := scanBackRow, standIns := [], harness := (true, "0cf30a14ffe7a5161223c837ac4d00e9f9904616ba59bc2d8d9e2ee667a845d6"), looks := false }, kinds := [], alts := [], laidByText := true, laidKinds := [.data, .data, .data, .data, .pinned, .pinned], laidTests := true, laidLooks := .later }
def ScanBackCardSaid : Prop := Claim7.holds Tryd.pinned (.plain (OpenSpec.ofChange scanBackSpec)) scanBackCard

/-- THE TIED CARD OF 'guiselaw4.ScanJoins'. -/
def scanJoinsCard : Claim7 := { stood := { row := scanJoinsRow, standIns := [], harness := (true, "0cf30a14ffe7a5161223c837ac4d00e9f9904616ba59bc2d8d9e2ee667a845d6"), looks := false }, kinds := [], alts := [], laidByText := true, laidKinds := [.data, .data, .data, .data, .pinned, .pinned], laidTests := true, laidLooks := .later }
def ScanJoinsCardSaid : Prop := Claim7.holds Tryd.pinned (.plain (OpenSpec.ofChange scanJoinsSpec)) scanJoinsCard

/-- THE TIED CARD OF 'guiselaw4.ScanLimits'. -/
def scanLimitsCard : Claim7 := { stood := { row := scanLimitsRow, standIns := [], harness := (true, "0cf30a14ffe7a5161223c837ac4d00e9f9904616ba59bc2d8d9e2ee667a845d6"), looks := false }, kinds := [], alts := [], laidByText := true, laidKinds := [.data, .data, .data, .data, .pinned, .pinned], laidTests := true, laidLooks := .later }
def ScanLimitsCardSaid : Prop := Claim7.holds Tryd.pinned (.plain (OpenSpec.ofChange scanLimitsSpec)) scanLimitsCard

/-- THE TIED CARD OF 'guiselaw4.ScanKept'. -/
def scanKeptCard : Claim7 := { stood := { row := scanKeptRow, standIns := [], harness := (true, "0cf30a14ffe7a5161223c837ac4d00e9f9904616ba59bc2d8d9e2ee667a845d6"), looks := false }, kinds := [], alts := [], laidByText := true, laidKinds := [.data, .data, .data, .data, .pinned, .pinned], laidTests := true, laidLooks := .later }
def ScanKeptCardSaid : Prop := Claim7.holds Tryd.pinned (.plain (OpenSpec.ofChange scanKeptSpec)) scanKeptCard

/-- THE SECOND FORM's CARD OF 'guiselaw4.ScanNumbers'. -/
def scanNumbersUptoCard : Claim7 := { stood := { row := scanNumbersUptoRow, standIns := [], harness := (true, "0cf30a14ffe7a5161223c837ac4d00e9f9904616ba59bc2d8d9e2ee667a845d6"), looks := false }, kinds := [], alts := [], laidByText := true, laidKinds := [.data, .data, .data, .data, .pinned, .pinned], laidTests := true, laidLooks := .later }
def ScanNumbersUptoCardSaid : Prop := Claim7.holds Tryd.pinned (.plain (OpenSpec.upto scanNumbersSpec)) scanNumbersUptoCard

/-- THE SECOND FORM's CARD OF 'guiselaw4.ScanWords'. -/
def scanWordsUptoCard : Claim7 := { stood := { row := scanWordsUptoRow, standIns := [], harness := (true, "0cf30a14ffe7a5161223c837ac4d00e9f9904616ba59bc2d8d9e2ee667a845d6"), looks := false }, kinds := [], alts := [], laidByText := true, laidKinds := [.data, .data, .data, .data, .pinned, .pinned], laidTests := true, laidLooks := .later }
def ScanWordsUptoCardSaid : Prop := Claim7.holds Tryd.pinned (.plain (OpenSpec.upto scanWordsSpec)) scanWordsUptoCard

/-- THE SECOND FORM's CARD OF 'guiselaw4.ScanWhere'. -/
def scanWhereUptoCard : Claim7 := { stood := { row := scanWhereUptoRow, standIns := [], harness := (true, "0cf30a14ffe7a5161223c837ac4d00e9f9904616ba59bc2d8d9e2ee667a845d6"), looks := false }, kinds := [], alts := [], laidByText := true, laidKinds := [.data, .data, .data, .data, .pinned, .pinned], laidTests := true, laidLooks := .later }
def ScanWhereUptoCardSaid : Prop := Claim7.holds Tryd.pinned (.plain (OpenSpec.upto scanWhereSpec)) scanWhereUptoCard

/-- THE SECOND FORM's CARD OF 'guiselaw4.ScanTexts'. -/
def scanTextsUptoCard : Claim7 := { stood := { row := scanTextsUptoRow, standIns := [], harness := (true, "0cf30a14ffe7a5161223c837ac4d00e9f9904616ba59bc2d8d9e2ee667a845d6"), looks := false }, kinds := [], alts := [], laidByText := true, laidKinds := [.data, .data, .data, .data, .pinned, .pinned], laidTests := true, laidLooks := .later }
def ScanTextsUptoCardSaid : Prop := Claim7.holds Tryd.pinned (.plain (OpenSpec.upto scanTextsSpec)) scanTextsUptoCard

/-- THE SECOND FORM's CARD OF 'guiselaw4.ScanFirst'. -/
def scanFirstUptoCard : Claim7 := { stood := { row := scanFirstUptoRow, standIns := [], harness := (true, "0cf30a14ffe7a5161223c837ac4d00e9f9904616ba59bc2d8d9e2ee667a845d6"), looks := false }, kinds := [], alts := [], laidByText := true, laidKinds := [.data, .data, .data, .data, .pinned, .pinned], laidTests := true, laidLooks := .later }
def ScanFirstUptoCardSaid : Prop := Claim7.holds Tryd.pinned (.plain (OpenSpec.upto scanFirstSpec)) scanFirstUptoCard

/-- THE SECOND FORM's CARD OF 'guiselaw4.ScanBack'. -/
def scanBackUptoCard : Claim7 := { stood := { row := scanBackUptoRow, standIns := [], harness := (true, "0cf30a14ffe7a5161223c837ac4d00e9f9904616ba59bc2d8d9e2ee667a845d6"), looks := false }, kinds := [], alts := [], laidByText := true, laidKinds := [.data, .data, .data, .data, .pinned, .pinned], laidTests := true, laidLooks := .later }
def ScanBackUptoCardSaid : Prop := Claim7.holds Tryd.pinned (.plain (OpenSpec.upto scanBackSpec)) scanBackUptoCard

/-- THE SECOND FORM's CARD OF 'guiselaw4.ScanJoins'. -/
def scanJoinsUptoCard : Claim7 := { stood := { row := scanJoinsUptoRow, standIns := [], harness := (true, "0cf30a14ffe7a5161223c837ac4d00e9f9904616ba59bc2d8d9e2ee667a845d6"), looks := false }, kinds := [], alts := [], laidByText := true, laidKinds := [.data, .data, .data, .data, .pinned, .pinned], laidTests := true, laidLooks := .later }
def ScanJoinsUptoCardSaid : Prop := Claim7.holds Tryd.pinned (.plain (OpenSpec.upto scanJoinsSpec)) scanJoinsUptoCard

/-- THE SECOND FORM's CARD OF 'guiselaw4.ScanLimits'. -/
def scanLimitsUptoCard : Claim7 := { stood := { row := scanLimitsUptoRow, standIns := [], harness := (true, "0cf30a14ffe7a5161223c837ac4d00e9f9904616ba59bc2d8d9e2ee667a845d6"), looks := false }, kinds := [], alts := [], laidByText := true, laidKinds := [.data, .data, .data, .data, .pinned, .pinned], laidTests := true, laidLooks := .later }
def ScanLimitsUptoCardSaid : Prop := Claim7.holds Tryd.pinned (.plain (OpenSpec.upto scanLimitsSpec)) scanLimitsUptoCard

/-- THE SECOND FORM's CARD OF 'guiselaw4.ScanKept'. -/
def scanKeptUptoCard : Claim7 := { stood := { row := scanKeptUptoRow, standIns := [], harness := (true, "0cf30a14ffe7a5161223c837ac4d00e9f9904616ba59bc2d8d9e2ee667a845d6"), looks := false }, kinds := [], alts := [], laidByText := true, laidKinds := [.data, .data, .data, .data, .pinned, .pinned], laidTests := true, laidLooks := .later }
def ScanKeptUptoCardSaid : Prop := Claim7.holds Tryd.pinned (.plain (OpenSpec.upto scanKeptSpec)) scanKeptUptoCard
end Rows
end Go.Proofs.YtpdaciljdcfikaaDoor
