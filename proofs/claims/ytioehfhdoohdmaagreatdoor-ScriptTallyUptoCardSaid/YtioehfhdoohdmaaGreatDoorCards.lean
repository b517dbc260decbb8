/-
  DERIVED. GIVEN WITH THE SEED: THE CARDS: each row of YtioehfhdoohdmaaGreatDoorRows.lean that lists a variable, with what it lists TIED to the program's text (the seventh form; the later family's looks); each row that meets fmt, with fmt's text TOLD by the authors' own Lean function (tested against real Go, not proved from fmt's source: count such statements apart). THE CARD IS WHAT COUNTS. Prove the row's statement (the work); the ties are given (YtioehfhdoohdmaaGreatDoorTie.lean); close each card by the builder's one call (the guide's Derived/Test/ToyasCard.lean, 'card_holds'). Laid BY PROGRAM, IN A SANDBOX (cutbox-door.mjs). By AI agents, Wed Nov 11 2026. No macro, syntax, notation, axiom, sorry.
-/
import Derived.Test.YtioehfhdoohdmaaGreatDoorRows
import GoSem.ClaimSeven
namespace Go.Proofs.YtioehfhdoohdmaaGreatDoor
namespace Rows

/-- THE TIED CARD OF 'guiselaw14.ScriptOf'. -/
def scriptOfCard : Claim7 := { stood := { row := scriptOfRow, standIns := [], harness := (true, "259d2fb392c1911a5c6397a48a55404e3d66c2d4418ea515abd3d3b34922a8fd"), looks := false }, kinds := [], alts := [], laidByText := true, laidKinds := [.data, .pinned], laidTests := true, laidLooks := .later }
def ScriptOfCardSaid : Prop := Claim7.holds Tryz.pinned (.plain (OpenSpec.ofChange scriptOfSpec)) scriptOfCard

/-- THE TIED CARD OF 'guiselaw14.ScriptRuns'. -/
def scriptRunsCard : Claim7 := { stood := { row := scriptRunsRow, standIns := [], harness := (true, "259d2fb392c1911a5c6397a48a55404e3d66c2d4418ea515abd3d3b34922a8fd"), looks := false }, kinds := [], alts := [], laidByText := true, laidKinds := [.data, .pinned], laidTests := true, laidLooks := .later }
def ScriptRunsCardSaid : Prop := Claim7.holds Tryz.pinned (.plain (OpenSpec.ofChange scriptRunsSpec)) scriptRunsCard

/-- THE TIED CARD OF 'guiselaw14.ScriptLeast'. -/
def scriptLeastCard : Claim7 := { stood := { row := scriptLeastRow, standIns := [], harness := (true, "259d2fb392c1911a5c6397a48a55404e3d66c2d4418ea515abd3d3b34922a8fd"), looks := false }, kinds := [], alts := [], laidByText := true, laidKinds := [.data, .pinned], laidTests := true, laidLooks := .later }
def ScriptLeastCardSaid : Prop := Claim7.holds Tryz.pinned (.plain (OpenSpec.ofChange scriptLeastSpec)) scriptLeastCard

/-- THE TIED CARD OF 'guiselaw14.ScriptPieces'. -/
def scriptPiecesCard : Claim7 := { stood := { row := scriptPiecesRow, standIns := [], harness := (true, "259d2fb392c1911a5c6397a48a55404e3d66c2d4418ea515abd3d3b34922a8fd"), looks := false }, kinds := [], alts := [], laidByText := true, laidKinds := [.data, .pinned], laidTests := true, laidLooks := .later }
def ScriptPiecesCardSaid : Prop := Claim7.holds Tryz.pinned (.plain (OpenSpec.ofChange scriptPiecesSpec)) scriptPiecesCard

/-- THE TIED CARD OF 'guiselaw14.ScriptStops'. -/
def scriptStopsCard : Claim7 := { stood := { row := scriptStopsRow, standIns := [], harness := (true, "259d2fb392c1911a5c6397a48a55404e3d66c2d4418ea515abd3d3b34922a8fd"), looks := false }, kinds := [], alts := [], laidByText := true, laidKinds := [.data, .pinned], laidTests := true, laidLooks := .later }
def ScriptStopsCardSaid : Prop := Claim7.holds Tryz.pinned (.plain (OpenSpec.ofChange scriptStopsSpec)) scriptStopsCard

/-- THE TIED CARD OF 'guiselaw14.ScriptJoins'. -/
def scriptJoinsCard : Claim7 := { stood := { row := scriptJoinsRow, standIns := [], harness := (true, "259d2fb392c1911a5c6397a48a55404e3d66c2d4418ea515abd3d3b34922a8fd"), looks := false }, kinds := [], alts := [], laidByText := true, laidKinds := [.data, .pinned], laidTests := true, laidLooks := .later }
def ScriptJoinsCardSaid : Prop := Claim7.holds Tryz.pinned (.plain (OpenSpec.ofChange scriptJoinsSpec)) scriptJoinsCard

/-- THE TIED CARD OF 'guiselaw14.ScriptTally'. -/
def scriptTallyCard : Claim7 := { stood := { row := scriptTallyRow, standIns := [], harness := (true, "259d2fb392c1911a5c6397a48a55404e3d66c2d4418ea515abd3d3b34922a8fd"), looks := false }, kinds := [], alts := [], laidByText := true, laidKinds := [.data, .pinned], laidTests := true, laidLooks := .later }
def ScriptTallyCardSaid : Prop := Claim7.holds Tryz.pinned (.plain (OpenSpec.ofChange scriptTallySpec)) scriptTallyCard

/-- THE TIED CARD OF 'guiselaw14.ScriptNumbers'. -/
def scriptNumbersCard : Claim7 := { stood := { row := scriptNumbersRow, standIns := [], harness := (true, "259d2fb392c1911a5c6397a48a55404e3d66c2d4418ea515abd3d3b34922a8fd"), looks := false }, kinds := [], alts := [], laidByText := true, laidKinds := [.data, .pinned], laidTests := true, laidLooks := .later }
def ScriptNumbersCardSaid : Prop := Claim7.holds Tryz.pinned (.plain (OpenSpec.ofChange scriptNumbersSpec)) scriptNumbersCard

/-- THE SECOND FORM's CARD OF 'guiselaw14.ScriptOf'. -/
def scriptOfUptoCard : Claim7 := { stood := { row := scriptOfUptoRow, standIns := [], harness := (true, "259d2fb392c1911a5c6397a48a55404e3d66c2d4418ea515abd3d3b34922a8fd"), looks := false }, kinds := [], alts := [], laidByText := true, laidKinds := [.data, .pinned], laidTests := true, laidLooks := .later }
def ScriptOfUptoCardSaid : Prop := Claim7.holds Tryz.pinned (.plain (OpenSpec.upto scriptOfSpec)) scriptOfUptoCard

/-- THE SECOND FORM's CARD OF 'guiselaw14.ScriptRuns'. -/
def scriptRunsUptoCard : Claim7 := { stood := { row := scriptRunsUptoRow, standIns := [], harness := (true, "259d2fb392c1911a5c6397a48a55404e3d66c2d4418ea515abd3d3b34922a8fd"), looks := false }, kinds := [], alts := [], laidByText := true, laidKinds := [.data, .pinned], laidTests := true, laidLooks := .later }
def ScriptRunsUptoCardSaid : Prop := Claim7.holds Tryz.pinned (.plain (OpenSpec.upto scriptRunsSpec)) scriptRunsUptoCard

/-- THE SECOND FORM's CARD OF 'guiselaw14.ScriptLeast'. -/
def scriptLeastUptoCard : Claim7 := { stood := { row := scriptLeastUptoRow, standIns := [], harness := (true, "259d2fb392c1911a5c6397a48a55404e3d66c2d4418ea515abd3d3b34922a8fd"), looks := false }, kinds := [], alts := [], laidByText := true, laidKinds := [.data, .pinned], laidTests := true, laidLooks := .later }
def ScriptLeastUptoCardSaid : Prop := Claim7.holds Tryz.pinned (.plain (OpenSpec.upto scriptLeastSpec)) scriptLeastUptoCard

/-- THE SECOND FORM's CARD OF 'guiselaw14.ScriptPieces'. -/
def scriptPiecesUptoCard : Claim7 := { stood := { row := scriptPiecesUptoRow, standIns := [], harness := (true, "259d2fb392c1911a5c6397a48a55404e3d66c2d4418ea515abd3d3b34922a8fd"), looks := false }, kinds := [], alts := [], laidByText := true, laidKinds := [.data, .pinned], laidTests := true, laidLooks := .later }
def ScriptPiecesUptoCardSaid : Prop := Claim7.holds Tryz.pinned (.plain (OpenSpec.upto scriptPiecesSpec)) scriptPiecesUptoCard

/-- THE SECOND FORM's CARD OF 'guiselaw14.ScriptStops'. -/
def scriptStopsUptoCard : Claim7 := { stood := { row := scriptStopsUptoRow, standIns := [], harness := (true, "259d2fb392c1911a5c6397a48a55404e3d66c2d4418ea515abd3d3b34922a8fd"), looks := false }, kinds := [], alts := [], laidByText := true, laidKinds := [.data, .pinned], laidTests := true, laidLooks := .later }
def ScriptStopsUptoCardSaid : Prop := Claim7.holds Tryz.pinned (.plain (OpenSpec.upto scriptStopsSpec)) scriptStopsUptoCard

/-- THE SECOND FORM's CARD OF 'guiselaw14.ScriptJoins'. -/
def scriptJoinsUptoCard : Claim7 := { stood := { row := scriptJoinsUptoRow, standIns := [], harness := (true, "259d2fb392c1911a5c6397a48a55404e3d66c2d4418ea515abd3d3b34922a8fd"), looks := false }, kinds := [], alts := [], laidByText := true, laidKinds := [.data, .pinned], laidTests := true, laidLooks := .later }
def ScriptJoinsUptoCardSaid : Prop := Claim7.holds Tryz.pinned (.plain (OpenSpec.upto scriptJoinsSpec)) scriptJoinsUptoCard

/-- THE SECOND FORM's CARD OF 'guiselaw14.ScriptTally'. -/
def scriptTallyUptoCard : Claim7 := { stood := { row := scriptTallyUptoRow, standIns := [], harness := (true, "259d2fb392c1911a5c6397a48a55404e3d66c2d4418ea515abd3d3b34922a8fd"), looks := false }, kinds := [], alts := [], laidByText := true, laidKinds := [.data, .pinned], laidTests := true, laidLooks := .later }
def ScriptTallyUptoCardSaid : Prop := Claim7.holds Tryz.pinned (.plain (OpenSpec.upto scriptTallySpec)) scriptTallyUptoCard

/-- THE SECOND FORM's CARD OF 'guiselaw14.ScriptNumbers'. -/
def scriptNumbersUptoCard : Claim7 := { stood := { row := scriptNumbersUptoRow, standIns := [], harness := (true, "259d2fb392c1911a5c6397a48a55404e3d66c2d4418ea515abd3d3b34922a8fd"), looks := false }, kinds := [], alts := [], laidByText := true, laidKinds := [.data, .pinned], laidTests := true, laidLooks := .later }
def ScriptNumbersUptoCardSaid : Prop := Claim7.holds Tryz.pinned (.plain (OpenSpec.upto scriptNumbersSpec)) scriptNumbersUptoCard
end Rows
end Go.Proofs.YtioehfhdoohdmaaGreatDoor
