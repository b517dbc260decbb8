/-
  NARROWER THAN 'FOR EVERY INPUT', by the rows' own cells (each row's printed sentence says how): ScriptOf: laid · ScriptRuns: laid · ScriptLeast: laid · ScriptPieces: laid · ScriptStops: laid · ScriptJoins: laid · ScriptTally: laid · ScriptNumbers: laid.
  DERIVED. THE GIVEN ROWS OF THIS SEAT. 8 by the template 'for every input the law returns true; each argument reads behind the call as it read before'; 0 by the template 'total and deterministic' (their statements: YtioehfhdoohdmaaGreatDoorTotals.lean).
  GIVEN WITH THE SEED: the statements are not yours to turn. If you find one false, say at which input.
  Laid BY PROGRAM, IN A SANDBOX (cutbox-rows.mjs): the forced cells as the released guide's own fill.sh prints them over the translation 741dc28302894d96… (all of the seat's roots in one cut). By AI agents, Wed Nov 11 2026. No macro, syntax, notation, axiom, sorry.
-/
import Derived.Test.YtioehfhdoohdmaaGreatDoorChecked
import GoSem.PinnedTables
import GoSem.Claim
import GoSem.ClaimJoined
import GoSem.ClaimMapViews
import Derived.JoinedTies
import Derived.KernelRfl
namespace Go.Proofs.YtioehfhdoohdmaaGreatDoor
/- THE CELL 'sum', in the pinned program and in every row, IS THE sha256 OF THE DUMP (.gsa) THAT YtioehfhdoohdmaaGreatDoorProg.lean LOADS. Nothing in Lean hashes anything: it is a label: what it is worth is what the hold of that sum in a sandbox is worth. -/
noncomputable def Tryz.pinned : Pinned := { name := "ytioehfhdoohdmaagreatdoor", sum := "741dc28302894d9626bee15aef6533fe84e0563e6812d877f360741ff998dd4e", checked := Tryz.checked }
namespace Rows
def none {H : Type} : Left H := { results := [], args := [] }

/- WHAT THE LISTED PACKAGE-LEVEL VARIABLES READ AS WHEN THE CALL BEGINS. Each datum BY PROGRAM (the guide's laid-datum.mjs) off the statement by which the dump's own 'gosem.cut.vars' lays the variable. In a bare row this is a premise. The card (YtioehfhdoohdmaaGreatDoorCards.lean) ties it to the program's text. -/
def laid_unicode_utf8_acceptRanges {H : Type} : DataW H := .agg [.agg [.lit (.int .u8 128), .lit (.int .u8 191)], .agg [.lit (.int .u8 160), .lit (.int .u8 191)], .agg [.lit (.int .u8 128), .lit (.int .u8 159)], .agg [.lit (.int .u8 144), .lit (.int .u8 191)], .agg [.lit (.int .u8 128), .lit (.int .u8 143)], .agg [.lit (.int .u8 0), .lit (.int .u8 0)], .agg [.lit (.int .u8 0), .lit (.int .u8 0)], .agg [.lit (.int .u8 0), .lit (.int .u8 0)], .agg [.lit (.int .u8 0), .lit (.int .u8 0)], .agg [.lit (.int .u8 0), .lit (.int .u8 0)], .agg [.lit (.int .u8 0), .lit (.int .u8 0)], .agg [.lit (.int .u8 0), .lit (.int .u8 0)], .agg [.lit (.int .u8 0), .lit (.int .u8 0)], .agg [.lit (.int .u8 0), .lit (.int .u8 0)], .agg [.lit (.int .u8 0), .lit (.int .u8 0)], .agg [.lit (.int .u8 0), .lit (.int .u8 0)]]
/-- One of Go's own tables, pinned by name: the form's constant. -/
def laid_unicode_utf8_first : DataW Unit := Go.Pinned.utf8First

/-- 'guiselaw14.ScriptOf': WHATEVER THE INPUT: true; the input reads as it did. -/
def scriptOfSpec : ChangeSpec := { name := "scriptOf", fn := fun _ => fun
  | [d1, d2, d3] => { results := [.lit (.bool true)], args := [d1, d2, d3] }
  | _ => none }
def scriptOfRow : OpenClaim := { program := "ytioehfhdoohdmaagreatdoor", sum := "741dc28302894d9626bee15aef6533fe84e0563e6812d877f360741ff998dd4e", func := "guise/guiselaw14.ScriptOf", spec := "scriptOf", inPlace := ["internal/bytealg.IndexByteString", "internal/bytealg.IndexString"], unfollowed := true, recurses := true, named := ["unicode/utf8.first", "unicode/utf8.acceptRanges", "internal/bytealg.MaxLen"], plainKeys := false, apart := false, laid := [("unicode/utf8.acceptRanges", laid_unicode_utf8_acceptRanges), ("unicode/utf8.first", laid_unicode_utf8_first)] }
def ScriptOfSaid : Prop := scriptOfRow.holds Tryz.pinned (OpenSpec.ofChange scriptOfSpec)

/-- ITS FALSE NEIGHBOUR: 'it returns false'. Refute it at one input. -/
def scriptOfWrong : ChangeSpec := { name := "scriptOf", fn := fun _ => fun
  | [d1, d2, d3] => { results := [.lit (.bool false)], args := [d1, d2, d3] }
  | _ => none }
def ScriptOfWrongFalsely : Prop := scriptOfRow.holds Tryz.pinned (OpenSpec.ofChange scriptOfWrong)

/-- 'guiselaw14.ScriptRuns': WHATEVER THE INPUT: true; the input reads as it did. -/
def scriptRunsSpec : ChangeSpec := { name := "scriptRuns", fn := fun _ => fun
  | [d1, d2, d3] => { results := [.lit (.bool true)], args := [d1, d2, d3] }
  | _ => none }
def scriptRunsRow : OpenClaim := { program := "ytioehfhdoohdmaagreatdoor", sum := "741dc28302894d9626bee15aef6533fe84e0563e6812d877f360741ff998dd4e", func := "guise/guiselaw14.ScriptRuns", spec := "scriptRuns", inPlace := ["internal/bytealg.IndexByteString", "internal/bytealg.IndexString"], unfollowed := true, recurses := true, named := ["unicode/utf8.first", "unicode/utf8.acceptRanges", "internal/bytealg.MaxLen"], plainKeys := false, apart := false, laid := [("unicode/utf8.acceptRanges", laid_unicode_utf8_acceptRanges), ("unicode/utf8.first", laid_unicode_utf8_first)] }
def ScriptRunsSaid : Prop := scriptRunsRow.holds Tryz.pinned (OpenSpec.ofChange scriptRunsSpec)

/-- ITS FALSE NEIGHBOUR: 'it returns false'. Refute it at one input. -/
def scriptRunsWrong : ChangeSpec := { name := "scriptRuns", fn := fun _ => fun
  | [d1, d2, d3] => { results := [.lit (.bool false)], args := [d1, d2, d3] }
  | _ => none }
def ScriptRunsWrongFalsely : Prop := scriptRunsRow.holds Tryz.pinned (OpenSpec.ofChange scriptRunsWrong)

/-- 'guiselaw14.ScriptLeast': WHATEVER THE INPUT: true; the input reads as it did. -/
def scriptLeastSpec : ChangeSpec := { name := "scriptLeast", fn := fun _ => fun
  | [d1, d2] => { results := [.lit (.bool true)], args := [d1, d2] }
  | _ => none }
def scriptLeastRow : OpenClaim := { program := "ytioehfhdoohdmaagreatdoor", sum := "741dc28302894d9626bee15aef6533fe84e0563e6812d877f360741ff998dd4e", func := "guise/guiselaw14.ScriptLeast", spec := "scriptLeast", inPlace := ["internal/bytealg.IndexByteString", "internal/bytealg.IndexString"], unfollowed := true, recurses := true, named := ["unicode/utf8.first", "unicode/utf8.acceptRanges", "internal/bytealg.MaxLen"], plainKeys := false, apart := false, laid := [("unicode/utf8.acceptRanges", laid_unicode_utf8_acceptRanges), ("unicode/utf8.first", laid_unicode_utf8_first)] }
def ScriptLeastSaid : Prop := scriptLeastRow.holds Tryz.pinned (OpenSpec.ofChange scriptLeastSpec)

/-- ITS FALSE NEIGHBOUR: 'it returns false'. Refute it at one input. -/
def scriptLeastWrong : ChangeSpec := { name := "scriptLeast", fn := fun _ => fun
  | [d1, d2] => { results := [.lit (.bool false)], args := [d1, d2] }
  | _ => none }
def ScriptLeastWrongFalsely : Prop := scriptLeastRow.holds Tryz.pinned (OpenSpec.ofChange scriptLeastWrong)

/-- 'guiselaw14.ScriptPieces': WHATEVER THE INPUT: true; the input reads as it did. -/
def scriptPiecesSpec : ChangeSpec := { name := "scriptPieces", fn := fun _ => fun
  | [d1, d2, d3, d4] => { results := [.lit (.bool true)], args := [d1, d2, d3, d4] }
  | _ => none }
def scriptPiecesRow : OpenClaim := { program := "ytioehfhdoohdmaagreatdoor", sum := "741dc28302894d9626bee15aef6533fe84e0563e6812d877f360741ff998dd4e", func := "guise/guiselaw14.ScriptPieces", spec := "scriptPieces", inPlace := ["internal/bytealg.IndexByteString", "internal/bytealg.IndexString"], unfollowed := true, recurses := true, named := ["unicode/utf8.first", "unicode/utf8.acceptRanges", "internal/bytealg.MaxLen"], plainKeys := false, apart := false, laid := [("unicode/utf8.acceptRanges", laid_unicode_utf8_acceptRanges), ("unicode/utf8.first", laid_unicode_utf8_first)] }
def ScriptPiecesSaid : Prop := scriptPiecesRow.holds Tryz.pinned (OpenSpec.ofChange scriptPiecesSpec)

/-- ITS FALSE NEIGHBOUR: 'it returns false'. Refute it at one input. -/
def scriptPiecesWrong : ChangeSpec := { name := "scriptPieces", fn := fun _ => fun
  | [d1, d2, d3, d4] => { results := [.lit (.bool false)], args := [d1, d2, d3, d4] }
  | _ => none }
def ScriptPiecesWrongFalsely : Prop := scriptPiecesRow.holds Tryz.pinned (OpenSpec.ofChange scriptPiecesWrong)

/-- 'guiselaw14.ScriptStops': WHATEVER THE INPUT: true; the input reads as it did. -/
def scriptStopsSpec : ChangeSpec := { name := "scriptStops", fn := fun _ => fun
  | [d1, d2, d3] => { results := [.lit (.bool true)], args := [d1, d2, d3] }
  | _ => none }
def scriptStopsRow : OpenClaim := { program := "ytioehfhdoohdmaagreatdoor", sum := "741dc28302894d9626bee15aef6533fe84e0563e6812d877f360741ff998dd4e", func := "guise/guiselaw14.ScriptStops", spec := "scriptStops", inPlace := ["internal/bytealg.IndexByteString", "internal/bytealg.IndexString"], unfollowed := true, recurses := true, named := ["unicode/utf8.first", "unicode/utf8.acceptRanges", "internal/bytealg.MaxLen"], plainKeys := false, apart := false, laid := [("unicode/utf8.acceptRanges", laid_unicode_utf8_acceptRanges), ("unicode/utf8.first", laid_unicode_utf8_first)] }
def ScriptStopsSaid : Prop := scriptStopsRow.holds Tryz.pinned (OpenSpec.ofChange scriptStopsSpec)

/-- ITS FALSE NEIGHBOUR: 'it returns false'. Refute it at one input. -/
def scriptStopsWrong : ChangeSpec := { name := "scriptStops", fn := fun _ => fun
  | [d1, d2, d3] => { results := [.lit (.bool false)], args := [d1, d2, d3] }
  | _ => none }
def ScriptStopsWrongFalsely : Prop := scriptStopsRow.holds Tryz.pinned (OpenSpec.ofChange scriptStopsWrong)

/-- 'guiselaw14.ScriptJoins': WHATEVER THE INPUT: true; the input reads as it did. -/
def scriptJoinsSpec : ChangeSpec := { name := "scriptJoins", fn := fun _ => fun
  | [d1, d2, d3] => { results := [.lit (.bool true)], args := [d1, d2, d3] }
  | _ => none }
def scriptJoinsRow : OpenClaim := { program := "ytioehfhdoohdmaagreatdoor", sum := "741dc28302894d9626bee15aef6533fe84e0563e6812d877f360741ff998dd4e", func := "guise/guiselaw14.ScriptJoins", spec := "scriptJoins", inPlace := ["internal/bytealg.IndexByteString", "internal/bytealg.IndexString"], unfollowed := true, recurses := true, named := ["unicode/utf8.first", "unicode/utf8.acceptRanges", "internal/bytealg.MaxLen"], plainKeys := false, apart := false, laid := [("unicode/utf8.acceptRanges", laid_unicode_utf8_acceptRanges), ("unicode/utf8.first", laid_unicode_utf8_first)] }
def ScriptJoinsSaid : Prop := scriptJoinsRow.holds Tryz.pinned (OpenSpec.ofChange scriptJoinsSpec)

/-- ITS FALSE NEIGHBOUR: 'it returns false'. Refute it at one input. -/
def scriptJoinsWrong : ChangeSpec := { name := "scriptJoins", fn := fun _ => fun
  | [d1, d2, d3] => { results := [.lit (.bool false)], args := [d1, d2, d3] }
  | _ => none }
def ScriptJoinsWrongFalsely : Prop := scriptJoinsRow.holds Tryz.pinned (OpenSpec.ofChange scriptJoinsWrong)

/-- 'guiselaw14.ScriptTally': WHATEVER THE INPUT: true; the input reads as it did. -/
def scriptTallySpec : ChangeSpec := { name := "scriptTally", fn := fun _ => fun
  | [d1, d2] => { results := [.lit (.bool true)], args := [d1, d2] }
  | _ => none }
def scriptTallyRow : OpenClaim := { program := "ytioehfhdoohdmaagreatdoor", sum := "741dc28302894d9626bee15aef6533fe84e0563e6812d877f360741ff998dd4e", func := "guise/guiselaw14.ScriptTally", spec := "scriptTally", inPlace := ["internal/bytealg.IndexByteString", "internal/bytealg.IndexString"], unfollowed := true, recurses := true, named := ["unicode/utf8.first", "unicode/utf8.acceptRanges", "internal/bytealg.MaxLen"], plainKeys := false, apart := false, laid := [("unicode/utf8.acceptRanges", laid_unicode_utf8_acceptRanges), ("unicode/utf8.first", laid_unicode_utf8_first)] }
def ScriptTallySaid : Prop := scriptTallyRow.holds Tryz.pinned (OpenSpec.ofChange scriptTallySpec)

/-- ITS FALSE NEIGHBOUR: 'it returns false'. Refute it at one input. -/
def scriptTallyWrong : ChangeSpec := { name := "scriptTally", fn := fun _ => fun
  | [d1, d2] => { results := [.lit (.bool false)], args := [d1, d2] }
  | _ => none }
def ScriptTallyWrongFalsely : Prop := scriptTallyRow.holds Tryz.pinned (OpenSpec.ofChange scriptTallyWrong)

/-- 'guiselaw14.ScriptNumbers': WHATEVER THE INPUT: true; the input reads as it did. -/
def scriptNumbersSpec : ChangeSpec := { name := "scriptNumbers", fn := fun _ => fun
  | [] => { results := [.lit (.bool true)], args := [] }
  | _ => none }
def scriptNumbersRow : OpenClaim := { program := "ytioehfhdoohdmaagreatdoor", sum := "741dc28302894d9626bee15aef6533fe84e0563e6812d877f360741ff998dd4e", func := "guise/guiselaw14.ScriptNumbers", spec := "scriptNumbers", inPlace := ["internal/bytealg.IndexByteString", "internal/bytealg.IndexString"], unfollowed := true, recurses := true, named := ["unicode/utf8.first", "unicode/utf8.acceptRanges", "internal/bytealg.MaxLen"], plainKeys := false, apart := false, laid := [("unicode/utf8.acceptRanges", laid_unicode_utf8_acceptRanges), ("unicode/utf8.first", laid_unicode_utf8_first)] }
def ScriptNumbersSaid : Prop := scriptNumbersRow.holds Tryz.pinned (OpenSpec.ofChange scriptNumbersSpec)

/-- ITS FALSE NEIGHBOUR: 'it returns false'. Refute it at one input. -/
def scriptNumbersWrong : ChangeSpec := { name := "scriptNumbers", fn := fun _ => fun
  | [] => { results := [.lit (.bool false)], args := [] }
  | _ => none }
def ScriptNumbersWrongFalsely : Prop := scriptNumbersRow.holds Tryz.pinned (OpenSpec.ofChange scriptNumbersWrong)

/- THE SECOND FORM. 'bulk': how many values and letters a reading holds, each counted each time it is reached (what is shared counts as often as it is met; a slice's spare places count too). A statement '..UptoSaid' is the law's where the arguments, and the package variables that the reading takes, are together of bulk at most 1048576: NARROWER than '..Said'. Prove '..Said' where nothing that the law and all that it calls make is longer than what came in: it says more and counts as full. Else prove '..UptoSaid'. A law counts once. -/
mutual
def uptoBulk {H : Type} : DataW H → Nat
  | .lit (.string bytes) => bytes.length + 1
  | .lit _ => 1
  | .nil => 1
  | .ptr d => uptoBulk d + 1
  | .slice elems spare => uptoBulkAll elems + uptoBulkAll spare + 1
  | .agg parts => uptoBulkAll parts + 1
  | .iface _ d => uptoBulk d + 1
  | .map entries => uptoBulkEntries entries + 1
  | .held _ => 1
def uptoBulkAll {H : Type} : List (DataW H) → Nat
  | [] => 0
  | d :: r => uptoBulk d + uptoBulkAll r
def uptoBulkEntries {H : Type} : List (Lit × DataW H) → Nat
  | [] => 0
  | x :: r => uptoBulkEntry x + uptoBulkEntries r
def uptoBulkEntry {H : Type} : Lit × DataW H → Nat
  | (.string bytes, d) => bytes.length + uptoBulk d + 1
  | (_, d) => uptoBulk d + 1
 end
def uptoSmall : (H : Type) → List (DataW H) → Bool := fun _ ds => decide (uptoBulkAll ds ≤ 1048576)
def OpenSpec.upto (s : _root_.Go.ChangeSpec) : _root_.Go.OpenSpec := { _root_.Go.OpenSpec.ofChange s with cond := some uptoSmall }

/-- 'guiselaw14.ScriptOf', WHERE WHAT IT READS IS OF BULK AT MOST 1048576: true; the input reads as it did. -/
def scriptOfUptoRow : OpenClaim := { program := "ytioehfhdoohdmaagreatdoor", sum := "741dc28302894d9626bee15aef6533fe84e0563e6812d877f360741ff998dd4e", func := "guise/guiselaw14.ScriptOf", spec := "scriptOf", inPlace := ["internal/bytealg.IndexByteString", "internal/bytealg.IndexString"], unfollowed := true, recurses := true, named := ["unicode/utf8.first", "unicode/utf8.acceptRanges", "internal/bytealg.MaxLen"], plainKeys := false, apart := false, laid := [("unicode/utf8.acceptRanges", laid_unicode_utf8_acceptRanges), ("unicode/utf8.first", laid_unicode_utf8_first)], narrowed := true }
def ScriptOfUptoSaid : Prop := scriptOfUptoRow.holds Tryz.pinned (OpenSpec.upto scriptOfSpec)

/-- 'guiselaw14.ScriptRuns', WHERE WHAT IT READS IS OF BULK AT MOST 1048576: true; the input reads as it did. -/
def scriptRunsUptoRow : OpenClaim := { program := "ytioehfhdoohdmaagreatdoor", sum := "741dc28302894d9626bee15aef6533fe84e0563e6812d877f360741ff998dd4e", func := "guise/guiselaw14.ScriptRuns", spec := "scriptRuns", inPlace := ["internal/bytealg.IndexByteString", "internal/bytealg.IndexString"], unfollowed := true, recurses := true, named := ["unicode/utf8.first", "unicode/utf8.acceptRanges", "internal/bytealg.MaxLen"], plainKeys := false, apart := false, laid := [("unicode/utf8.acceptRanges", laid_unicode_utf8_acceptRanges), ("unicode/utf8.first", laid_unicode_utf8_first)], narrowed := true }
def ScriptRunsUptoSaid : Prop := scriptRunsUptoRow.holds Tryz.pinned (OpenSpec.upto scriptRunsSpec)

/-- 'guiselaw14.ScriptLeast', WHERE WHAT IT READS IS OF BULK AT MOST 1048576: true; the input reads as it did. -/
def scriptLeastUptoRow : OpenClaim := { program := "ytioehfhdoohdmaagreatdoor", sum := "741dc28302894d9626bee15aef6533fe84e0563e6812d877f360741ff998dd4e", func := "guise/guiselaw14.ScriptLeast", spec := "scriptLeast", inPlace := ["internal/bytealg.IndexByteString", "internal/bytealg.IndexString"], unfollowed := true, recurses := true, named := ["unicode/utf8.first", "unicode/utf8.acceptRanges", "internal/bytealg.MaxLen"], plainKeys := false, apart := false, laid := [("unicode/utf8.acceptRanges", laid_unicode_utf8_acceptRanges), ("unicode/utf8.first", laid_unicode_utf8_first)], narrowed := true }
def ScriptLeastUptoSaid : Prop := scriptLeastUptoRow.holds Tryz.pinned (OpenSpec.upto scriptLeastSpec)

/-- 'guiselaw14.ScriptPieces', WHERE WHAT IT READS IS OF BULK AT MOST 1048576: true; the input reads as it did. -/
def scriptPiecesUptoRow : OpenClaim := { program := "ytioehfhdoohdmaagreatdoor", sum := "741dc28302894d9626bee15aef6533fe84e0563e6812d877f360741ff998dd4e", func := "guise/guiselaw14.ScriptPieces", spec := "scriptPieces", inPlace := ["internal/bytealg.IndexByteString", "internal/bytealg.IndexString"], unfollowed := true, recurses := true, named := ["unicode/utf8.first", "unicode/utf8.acceptRanges", "internal/bytealg.MaxLen"], plainKeys := false, apart := false, laid := [("unicode/utf8.acceptRanges", laid_unicode_utf8_acceptRanges), ("unicode/utf8.first", laid_unicode_utf8_first)], narrowed := true }
def ScriptPiecesUptoSaid : Prop := scriptPiecesUptoRow.holds Tryz.pinned (OpenSpec.upto scriptPiecesSpec)

/-- 'guiselaw14.ScriptStops', WHERE WHAT IT READS IS OF BULK AT MOST 1048576: true; the input reads as it did. -/
def scriptStopsUptoRow : OpenClaim := { program := "ytioehfhdoohdmaagreatdoor", sum := "741dc28302894d9626bee15aef6533fe84e0563e6812d877f360741ff998dd4e", func := "guise/guiselaw14.ScriptStops", spec := "scriptStops", inPlace := ["internal/bytealg.IndexByteString", "internal/bytealg.IndexString"], unfollowed := true, recurses := true, named := ["unicode/utf8.first", "unicode/utf8.acceptRanges", "internal/bytealg.MaxLen"], plainKeys := false, apart := false, laid := [("unicode/utf8.acceptRanges", laid_unicode_utf8_acceptRanges), ("unicode/utf8.first", laid_unicode_utf8_first)], narrowed := true }
def ScriptStopsUptoSaid : Prop := scriptStopsUptoRow.holds Tryz.pinned (OpenSpec.upto scriptStopsSpec)

/-- 'guiselaw14.ScriptJoins', WHERE WHAT IT READS IS OF BULK AT MOST 1048576: true; the input reads as it did. -/
def scriptJoinsUptoRow : OpenClaim := { program := "ytioehfhdoohdmaagreatdoor", sum := "741dc28302894d9626bee15aef6533fe84e0563e6812d877f360741ff998dd4e", func := "guise/guiselaw14.ScriptJoins", spec := "scriptJoins", inPlace := ["internal/bytealg.IndexByteString", "internal/bytealg.IndexString"], unfollowed := true, recurses := true, named := ["unicode/utf8.first", "unicode/utf8.acceptRanges", "internal/bytealg.MaxLen"], plainKeys := false, apart := false, laid := [("unicode/utf8.acceptRanges", laid_unicode_utf8_acceptRanges), ("unicode/utf8.first", laid_unicode_utf8_first)], narrowed := true }
def ScriptJoinsUptoSaid : Prop := scriptJoinsUptoRow.holds Tryz.pinned (OpenSpec.upto scriptJoinsSpec)

/-- 'guiselaw14.ScriptTally', WHERE WHAT IT READS IS OF BULK AT MOST 1048576: true; the input reads as it did. -/
def scriptTallyUptoRow : OpenClaim := { program := "ytioehfhdoohdmaagreatdoor", sum := "741dc28302894d9626bee15aef6533fe84e0563e6812d877f360741ff998dd4e", func := "guise/guiselaw14.ScriptTally", spec := "scriptTally", inPlace := ["internal/bytealg.IndexByteString", "internal/bytealg.IndexString"], unfollowed := true, recurses := true, named := ["unicode/utf8.first", "unicode/utf8.acceptRanges", "internal/bytealg.MaxLen"], plainKeys := false, apart := false, laid := [("unicode/utf8.acceptRanges", laid_unicode_utf8_acceptRanges), ("unicode/utf8.first", laid_unicode_utf8_first)], narrowed := true }
def ScriptTallyUptoSaid : Prop := scriptTallyUptoRow.holds Tryz.pinned (OpenSpec.upto scriptTallySpec)

/-- 'guiselaw14.ScriptNumbers', WHERE WHAT IT READS IS OF BULK AT MOST 1048576: true; the input reads as it did. -/
def scriptNumbersUptoRow : OpenClaim := { program := "ytioehfhdoohdmaagreatdoor", sum := "741dc28302894d9626bee15aef6533fe84e0563e6812d877f360741ff998dd4e", func := "guise/guiselaw14.ScriptNumbers", spec := "scriptNumbers", inPlace := ["internal/bytealg.IndexByteString", "internal/bytealg.IndexString"], unfollowed := true, recurses := true, named := ["unicode/utf8.first", "unicode/utf8.acceptRanges", "internal/bytealg.MaxLen"], plainKeys := false, apart := false, laid := [("unicode/utf8.acceptRanges", laid_unicode_utf8_acceptRanges), ("unicode/utf8.first", laid_unicode_utf8_first)], narrowed := true }
def ScriptNumbersUptoSaid : Prop := scriptNumbersUptoRow.holds Tryz.pinned (OpenSpec.upto scriptNumbersSpec)

end Rows
end Go.Proofs.YtioehfhdoohdmaaGreatDoor
