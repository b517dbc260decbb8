/- What the rows' list of laid variables gives, and the world of the witness. -/
import Derived.Test.YtpdaciljdcfikaaDoorCards
import Derived.Test.YtpdaciljdcfikaaDoorTie
import Derived.Test.YtpdaciljdcfikaaDoorKnown
import Derived.WalkKit
import Derived.ProofKit
import Derived.OpenShut
import Derived.Deep.DeepHandedRow
import Derived.Lib.LaidTab
import Derived.Lib.LaidU8
import Derived.PinnedBridge
import Derived.Lay
import Derived.LaidOnce
import Derived.SevenTiedAt
namespace Go.Proofs.YtpdaciljdcfikaaDoor
open Go.ChangeShapes Go.WideShapes Go.ChangeAt Go.RowKit Go.Lib Go.Shelf
set_option linter.unusedVariables false
set_option linter.unusedSimpArgs false

theorem own : ownKnob Tryd.prog.godebug = none := by kernel_rfl
/-- The list of every row of this seat. -/
abbrev laidL : List (String × DataW Unit) := Rows.scanNumbersRow.laid
theorem u8x : U8Extra Tryd.prog Tryd.lays260_ren := ⟨by kernel_rfl, by kernel_rfl, by kernel_rfl, by kernel_rfl, by kernel_rfl, by kernel_rfl, by kernel_rfl⟩
theorem accept_eq : (Rows.laid_unicode_utf8_acceptRanges : DataW Unit) = acceptData := by kernel_rfl
theorem tabs_of {W : World} (h : laidMet Tryd.prog laidL W) : Tabs W :=
  utf8Tabs_of_reads Tryd.lays260 u8x (Pinned.utf8First_eq ▸ Lib.laidMet.reads h (n := "unicode/utf8.first") (by simp [laidL, Rows.scanNumbersRow, Rows.laid_unicode_utf8_first])) (accept_eq ▸ Lib.laidMet.reads h (n := "unicode/utf8.acceptRanges") (by simp [laidL, Rows.scanNumbersRow]))
set_option maxRecDepth 100000 in
theorem tz_of {W : World} (h : laidMet Tryd.prog laidL W) : TzAt W := by
  obtain ⟨g, t, cs, fuel, p, hg, ht, hv, hd⟩ := Lib.laidMet.reads h (n := "math/bits.deBruijn64tab") (d := Rows.laid_math_bits_deBruijn64tab) (by simp [laidL, Rows.scanNumbersRow])
  obtain rfl := Option.some.inj ((show Tryd.prog.globalNamed "math/bits.deBruijn64tab" = some 6 by kernel_rfl).symm.trans hg)
  obtain rfl := Option.some.inj ((show (Tryd.prog.globals[6]?).map (·.type) = some 154 by kernel_rfl).symm.trans ht)
  obtain ⟨xs, m, _, ex, _, hl, hel⟩ := DataW.trod_array Tryd.underlying154 hd
  have c5 : Tryd.prog.cellsOf 5 = 1 := by kernel_rfl
  have hE := hel 15 (by omega)
  rw [c5, Nat.mul_one, List.getElem?_eq_getElem (by omega)] at hE
  obtain ⟨z, e1, e2, _⟩ := DataW.trod_int Tryd.underlying5 hE
  have e3 := congrArg Prod.fst ex
  have e4 : (xs.map (·.1))[15]? = some (.lit (.int .u8 4) : DataW Unit) := by
    simp only [Rows.laid_math_bits_deBruijn64tab, DataW.agg.injEq] at e3
    rw [← e3]; rfl
  rw [List.getElem?_map, List.getElem?_eq_getElem (by omega : 15 < xs.length)] at e4
  simp only [Option.map_some, Option.some.injEq] at e4
  rw [e2] at e4
  have hz : z = 4 := by simpa using e4
  unfold TzAt
  rw [World.var?_cell hg hv 15, ← hz]
  have : cs.toList[15]? = some (.int .u8 z) := by
    have h0 : ((cs.toList.drop 15).take 1)[0]? = some (.int .u8 z) := by rw [e1]; rfl
    simpa using h0
  simpa using this
end Go.Proofs.YtpdaciljdcfikaaDoor
