/- The law ScanJoins walked, whatever the texts are. -/
import Derived.Test.YtpdaciljdcfikaaDoorJoinsW
namespace Go.Proofs.YtpdaciljdcfikaaDoor.scanJoins
open Go.RowKit Go.Shelf
set_option linter.unusedVariables false
set_option linter.unusedSimpArgs false

set_option maxRecDepth 100000 in
set_option maxHeartbeats 4000000 in
theorem walk_bad (x y : ByteArray) (fo : Option Addr) (fn fc : Nat) (w : World) (hx : x.size ≤ maxLen) (hy : y.size ≤ maxLen) (hbad : ¬ errN (fewB x 1000) = 0 ∨ ¬ errN (fewB y 1000) = 0) (hT : Tabs w) (hZ : TzAt w) :
    Calls Tryd.prog 9 #[.string x, .string y, .slice fo fn fc] w fun e w' => e = .returned (.bool true) ∧ Below w.heap.size w w' := by
  have hs := fewB_size x 1000
  have ht := fewB_size y 1000
  have hfx := fun W => few_any x 1000 W hx (by omega)
  have hfy := fun W => few_any y 1000 W hy (by omega)
  generalize fewB x 1000 = a at *
  generalize fewB y 1000 = b at *
  have hw1 := fun W h => words_any a W (by omega) h
  have hw2 := fun W h => words_any b W (by omega) h
  unfold WPost at hw1 hw2
  generalize errN a = ea at *
  generalize errN b = eb at *
  generalize atN a = ta at *
  generalize atN b = tb at *
  have HX := Lib.hid hfx
  have HY := Lib.hid hfy
  have HT := Lib.hid hT
  have HZ := Lib.hid hZ
  have HW1 := Lib.hid hw1
  have HW2 := Lib.hid hw2
  clear hfx hfy hT hZ hw1 hw2
  by_cases ha : ea = 0
  · have hb : ¬ eb = 0 := by omega
    subst ha
    have d2 : ((eb : Int) != 0) = true := by rw [bne_iff_ne]; omega
    clear hbad hb
    go_enter Tryd.func9, Tryd.ntmps9
    go_wp2_with fail
    refine Calls.mono (HX.out _) ?_
    rintro e w' ⟨rfl, rfl⟩
    go_wp2_with fail
    refine Calls.mono (HY.out _) ?_
    rintro e w' ⟨rfl, rfl⟩
    go_wp2_with fail
    refine Calls.mono (HW1.out _ HT.out) ?_
    rintro e w1 ⟨v1, rfl, _, _, _, hB1⟩
    have hB1a := hB1.alloc hB1.size (.cells #[.int .i64 ta.1, .int .i64 ta.2.1, .int .i64 ta.2.2] 28)
    go_wp2_with fail
    generalize w1.alloc (.cells #[.int .i64 ta.1, .int .i64 ta.2.1, .int .i64 ta.2.2] 28) = W1 at *
    refine Calls.mono (HW2.out _ (Utf8Tabs_below HT.out hB1a)) ?_
    rintro e w2 ⟨v2, rfl, _, _, _, hB2⟩
    have hB2w := hB1a.trans (hB2.mono hB1a.size)
    have hB2a := hB2w.alloc hB2w.size (.cells #[.int .i64 tb.1, .int .i64 tb.2.1, .int .i64 tb.2.2] 28)
    go_wp2_with fail
    refine (known_any _ (Utf8Tabs_below HT.out hB2a) (HZ.out.below hB2a)).mono ?_
    rintro e w5 ⟨rfl, hB5⟩
    go_wp2_with fail
    go_ret
    exact ⟨rfl, hB2a.trans (hB5.mono hB2a.size)⟩
  · have d1 : ((ea : Int) != 0) = true := by rw [bne_iff_ne]; omega
    clear hbad ha
    go_enter Tryd.func9, Tryd.ntmps9
    go_wp2_with fail
    refine Calls.mono (HX.out _) ?_
    rintro e w' ⟨rfl, rfl⟩
    go_wp2_with fail
    refine Calls.mono (HY.out _) ?_
    rintro e w' ⟨rfl, rfl⟩
    go_wp2_with fail
    refine Calls.mono (HW1.out _ HT.out) ?_
    rintro e w1 ⟨v1, rfl, _, _, _, hB1⟩
    have hB1a := hB1.alloc hB1.size (.cells #[.int .i64 ta.1, .int .i64 ta.2.1, .int .i64 ta.2.2] 28)
    go_wp2_with fail
    generalize w1.alloc (.cells #[.int .i64 ta.1, .int .i64 ta.2.1, .int .i64 ta.2.2] 28) = W1 at *
    refine Calls.mono (HW2.out _ (Utf8Tabs_below HT.out hB1a)) ?_
    rintro e w2 ⟨v2, rfl, _, _, _, hB2⟩
    have hB2w := hB1a.trans (hB2.mono hB1a.size)
    have hB2a := hB2w.alloc hB2w.size (.cells #[.int .i64 tb.1, .int .i64 tb.2.1, .int .i64 tb.2.2] 28)
    go_wp2_with fail
    refine (known_any _ (Utf8Tabs_below HT.out hB2a) (HZ.out.below hB2a)).mono ?_
    rintro e w5 ⟨rfl, hB5⟩
    go_wp2_with fail
    go_ret
    exact ⟨rfl, hB2a.trans (hB5.mono hB2a.size)⟩
theorem walk (x y : ByteArray) (fo : Option Addr) (fn fc : Nat) (w : World) (hx : x.size ≤ maxLen) (hy : y.size ≤ maxLen) (hf : FillAt w fo fn) (hfn : fn ≤ maxLen) (hT : Tabs w) (hZ : TzAt w) :
    Calls Tryd.prog 9 #[.string x, .string y, .slice fo fn fc] w fun e w' => e = .returned (.bool true) ∧ Below w.heap.size w w' := by
  have hs := fewB_size x 1000
  have ht := fewB_size y 1000
  cases ha : lexN (fewB x 1000) with
  | mk la oa =>
    cases oa with
    | some q =>
      refine walk_bad x y fo fn fc w hx hy (Or.inl ?_) hT hZ
      rw [(bad_spec (by omega) ha).1]; split <;> omega
    | none =>
      cases hb : lexN (fewB y 1000) with
      | mk lb ob =>
        cases ob with
        | some q =>
          refine walk_bad x y fo fn fc w hx hy (Or.inr ?_) hT hZ
          rw [(bad_spec (by omega) hb).1]; split <;> omega
        | none => exact walk_good x y fo fn fc w hx hy la lb ha hb hf hfn hT hZ
end Go.Proofs.YtpdaciljdcfikaaDoor.scanJoins
