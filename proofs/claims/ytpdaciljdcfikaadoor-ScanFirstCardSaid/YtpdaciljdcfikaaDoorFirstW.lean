/- The law ScanFirst walked. -/
import Derived.Test.YtpdaciljdcfikaaDoorFirstLaw
import Derived.Test.YtpdaciljdcfikaaDoorKnown
import Derived.Test.YtpdaciljdcfikaaDoorRefFew
namespace Go.Proofs.YtpdaciljdcfikaaDoor.scanFirst
open Go.RowKit Go.Shelf
set_option linter.unusedVariables false
set_option linter.unusedSimpArgs false

set_option maxRecDepth 100000 in
set_option maxHeartbeats 3000000 in
theorem walk0 (hF : ∀ s : ByteArray, s.size ≤ 2000 → First s) (x y : ByteArray) (w : World) (hx : x.size ≤ maxLen) (hy : y.size ≤ maxLen) (hT : Tabs w) (hZ : TzAt w) :
    Calls Tryd.prog 7 #[.string x, .string y] w fun e w' => e = .returned (.bool true) ∧ Below w.heap.size w w' := by
  have hs := fewB_size x 2000
  have ht := fewB_size y 2000
  have hfx := fun W => few_any x 2000 W hx (by omega)
  have hfy := fun W => few_any y 2000 W hy (by omega)
  generalize fewB x 2000 = s at *
  generalize fewB y 2000 = t at *
  have HX := Lib.hid hfx
  have HY := Lib.hid hfy
  have HT := Lib.hid hT
  have HZ := Lib.hid hZ
  have hF1 := hF s hs
  have hws := fun W h => words_any s W (by omega) h
  unfold WPost at hws
  clear hfx hfy hT hZ hF
  cases hl : lexN s with
  | mk l o =>
    cases o with
    | none =>
      obtain ⟨e1, e2, e3⟩ := good_spec (by omega) hl
      rw [e1, e2] at hws
      have HW := Lib.hid hws
      clear hws hF1 e1 e2 e3 hl
      go_enter Tryd.func7, Tryd.ntmps7
      go_wp2_with fail
      refine Calls.mono (HX.out _) ?_
      rintro e w' ⟨rfl, rfl⟩
      go_wp2_with fail
      refine Calls.mono (HY.out _) ?_
      rintro e w' ⟨rfl, rfl⟩
      go_wp2_with fail
      refine Calls.mono (HW.out _ HT.out) ?_
      rintro e w2 ⟨v, rfl, _, _, _, hB2⟩
      have c3 := hB2.alloc hB2.size (.cells #[.int .i64 0, .int .i64 0, .int .i64 0] 28)
      go_wp2_with fail
      refine (known_any _ (Utf8Tabs_below HT.out c3) (HZ.out.below c3)).mono ?_
      rintro e w3 ⟨rfl, hB3⟩
      go_wp2_with fail
      go_ret
      exact ⟨rfl, c3.trans (hB3.mono c3.size)⟩
    | some q =>
      obtain ⟨e1, e2, e3⟩ := bad_spec (by omega) hl
      have hq := lexN_le hl
      obtain ⟨hA, hBq⟩ := hF1 l q hl
      generalize lcN s q 0 1 1 = lc at *
      by_cases hqs : q = s.size
      · rw [if_pos hqs] at e1
        have hg := hA hqs
        rw [e1, e2] at hws
        have hgo := fun W h => goes_any s W (by omega) h
        rw [hg] at hgo
        have HW := Lib.hid hws
        have HG := Lib.hid hgo
        have d1 : ((q : Int) == (s.size : Int)) = true := by rw [beq_iff_eq, hqs]
        clear hws hgo hg hA hBq e1 e2 e3 hl hF1 hqs
        go_enter Tryd.func7, Tryd.ntmps7
        go_wp2_with fail
        refine Calls.mono (HX.out _) ?_
        rintro e w' ⟨rfl, rfl⟩
        go_wp2_with fail
        refine Calls.mono (HY.out _) ?_
        rintro e w' ⟨rfl, rfl⟩
        go_wp2_with fail
        refine Calls.mono (HW.out _ HT.out) ?_
        rintro e w2 ⟨v, rfl, _, _, _, hB2⟩
        have c3 := hB2.alloc hB2.size (.cells #[.int .i64 q, .int .i64 lc.1, .int .i64 lc.2] 28)
        go_wp2_with fail
        refine Calls.mono (HG.out _ (Utf8Tabs_below HT.out c3)) ?_
        rintro e w4 ⟨rfl, hB4⟩
        have c4 := c3.trans (hB4.mono c3.size)
        go_wp2_with fail
        refine (known_any _ (Utf8Tabs_below HT.out c4) (HZ.out.below c4)).mono ?_
        rintro e w3 ⟨rfl, hB3⟩
        go_wp2_with fail
        go_ret
        exact ⟨rfl, c4.trans (hB3.mono c4.size)⟩
      · rw [if_neg hqs] at e1
        have hlt : q < s.size := by omega
        obtain ⟨g1, g2, hB3⟩ := hBq hlt
        obtain ⟨e4, e5⟩ := hB3 t ht
        rw [e1, e2] at hws
        have hg1 := fun W h => goes_any (s.extract 0 q) W (by simp; omega) h
        have hg2 := fun W h => goes_any (s.extract 0 (q + 1)) W (by simp; omega) h
        rw [g1] at hg1
        rw [g2] at hg2
        have hw2 := fun W h => words_any (s.extract 0 (q + 1) ++ t) W (by rw [ByteArray.size_append]; simp; omega) h
        unfold WPost at hw2
        rw [e4, e5] at hw2
        have HW := Lib.hid hws
        have HW2 := Lib.hid hw2
        have HG1 := Lib.hid hg1
        have HG2 := Lib.hid hg2
        have d1 : decide ((q : Int) < 0) = false := by rw [decide_eq_false_iff_not]; omega
        have d2 : decide ((s.size : Int) ≤ (q : Int)) = false := by rw [decide_eq_false_iff_not]; omega
        have hez : (s.extract 0 (q + 1)).size = q + 1 := by simp; omega
        clear hws hw2 hg1 hg2 g1 g2 hB3 hA hBq e1 e2 e3 e4 e5 hl hF1 hqs
        go_enter Tryd.func7, Tryd.ntmps7
        go_wp2_with fail
        refine Calls.mono (HX.out _) ?_
        rintro e w' ⟨rfl, rfl⟩
        go_wp2_with fail
        refine Calls.mono (HY.out _) ?_
        rintro e w' ⟨rfl, rfl⟩
        go_wp2_with fail
        refine Calls.mono (HW.out _ HT.out) ?_
        rintro e w2 ⟨v, rfl, _, _, _, hB2⟩
        have bA := Blk.new' w2 #[.int .i64 q, .int .i64 lc.1, .int .i64 lc.2] 28
        have c3 := hB2.alloc hB2.size (.cells #[.int .i64 q, .int .i64 lc.1, .int .i64 lc.2] 28)
        go_wp2_with fail
        refine Calls.mono (HG1.out _ (Utf8Tabs_below HT.out c3)) ?_
        rintro e w4 ⟨rfl, hB4⟩
        have c4 := c3.trans (hB4.mono c3.size)
        go_wp2_with fail
        refine Calls.mono (HG2.out _ (Utf8Tabs_below HT.out c4)) ?_
        rintro e w5 ⟨rfl, hB5⟩
        have c5 := c4.trans (hB5.mono c4.size)
        go_wp2_with fail
        refine Calls.mono (HW2.out _ (Utf8Tabs_below HT.out c5)) ?_
        rintro e w6 ⟨v6, rfl, _, _, _, hB6⟩
        have c6 := c5.trans (hB6.mono c5.size)
        have c7 := fun l c => c6.alloc c6.size (.cells #[.int .i64 q, .int .i64 l, .int .i64 c] 28)
        generalize (atN (s.extract 0 (q + 1) ++ t)).2.1 = l7 at *
        generalize (atN (s.extract 0 (q + 1) ++ t)).2.2 = c7' at *
        have c8 := c7 l7 c7'
        go_wp2_with fail
        refine (known_any _ (Utf8Tabs_below HT.out c8) (HZ.out.below c8)).mono ?_
        rintro e w3 ⟨rfl, hB3⟩
        go_wp2_with fail
        go_ret
        exact ⟨rfl, c8.trans (hB3.mono c8.size)⟩
theorem walk (x y : ByteArray) (w : World) (hx : x.size ≤ maxLen) (hy : y.size ≤ maxLen) (hT : Tabs w) (hZ : TzAt w) :
    Calls Tryd.prog 7 #[.string x, .string y] w fun e w' => e = .returned (.bool true) ∧ Below w.heap.size w w' := walk0 first_all x y w hx hy hT hZ
end Go.Proofs.YtpdaciljdcfikaaDoor.scanFirst
