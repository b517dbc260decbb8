/- The law ScanBack walked. -/
import Derived.Test.YtpdaciljdcfikaaDoorQuoteLex
import Derived.Test.YtpdaciljdcfikaaDoorKnown
import Derived.Test.YtpdaciljdcfikaaDoorTold
namespace Go.Proofs.YtpdaciljdcfikaaDoor.scanBack
open Go.RowKit Go.Shelf
set_option linter.unusedVariables false
set_option linter.unusedSimpArgs false

set_option maxRecDepth 100000 in
set_option maxHeartbeats 3000000 in
theorem walk_bad (r : Int) (w : World) (hr1 : -2147483648 ≤ r) (hr2 : r ≤ 2147483647) (hT : Tabs w) (hZ : TzAt w) (hok : okRune r = false) :
    Calls Tryd.prog 8 #[.int .i32 r] w fun e w' => e = .returned (.bool true) ∧ Below w.heap.size w w' := by
  have et : textL r = [] := by rw [textL, hok]; rfl
  have ee : textE r = 12 := by rw [textE, hok]; rfl
  have HT := Lib.hid hT
  have HZ := Lib.hid hZ
  have h1 := fun W h => text_any r W hr1 hr2 h
  rw [et, ee] at h1
  have H1 := Lib.hid h1
  have hcase : r < 0 ∨ (0 ≤ r ∧ 1114111 < r) ∨ (0 ≤ r ∧ r ≤ 1114111 ∧ 55296 ≤ r ∧ r ≤ 57343) := by simp [okRune] at hok; omega
  clear hT hZ h1 et ee hok
  rcases hcase with c | ⟨c1, c2⟩ | ⟨c1, c2, c3, c4⟩
  · have d1 : decide (r < 0) = true := by rw [decide_eq_true_iff]; omega
    go_enter Tryd.func8, Tryd.ntmps8
    go_wp2_with fail
    refine Calls.mono (H1.out _ HZ.out) ?_
    rintro e w1 ⟨rfl, hB1⟩
    go_wp2_with fail
    refine (known_any w1 (Utf8Tabs_below HT.out hB1) (HZ.out.below hB1)).mono ?_
    rintro e w2 ⟨rfl, hB2⟩
    go_wp2_with fail
    go_ret
    exact ⟨rfl, hB1.trans (hB2.mono hB1.size)⟩
  · have d1 : decide (r < 0) = false := by rw [decide_eq_false_iff_not]; omega
    have d2 : decide (1114111 < r) = true := by rw [decide_eq_true_iff]; omega
    go_enter Tryd.func8, Tryd.ntmps8
    go_wp2_with fail
    refine Calls.mono (H1.out _ HZ.out) ?_
    rintro e w1 ⟨rfl, hB1⟩
    go_wp2_with fail
    refine (known_any w1 (Utf8Tabs_below HT.out hB1) (HZ.out.below hB1)).mono ?_
    rintro e w2 ⟨rfl, hB2⟩
    go_wp2_with fail
    go_ret
    exact ⟨rfl, hB1.trans (hB2.mono hB1.size)⟩
  · have d1 : decide (r < 0) = false := by rw [decide_eq_false_iff_not]; omega
    have d2 : decide (1114111 < r) = false := by rw [decide_eq_false_iff_not]; omega
    have d3 : decide (55296 ≤ r) = true := by rw [decide_eq_true_iff]; omega
    have d4 : decide (r ≤ 57343) = true := by rw [decide_eq_true_iff]; omega
    go_enter Tryd.func8, Tryd.ntmps8
    go_wp2_with fail
    refine Calls.mono (H1.out _ HZ.out) ?_
    rintro e w1 ⟨rfl, hB1⟩
    go_wp2_with fail
    refine (known_any w1 (Utf8Tabs_below HT.out hB1) (HZ.out.below hB1)).mono ?_
    rintro e w2 ⟨rfl, hB2⟩
    go_wp2_with fail
    go_ret
    exact ⟨rfl, hB1.trans (hB2.mono hB1.size)⟩

theorem size_le {n : Nat} (h : okRune (n : Int) = true) : (⟨(textL (n : Int)).toArray⟩ : ByteArray).size ≤ 8 := by
  have hr : n ≤ 1114111 := by simp [okRune] at h; omega
  rw [size_l, textL, if_pos h]
  split
  · simp
  · rw [Int.toNat_natCast]
    by_cases h4 : n < 65536
    · rw [ref4 h4]; simp
    by_cases h5 : n < 1048576
    · rw [ref5 h5 (by omega)]; simp
    · rw [ref6 (by omega) (by omega)]; simp

/-- What Words answers where the text is one word. -/
theorem one_word {s : ByteArray} {wd : Wd} {W : World} (h : s.size ≤ 8) (hl : lexN s = ([wd], none)) (hT : Tabs W) :
    Calls Tryd.prog 22 #[.string s] W fun e w' => ∃ g cap, e = .returned (.tuple #[.slice (some ⟨g, 0, none⟩) 1 cap, .agg #[.int .i64 0, .int .i64 0, .int .i64 0], .int .i64 0]) ∧ g < w'.heap.size ∧ 1 ≤ cap ∧ (∀ k, k < 8 → w'.cell? ⟨g, k, none⟩ = (wcells s wd)[k]?) ∧ Below W.heap.size W w' := by
  obtain ⟨e1, e2, e3⟩ := good_spec (by omega) hl
  refine (words_any s W (by omega) hT).mono ?_
  rintro e w' ⟨v, rfl, hown, hlen, _, hB⟩
  rw [e3] at hown
  obtain ⟨g, cap, rfl, hg, hcap, hcell⟩ := owns_at hown (fun x => rfl) (by simp)
  rw [e1, e2]
  refine ⟨g, cap, rfl, hg, hcap, fun k hk => ?_, hB⟩
  have := hcell 0 k (by simp) hk
  rw [Nat.zero_mul, Nat.zero_add] at this
  exact this

set_option maxRecDepth 100000 in
set_option maxHeartbeats 3000000 in
theorem walk_good (n : Nat) (w : World) (hT : Tabs w) (hZ : TzAt w) (hok : okRune (n : Int) = true) :
    Calls Tryd.prog 8 #[.int .i32 n] w fun e w' => e = .returned (.bool true) ∧ Below w.heap.size w w' := by
  have hr : n ≤ 1114111 := by simp [okRune] at hok; omega
  have ee : textE n = 0 := by rw [textE, if_pos hok]
  have HT := Lib.hid hT
  have HZ := Lib.hid hZ
  have h1 := fun W h => text_any n W (by omega) (by omega) h
  rw [ee] at h1
  have hl := text_lex hok
  rw [Int.toNat_natCast] at hl
  have hz8 := size_le hok
  have hq := fun h => quote_lex hok h
  generalize (⟨(textL (n : Int)).toArray⟩ : ByteArray) = S at *
  have h2 := fun W h => one_word (W := W) hz8 hl h
  have H1 := Lib.hid h1
  have H2 := Lib.hid h2
  have HQ := Lib.hid hq
  clear hT hZ h1 h2 hq hl ee hok
  by_cases k1 : n < 32
  · have d1 : decide ((n : Int) < 32) = true := by rw [decide_eq_true_iff]; omega
    clear k1 HQ
    go_enter Tryd.func8, Tryd.ntmps8
    go_wp2_with fail
    refine Calls.mono (H1.out _ HZ.out) ?_
    rintro e w1 ⟨rfl, hB1⟩
    go_wp2_with fail
    refine Calls.mono (H2.out _ (Utf8Tabs_below HT.out hB1)) ?_
    rintro e w2 ⟨g, cap, rfl, hg, hcap, hcell, hB2⟩
    have c2 := hB1.trans (hB2.mono hB1.size)
    have r0 : w2.cell? ⟨g, 0, none⟩ = some (.int .i64 3) := hcell 0 (by omega)
    have r2 : w2.cell? ⟨g, 2, none⟩ = some (.int .i32 n) := hcell 2 (by omega)
    have r4 : w2.cell? ⟨g, 4, none⟩ = some (.int .i64 0) := hcell 4 (by omega)
    have hlc : lcN S 0 0 1 1 = (1, 1) := lcN_end S 0 0 1 1 (Nat.le_refl _)
    have r5 : w2.cell? ⟨g, 5, none⟩ = some (.int .i64 1) := (hcell 5 (by omega)).trans (by simp only [wcells, hlc]; rfl)
    have r6 : w2.cell? ⟨g, 6, none⟩ = some (.int .i64 1) := (hcell 6 (by omega)).trans (by simp only [wcells, hlc]; rfl)
    have r7 : w2.cell? ⟨g, 7, none⟩ = some (.int .i64 S.size) := hcell 7 (by omega)
    clear hcell hlc
    go_wp2_with fail
    have c3 : Below w.heap.size w (w2.alloc (.cells #[.int .i64 0, .int .i64 0, .int .i64 0] 28)) := c2.alloc c2.size _
    refine (known_any _ (Utf8Tabs_below HT.out c3) (HZ.out.below c3)).mono ?_
    rintro e w3 ⟨rfl, hB3⟩
    go_wp2_with fail
    go_ret
    exact ⟨rfl, c3.trans (hB3.mono c3.size)⟩
  have d1 : decide ((n : Int) < 32) = false := by rw [decide_eq_false_iff_not]; omega
  by_cases k2 : n = 39
  · have d2 : ((n : Int) == 39) = true := by rw [beq_iff_eq]; omega
    clear k1 k2 HQ
    go_enter Tryd.func8, Tryd.ntmps8
    go_wp2_with fail
    refine Calls.mono (H1.out _ HZ.out) ?_
    rintro e w1 ⟨rfl, hB1⟩
    go_wp2_with fail
    refine Calls.mono (H2.out _ (Utf8Tabs_below HT.out hB1)) ?_
    rintro e w2 ⟨g, cap, rfl, hg, hcap, hcell, hB2⟩
    have c2 := hB1.trans (hB2.mono hB1.size)
    have r0 : w2.cell? ⟨g, 0, none⟩ = some (.int .i64 3) := hcell 0 (by omega)
    have r2 : w2.cell? ⟨g, 2, none⟩ = some (.int .i32 n) := hcell 2 (by omega)
    have r4 : w2.cell? ⟨g, 4, none⟩ = some (.int .i64 0) := hcell 4 (by omega)
    have hlc : lcN S 0 0 1 1 = (1, 1) := lcN_end S 0 0 1 1 (Nat.le_refl _)
    have r5 : w2.cell? ⟨g, 5, none⟩ = some (.int .i64 1) := (hcell 5 (by omega)).trans (by simp only [wcells, hlc]; rfl)
    have r6 : w2.cell? ⟨g, 6, none⟩ = some (.int .i64 1) := (hcell 6 (by omega)).trans (by simp only [wcells, hlc]; rfl)
    have r7 : w2.cell? ⟨g, 7, none⟩ = some (.int .i64 S.size) := hcell 7 (by omega)
    clear hcell hlc
    go_wp2_with fail
    have c3 : Below w.heap.size w (w2.alloc (.cells #[.int .i64 0, .int .i64 0, .int .i64 0] 28)) := c2.alloc c2.size _
    refine (known_any _ (Utf8Tabs_below HT.out c3) (HZ.out.below c3)).mono ?_
    rintro e w3 ⟨rfl, hB3⟩
    go_wp2_with fail
    go_ret
    exact ⟨rfl, c3.trans (hB3.mono c3.size)⟩
  have d2 : ((n : Int) == 39) = false := by rw [beq_eq_false_iff_ne]; omega
  by_cases k3 : n = 127
  · have d3 : ((n : Int) == 127) = true := by rw [beq_iff_eq]; omega
    clear k1 k2 k3 HQ
    go_enter Tryd.func8, Tryd.ntmps8
    go_wp2_with fail
    refine Calls.mono (H1.out _ HZ.out) ?_
    rintro e w1 ⟨rfl, hB1⟩
    go_wp2_with fail
    refine Calls.mono (H2.out _ (Utf8Tabs_below HT.out hB1)) ?_
    rintro e w2 ⟨g, cap, rfl, hg, hcap, hcell, hB2⟩
    have c2 := hB1.trans (hB2.mono hB1.size)
    have r0 : w2.cell? ⟨g, 0, none⟩ = some (.int .i64 3) := hcell 0 (by omega)
    have r2 : w2.cell? ⟨g, 2, none⟩ = some (.int .i32 n) := hcell 2 (by omega)
    have r4 : w2.cell? ⟨g, 4, none⟩ = some (.int .i64 0) := hcell 4 (by omega)
    have hlc : lcN S 0 0 1 1 = (1, 1) := lcN_end S 0 0 1 1 (Nat.le_refl _)
    have r5 : w2.cell? ⟨g, 5, none⟩ = some (.int .i64 1) := (hcell 5 (by omega)).trans (by simp only [wcells, hlc]; rfl)
    have r6 : w2.cell? ⟨g, 6, none⟩ = some (.int .i64 1) := (hcell 6 (by omega)).trans (by simp only [wcells, hlc]; rfl)
    have r7 : w2.cell? ⟨g, 7, none⟩ = some (.int .i64 S.size) := hcell 7 (by omega)
    clear hcell hlc
    go_wp2_with fail
    have c3 : Below w.heap.size w (w2.alloc (.cells #[.int .i64 0, .int .i64 0, .int .i64 0] 28)) := c2.alloc c2.size _
    refine (known_any _ (Utf8Tabs_below HT.out c3) (HZ.out.below c3)).mono ?_
    rintro e w3 ⟨rfl, hB3⟩
    go_wp2_with fail
    go_ret
    exact ⟨rfl, c3.trans (hB3.mono c3.size)⟩
  have d3 : ((n : Int) == 127) = false := by rw [beq_eq_false_iff_ne]; omega
  obtain ⟨⟨z1, z4⟩, hqq⟩ := HQ.out ⟨by omega, k2, k3⟩
  obtain ⟨hqz, hql⟩ := hqq _ rfl
  clear k1 k2 k3 HQ hqq
  obtain ⟨E, hE⟩ : ∃ E, Utf8.encode (n : Int) = E := ⟨_, rfl⟩
  rw [hE] at z1 z4 hqz hql
  have HQZ := Lib.hid hqz
  have HQL := Lib.hid hql
  clear hqz hql
  obtain ⟨k, hEs⟩ : ∃ k, E.size = k := ⟨_, rfl⟩
  have hk : k = 1 ∨ k = 2 ∨ k = 3 ∨ k = 4 := by omega
  clear z1 z4
  rcases hk with rfl | rfl | rfl | rfl
  · go_enter Tryd.func8, Tryd.ntmps8
    go_wp2_with fail
    refine Calls.mono (H1.out _ HZ.out) ?_
    rintro e w1 ⟨rfl, hB1⟩
    go_wp2_with fail
    refine Calls.mono (H2.out _ (Utf8Tabs_below HT.out hB1)) ?_
    rintro e w2 ⟨g, cap, rfl, hg, hcap, hcell, hB2⟩
    have c2 := hB1.trans (hB2.mono hB1.size)
    have r0 : w2.cell? ⟨g, 0, none⟩ = some (.int .i64 3) := hcell 0 (by omega)
    have r2 : w2.cell? ⟨g, 2, none⟩ = some (.int .i32 n) := hcell 2 (by omega)
    have r4 : w2.cell? ⟨g, 4, none⟩ = some (.int .i64 0) := hcell 4 (by omega)
    have hlc : lcN S 0 0 1 1 = (1, 1) := lcN_end S 0 0 1 1 (Nat.le_refl _)
    have r5 : w2.cell? ⟨g, 5, none⟩ = some (.int .i64 1) := (hcell 5 (by omega)).trans (by simp only [wcells, hlc]; rfl)
    have r6 : w2.cell? ⟨g, 6, none⟩ = some (.int .i64 1) := (hcell 6 (by omega)).trans (by simp only [wcells, hlc]; rfl)
    have r7 : w2.cell? ⟨g, 7, none⟩ = some (.int .i64 S.size) := hcell 7 (by omega)
    clear hcell hlc
    go_wp2_with fail
    have c3 : Below w.heap.size w (w2.alloc (.cells #[.int .i64 0, .int .i64 0, .int .i64 0] 28)) := c2.alloc c2.size _
    have hQ8 : ({ data := #[39] } ++ E ++ { data := #[39] } : ByteArray).size ≤ 8 := by rw [HQZ.out]; omega
    generalize ({ data := #[39] } ++ E ++ { data := #[39] } : ByteArray) = Q at *
    generalize w2.alloc (.cells #[.int .i64 0, .int .i64 0, .int .i64 0] 28) = w3 at *
    refine (one_word hQ8 HQL.out (Utf8Tabs_below HT.out c3)).mono ?_
    rintro e w4 ⟨g', cap', rfl, hg', hcap', hcell', hB4⟩
    have c4 := c3.trans (hB4.mono c3.size)
    have s2 : w4.cell? ⟨g', 2, none⟩ = some (.int .i32 n) := hcell' 2 (by omega)
    have s7 : w4.cell? ⟨g', 7, none⟩ = some (.int .i64 Q.size) := hcell' 7 (by omega)
    clear hcell' r0 r2 r4 r5 r6 r7
    go_wp2_with fail
    refine (known_any _ (Utf8Tabs_below HT.out c4) (HZ.out.below c4)).mono ?_
    rintro e w5 ⟨rfl, hB5⟩
    go_wp2_with fail
    go_ret
    exact ⟨rfl, c4.trans (hB5.mono c4.size)⟩
  · go_enter Tryd.func8, Tryd.ntmps8
    go_wp2_with fail
    refine Calls.mono (H1.out _ HZ.out) ?_
    rintro e w1 ⟨rfl, hB1⟩
    go_wp2_with fail
    refine Calls.mono (H2.out _ (Utf8Tabs_below HT.out hB1)) ?_
    rintro e w2 ⟨g, cap, rfl, hg, hcap, hcell, hB2⟩
    have c2 := hB1.trans (hB2.mono hB1.size)
    have r0 : w2.cell? ⟨g, 0, none⟩ = some (.int .i64 3) := hcell 0 (by omega)
    have r2 : w2.cell? ⟨g, 2, none⟩ = some (.int .i32 n) := hcell 2 (by omega)
    have r4 : w2.cell? ⟨g, 4, none⟩ = some (.int .i64 0) := hcell 4 (by omega)
    have hlc : lcN S 0 0 1 1 = (1, 1) := lcN_end S 0 0 1 1 (Nat.le_refl _)
    have r5 : w2.cell? ⟨g, 5, none⟩ = some (.int .i64 1) := (hcell 5 (by omega)).trans (by simp only [wcells, hlc]; rfl)
    have r6 : w2.cell? ⟨g, 6, none⟩ = some (.int .i64 1) := (hcell 6 (by omega)).trans (by simp only [wcells, hlc]; rfl)
    have r7 : w2.cell? ⟨g, 7, none⟩ = some (.int .i64 S.size) := hcell 7 (by omega)
    clear hcell hlc
    go_wp2_with fail
    have c3 : Below w.heap.size w (w2.alloc (.cells #[.int .i64 0, .int .i64 0, .int .i64 0] 28)) := c2.alloc c2.size _
    have hQ8 : ({ data := #[39] } ++ E ++ { data := #[39] } : ByteArray).size ≤ 8 := by rw [HQZ.out]; omega
    generalize ({ data := #[39] } ++ E ++ { data := #[39] } : ByteArray) = Q at *
    generalize w2.alloc (.cells #[.int .i64 0, .int .i64 0, .int .i64 0] 28) = w3 at *
    refine (one_word hQ8 HQL.out (Utf8Tabs_below HT.out c3)).mono ?_
    rintro e w4 ⟨g', cap', rfl, hg', hcap', hcell', hB4⟩
    have c4 := c3.trans (hB4.mono c3.size)
    have s2 : w4.cell? ⟨g', 2, none⟩ = some (.int .i32 n) := hcell' 2 (by omega)
    have s7 : w4.cell? ⟨g', 7, none⟩ = some (.int .i64 Q.size) := hcell' 7 (by omega)
    clear hcell' r0 r2 r4 r5 r6 r7
    go_wp2_with fail
    refine (known_any _ (Utf8Tabs_below HT.out c4) (HZ.out.below c4)).mono ?_
    rintro e w5 ⟨rfl, hB5⟩
    go_wp2_with fail
    go_ret
    exact ⟨rfl, c4.trans (hB5.mono c4.size)⟩
  · go_enter Tryd.func8, Tryd.ntmps8
    go_wp2_with fail
    refine Calls.mono (H1.out _ HZ.out) ?_
    rintro e w1 ⟨rfl, hB1⟩
    go_wp2_with fail
    refine Calls.mono (H2.out _ (Utf8Tabs_below HT.out hB1)) ?_
    rintro e w2 ⟨g, cap, rfl, hg, hcap, hcell, hB2⟩
    have c2 := hB1.trans (hB2.mono hB1.size)
    have r0 : w2.cell? ⟨g, 0, none⟩ = some (.int .i64 3) := hcell 0 (by omega)
    have r2 : w2.cell? ⟨g, 2, none⟩ = some (.int .i32 n) := hcell 2 (by omega)
    have r4 : w2.cell? ⟨g, 4, none⟩ = some (.int .i64 0) := hcell 4 (by omega)
    have hlc : lcN S 0 0 1 1 = (1, 1) := lcN_end S 0 0 1 1 (Nat.le_refl _)
    have r5 : w2.cell? ⟨g, 5, none⟩ = some (.int .i64 1) := (hcell 5 (by omega)).trans (by simp only [wcells, hlc]; rfl)
    have r6 : w2.cell? ⟨g, 6, none⟩ = some (.int .i64 1) := (hcell 6 (by omega)).trans (by simp only [wcells, hlc]; rfl)
    have r7 : w2.cell? ⟨g, 7, none⟩ = some (.int .i64 S.size) := hcell 7 (by omega)
    clear hcell hlc
    go_wp2_with fail
    have c3 : Below w.heap.size w (w2.alloc (.cells #[.int .i64 0, .int .i64 0, .int .i64 0] 28)) := c2.alloc c2.size _
    have hQ8 : ({ data := #[39] } ++ E ++ { data := #[39] } : ByteArray).size ≤ 8 := by rw [HQZ.out]; omega
    generalize ({ data := #[39] } ++ E ++ { data := #[39] } : ByteArray) = Q at *
    generalize w2.alloc (.cells #[.int .i64 0, .int .i64 0, .int .i64 0] 28) = w3 at *
    refine (one_word hQ8 HQL.out (Utf8Tabs_below HT.out c3)).mono ?_
    rintro e w4 ⟨g', cap', rfl, hg', hcap', hcell', hB4⟩
    have c4 := c3.trans (hB4.mono c3.size)
    have s2 : w4.cell? ⟨g', 2, none⟩ = some (.int .i32 n) := hcell' 2 (by omega)
    have s7 : w4.cell? ⟨g', 7, none⟩ = some (.int .i64 Q.size) := hcell' 7 (by omega)
    clear hcell' r0 r2 r4 r5 r6 r7
    go_wp2_with fail
    refine (known_any _ (Utf8Tabs_below HT.out c4) (HZ.out.below c4)).mono ?_
    rintro e w5 ⟨rfl, hB5⟩
    go_wp2_with fail
    go_ret
    exact ⟨rfl, c4.trans (hB5.mono c4.size)⟩
  · go_enter Tryd.func8, Tryd.ntmps8
    go_wp2_with fail
    refine Calls.mono (H1.out _ HZ.out) ?_
    rintro e w1 ⟨rfl, hB1⟩
    go_wp2_with fail
    refine Calls.mono (H2.out _ (Utf8Tabs_below HT.out hB1)) ?_
    rintro e w2 ⟨g, cap, rfl, hg, hcap, hcell, hB2⟩
    have c2 := hB1.trans (hB2.mono hB1.size)
    have r0 : w2.cell? ⟨g, 0, none⟩ = some (.int .i64 3) := hcell 0 (by omega)
    have r2 : w2.cell? ⟨g, 2, none⟩ = some (.int .i32 n) := hcell 2 (by omega)
    have r4 : w2.cell? ⟨g, 4, none⟩ = some (.int .i64 0) := hcell 4 (by omega)
    have hlc : lcN S 0 0 1 1 = (1, 1) := lcN_end S 0 0 1 1 (Nat.le_refl _)
    have r5 : w2.cell? ⟨g, 5, none⟩ = some (.int .i64 1) := (hcell 5 (by omega)).trans (by simp only [wcells, hlc]; rfl)
    have r6 : w2.cell? ⟨g, 6, none⟩ = some (.int .i64 1) := (hcell 6 (by omega)).trans (by simp only [wcells, hlc]; rfl)
    have r7 : w2.cell? ⟨g, 7, none⟩ = some (.int .i64 S.size) := hcell 7 (by omega)
    clear hcell hlc
    go_wp2_with fail
    have c3 : Below w.heap.size w (w2.alloc (.cells #[.int .i64 0, .int .i64 0, .int .i64 0] 28)) := c2.alloc c2.size _
    have hQ8 : ({ data := #[39] } ++ E ++ { data := #[39] } : ByteArray).size ≤ 8 := by rw [HQZ.out]; omega
    generalize ({ data := #[39] } ++ E ++ { data := #[39] } : ByteArray) = Q at *
    generalize w2.alloc (.cells #[.int .i64 0, .int .i64 0, .int .i64 0] 28) = w3 at *
    refine (one_word hQ8 HQL.out (Utf8Tabs_below HT.out c3)).mono ?_
    rintro e w4 ⟨g', cap', rfl, hg', hcap', hcell', hB4⟩
    have c4 := c3.trans (hB4.mono c3.size)
    have s2 : w4.cell? ⟨g', 2, none⟩ = some (.int .i32 n) := hcell' 2 (by omega)
    have s7 : w4.cell? ⟨g', 7, none⟩ = some (.int .i64 Q.size) := hcell' 7 (by omega)
    clear hcell' r0 r2 r4 r5 r6 r7
    go_wp2_with fail
    refine (known_any _ (Utf8Tabs_below HT.out c4) (HZ.out.below c4)).mono ?_
    rintro e w5 ⟨rfl, hB5⟩
    go_wp2_with fail
    go_ret
    exact ⟨rfl, c4.trans (hB5.mono c4.size)⟩

theorem walk (r : Int) (w : World) (hr1 : -2147483648 ≤ r) (hr2 : r ≤ 2147483647) (hT : Tabs w) (hZ : TzAt w) :
    Calls Tryd.prog 8 #[.int .i32 r] w fun e w' => e = .returned (.bool true) ∧ Below w.heap.size w w' := by
  cases hok : okRune r with
  | false => exact walk_bad r w hr1 hr2 hT hZ hok
  | true =>
    have hr : 0 ≤ r := by simp [okRune] at hok; omega
    obtain ⟨n, rfl⟩ : ∃ n : Nat, r = n := ⟨r.toNat, by omega⟩
    exact walk_good n w hT hZ hok
end Go.Proofs.YtpdaciljdcfikaaDoor.scanBack
