/- The law ScanTexts: Text and Legal of the program are the document's, at any number as a rune and any text as a name. No condition. -/
import Derived.Test.YtpdaciljdcfikaaDoorRow
import Derived.Test.YtpdaciljdcfikaaDoorRefText
import Derived.Test.YtpdaciljdcfikaaDoorLegalRef
namespace Go.Proofs.YtpdaciljdcfikaaDoor.scanTexts
open Go.ChangeShapes Go.WideShapes Go.ChangeAt Go.RowKit Go.Lib Go.Shelf
set_option linter.unusedVariables false
set_option linter.unusedSimpArgs false

theorem legal_long (s : ByteArray) (w : World) (h32 : 32 < s.size) (hs : s.size ≤ 9223372036854775807) :
    Calls Tryd.prog 20 #[.string s] w fun e w' => e = .returned (.bool (legalB s)) ∧ Below w.heap.size w w' := by
  have hne' : ¬ s.toList = [] := by
    rw [ByteArray.toList_eq]
    intro e
    have h0 : s.data.size = 0 := by rw [← Array.length_toList, e]; rfl
    have : s.size = 0 := h0
    omega
  have hne : s.toList.isEmpty = false := by rw [List.isEmpty_eq_false_iff]; exact hne'
  have hd : decide (32 < (s.size : Int)) = true := by rw [decide_eq_true_iff]; omega
  have Hl := Lib.hid (legal_false (s := s) (by omega))
  go_enter Tryd.func20, Tryd.ntmps20
  go_wp2_with fail
  go_ret
  exact ⟨ret_bool Hl.out.symm, Below.refl _ _⟩

set_option maxRecDepth 100000 in
theorem walk (r : Int) (s : ByteArray) (w : World) (hr1 : -2147483648 ≤ r) (hr2 : r ≤ 2147483647) (hs : s.size ≤ maxLen) (hT : Tabs w) (hZ : TzAt w) :
    Calls Tryd.prog 6 #[.int .i32 r, .string s] w fun e w' => e = .returned (.bool true) ∧ Below w.heap.size w w' := by
  have hs2 : s.size ≤ 9223372036854775807 := hs
  have HT := Lib.hid hT
  have HZ := Lib.hid hZ
  have W1 := Lib.hid (fun W h => text_any r W hr1 hr2 h)
  have W2 := Lib.hid (fun W => rtext_any r W hr1 hr2)
  have W3 : Hid (∀ W, Calls Tryd.prog 20 #[.string s] W fun e w' => e = .returned (.bool (legalB s)) ∧ Below W.heap.size W w') := Lib.hid (fun W => by
    by_cases h : 32 < s.size
    · exact legal_long s W h hs2
    · exact legal_any s W (by omega))
  clear hT hZ
  generalize (⟨(textL r).toArray⟩ : ByteArray) = T at *
  generalize textE r = E at *
  by_cases h32 : s.size ≤ 32
  · have W4 := Lib.hid (fun W => rlegal_any s W (by omega))
    rw [← legal_iff h32] at W4
    generalize legalB s = L at *
    have d1 : decide ((s.size : Int) ≤ 32) = true := by rw [decide_eq_true_iff]; omega
    go_enter Tryd.func6, Tryd.ntmps6
    go_wp2_with fail
    refine Calls.mono (W1.out _ HZ.out) ?_
    rintro e w1 ⟨rfl, hB1⟩
    go_wp2_with fail
    refine Calls.mono (W2.out _) ?_
    rintro e w2 ⟨rfl, hB2⟩
    have c2 := hB1.trans (hB2.mono hB1.size)
    go_wp2_with fail
    refine Calls.mono (W3.out _) ?_
    rintro e w3 ⟨rfl, hB3⟩
    have c3 := c2.trans (hB3.mono c2.size)
    go_wp2_with fail
    refine Calls.mono (W4.out _) ?_
    rintro e w4 ⟨rfl, hB4⟩
    have c4 := c3.trans (hB4.mono c3.size)
    go_wp2_with fail
    refine (known_any w4 (Utf8Tabs_below HT.out c4) (HZ.out.below c4)).mono ?_
    rintro e w5 ⟨rfl, hB5⟩
    go_wp2_with fail
    go_ret
    exact ⟨rfl, c4.trans (hB5.mono c4.size)⟩
  · have hL : legalB s = false := legal_false (fun h => h32 h.2.1)
    rw [hL] at W3
    have d1 : decide ((s.size : Int) ≤ 32) = false := by rw [decide_eq_false_iff_not]; omega
    go_enter Tryd.func6, Tryd.ntmps6
    go_wp2_with fail
    refine Calls.mono (W1.out _ HZ.out) ?_
    rintro e w1 ⟨rfl, hB1⟩
    go_wp2_with fail
    refine Calls.mono (W2.out _) ?_
    rintro e w2 ⟨rfl, hB2⟩
    have c2 := hB1.trans (hB2.mono hB1.size)
    go_wp2_with fail
    refine Calls.mono (W3.out _) ?_
    rintro e w3 ⟨rfl, hB3⟩
    have c3 := c2.trans (hB3.mono c2.size)
    go_wp2_with fail
    refine (known_any w3 (Utf8Tabs_below HT.out c3) (HZ.out.below c3)).mono ?_
    rintro e w5 ⟨rfl, hB5⟩
    go_wp2_with fail
    go_ret
    exact ⟨rfl, c3.trans (hB5.mono c3.size)⟩

set_option maxRecDepth 100000 in
theorem contract (H : Type) (enc : TypeId × Value → H) (W : World) (base : Nat) (args : Array Value) (ds gs : List (DataW H)) (before : List MemPlace)
    (hval : ∀ (j : Nat) t v, Tryd.f6.params[j]? = some t → args[j]? = some v → Value.okWide Tryd.prog W .any base t v)
    (hW : DataW.Whole enc Tryd.prog Tryd.f6.params.toList Rows.scanTextsSpec.vars false W args.toList ds gs before) (hL : laidMetH Tryd.prog Rows.scanTextsRow.laid W) :
    Calls Tryd.prog 6 args W fun e W' => ∃ v, e = .returned v ∧ Rows.scanTextsSpec.post enc Tryd.prog Tryd.f6 false true false false W args v W' := by
  have hW' := hW
  obtain ⟨p, q, hA0, hV, rfl, hfz, hnd⟩ := hW
  have hA : DataW.TrodAll enc Tryd.prog W 0 (fun _ => true) true Tryd.f6.params.toList args.toList ds p := hA0
  rw [Tryd.params6] at hA hval
  obtain ⟨v0, v1, d0, d1, p0, p1, rfl, rfl, rfl, h0, h1⟩ := trodAll_two hA
  obtain ⟨rfl, rfl⟩ := trodVars_none hV
  rw [MakeChecks.laidMetH_plain _ _ _ (by kernel_rfl)] at hL
  obtain ⟨x0, rfl, rfl, rfl, wx0⟩ := open_int Tryd.underlying21 (hval 0 21 v0 rfl rfl) h0
  have hx0 : -2147483648 ≤ x0 ∧ x0 ≤ 2147483647 := by simpa [Lit.wf, IntKind.min, IntKind.max, IntKind.signed, IntKind.bits] using wx0
  obtain ⟨x1, rfl, rfl, rfl, hx1⟩ := Go.ChangeMaps.open_string Tryd.underlying9 (hval 1 9 v1 rfl rfl) h1
  simp only [List.append_nil] at hW'
  refine (walk x0 x1 W hx0.1 hx0.2 hx1 (tabs_of hL) (tz_of hL)).mono fun e W' ⟨he, hb⟩ => ?_
  subst he
  exact ⟨_, rfl, _, _, _, [], [], [], hW', trodAll_mk1 (shut_bool Tryd.underlying4 _), trodAll_mk2 (shut_int Tryd.underlying21 wx0) (Go.ChangeMaps.shut_string Tryd.underlying9 hx1), rfl, hb.frame _, fun h => by cases h⟩

set_option maxRecDepth 100000 in
theorem lifted (os : Os) (started : os.Started) (H : Type) (enc : TypeId × Value → H) :
    ReturnsInHanded {} Tryd.checked os 6 .any (fun w args => (Rows.scanTextsSpec.pre enc Tryd.prog Tryd.f6 [] false w args ∧ laidMetH Tryd.prog Rows.scanTextsRow.laid w) ∧ sizedMet enc Tryd.prog Tryd.f6 (OpenSpec.ofChange Rows.scanTextsSpec) false w args)
      (Rows.scanTextsSpec.post enc Tryd.prog Tryd.f6 false true false false) := by
  refine returnsInHanded_of_change_and (C := Tryd.checked) (X := fun w _ => laidMetH Tryd.prog Rows.scanTextsRow.laid w) (fun _ _ _ hh h => h.of_heap hh) own started (by kernel_rfl) Tryd.func6
    (ChangeSpec.witness_shaped (enc := enc) (C := Tryd.checked) (os := os) (X := fun w _ => laidMetH Tryd.prog Rows.scanTextsRow.laid w) false (World.laidAll Tryd.prog os Rows.scanTextsRow.laid) #[.int .i32 0, .string ByteArray.empty] 8 (World.laidAll_os _ _ _)
      (World.shaped_of_ZipB (by kernel_rfl) (by kernel_rfl)) (by kernel_rfl) (by kernel_rfl) (by kernel_rfl)
      (by rw [MakeChecks.laidMetH_plain _ _ _ (by kernel_rfl)]; exact laidMet_laidAll _ (by kernel_rfl) (by kernel_rfl))) ?_
  intro W base args ds gs before hval hW _ _ hL _
  exact contract H enc W base args ds gs before hval hW hL

theorem said : Rows.ScanTextsSaid :=
  OpenClaim.holds_of_wide 6 Tryd.f6 rfl rfl rfl rfl rfl rfl rfl ⟨rfl, rfl, rfl, rfl, rfl⟩ rfl rfl rfl rfl rfl (by kernel_rfl) Tryd.func6 (by kernel_rfl)
    (of_decide_eq_true (by kernel_rfl)) (by unfold Func.isWrapper; first | (rw [if_pos (by decide +kernel)]; kernel_rfl) | (rw [if_neg (by decide +kernel)]; exact ⟨rfl, rfl⟩))
    (fun os started H enc _ => lifted os started H enc)

theorem plain (f : FuncId) (fn : Func) (hf : Tryd.pinned.checked.prog.funcNamed "guise/guiselaw4.ScanTexts" = some f) (hfn : Tryd.pinned.checked.prog.funcs[f]? = some fn) :
    false = Tryd.pinned.checked.prog.looks [] ∧ ∀ (j : Nat) t, fn.params[j]? = some t → Tryd.pinned.checked.prog.wantsStandIn t = false := by
  obtain rfl : f = 6 := Option.some.inj ((show Tryd.prog.funcNamed "guise/guiselaw4.ScanTexts" = some 6 by kernel_rfl).symm.trans hf) |>.symm
  obtain rfl : fn = Tryd.f6 := (Option.some.inj (Tryd.func6.symm.trans hfn)).symm
  refine ⟨by kernel_rfl, fun j t ht => ?_⟩
  rw [Tryd.params6] at ht
  have hm : t ∈ [21, 9] := by simpa using Array.mem_of_getElem? ht
  have hall : ([21, 9].all fun u => !Tryd.prog.wantsStandIn u) = true := by kernel_rfl
  exact (show Tryd.prog.wantsStandIn t = false by simpa using List.all_eq_true.1 hall t hm)

/-- THE CARD. -/
theorem card : Rows.ScanTextsCardSaid :=
  Claim7.holds_tied_plain_at .later [] _ _ _ _ said (fun _ h => by cases h) (by kernel_rfl) (fun _ h => by cases h) scanTexts_row_tie rfl ⟨rfl, rfl⟩ (by kernel_rfl) rfl plain (by kernel_rfl)
end Go.Proofs.YtpdaciljdcfikaaDoor.scanTexts
