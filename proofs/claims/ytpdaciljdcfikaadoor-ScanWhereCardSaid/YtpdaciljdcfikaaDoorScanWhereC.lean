/- The law ScanWhere: Where of the program is the document's, at any number as a place of any text (few and Within bring them down). No condition. -/
import Derived.Test.YtpdaciljdcfikaaDoorRow
import Derived.Test.YtpdaciljdcfikaaDoorRefWhere
import Derived.Test.YtpdaciljdcfikaaDoorRefFew
namespace Go.Proofs.YtpdaciljdcfikaaDoor.scanWhere
open Go.ChangeShapes Go.WideShapes Go.ChangeAt Go.RowKit Go.Lib Go.Shelf
set_option linter.unusedVariables false
set_option linter.unusedSimpArgs false

theorem walk (x : ByteArray) (a : Int) (w : World) (hx : x.size ≤ maxLen) (ha1 : -9223372036854775808 ≤ a) (ha2 : a ≤ 9223372036854775807) (hT : Tabs w) (hZ : TzAt w) :
    Calls Tryd.prog 5 #[.string x, .int .i64 a] w fun e w' => e = .returned (.bool true) ∧ Below w.heap.size w w' := by
  have hs := fewB_size x 20000
  have hf := fun W => few_any x 20000 W hx (by omega)
  generalize fewB x 20000 = s at *
  have hk := inN_le a (lo := 0) (hi := (s.size : Int)) (by omega)
  have hin := fun W => within_any a 0 (s.size : Int) W (by omega) (by omega) (by omega) ha1 ha2
  generalize inN a 0 (s.size : Int) = k at *
  have Hf := Lib.hid hf
  have Hin := Lib.hid hin
  have HT := Lib.hid hT
  have HZ := Lib.hid hZ
  have w1 := fun W => where_any s a W (by omega) ha1 ha2
  have w2 := fun W => rwhere_any s a W (by omega) ha1 ha2
  have w3 := fun W => where_any s k W (by omega) (by omega) (by omega)
  have w4 := fun W => rwhere_any s k W (by omega) (by omega) (by omega)
  generalize clampN s a = t1 at *
  generalize clampN s k = t2 at *
  generalize lcN s t1 0 1 1 = l1 at *
  generalize lcN s t2 0 1 1 = l2 at *
  have W1 := Lib.hid w1
  have W2 := Lib.hid w2
  have W3 := Lib.hid w3
  have W4 := Lib.hid w4
  clear hf hin hT hZ w1 w2 w3 w4
  go_enter Tryd.func5, Tryd.ntmps5
  go_wp2_with fail
  refine Calls.mono (Hf.out _) ?_
  rintro e w' ⟨rfl, hw'⟩
  obtain rfl : w = w' := hw'
  go_wp2_with fail
  refine Calls.mono (Hin.out _) ?_
  rintro e w' ⟨rfl, hw'⟩
  obtain rfl : w = w' := hw'
  go_wp2_with fail
  refine Calls.mono (W1.out _) ?_
  rintro e w1 ⟨rfl, hB1⟩
  go_wp2_with fail
  refine Calls.mono (W2.out _) ?_
  rintro e w2 ⟨rfl, hB2⟩
  go_wp2_with fail
  refine Calls.mono (W3.out _) ?_
  rintro e w3 ⟨rfl, hB3⟩
  go_wp2_with fail
  refine Calls.mono (W4.out _) ?_
  rintro e w4 ⟨rfl, hB4⟩
  have c2 := hB1.trans (hB2.mono hB1.size)
  have c3 := c2.trans (hB3.mono c2.size)
  have c4 := c3.trans (hB4.mono c3.size)
  go_wp2_with fail
  refine (known_any w4 (Utf8Tabs_below HT.out c4) (HZ.out.below c4)).mono ?_
  rintro e w5 ⟨rfl, hB5⟩
  go_wp2_with fail
  go_ret
  exact ⟨rfl, c4.trans (hB5.mono c4.size)⟩

set_option maxRecDepth 100000 in
theorem contract (H : Type) (enc : TypeId × Value → H) (W : World) (base : Nat) (args : Array Value) (ds gs : List (DataW H)) (before : List MemPlace)
    (hval : ∀ (j : Nat) t v, Tryd.f5.params[j]? = some t → args[j]? = some v → Value.okWide Tryd.prog W .any base t v)
    (hW : DataW.Whole enc Tryd.prog Tryd.f5.params.toList Rows.scanWhereSpec.vars false W args.toList ds gs before) (hL : laidMetH Tryd.prog Rows.scanWhereRow.laid W) :
    Calls Tryd.prog 5 args W fun e W' => ∃ v, e = .returned v ∧ Rows.scanWhereSpec.post enc Tryd.prog Tryd.f5 false true false false W args v W' := by
  have hW' := hW
  obtain ⟨p, q, hA0, hV, rfl, hfz, hnd⟩ := hW
  have hA : DataW.TrodAll enc Tryd.prog W 0 (fun _ => true) true Tryd.f5.params.toList args.toList ds p := hA0
  rw [Tryd.params5] at hA hval
  obtain ⟨v0, v1, d0, d1, p0, p1, rfl, rfl, rfl, h0, h1⟩ := trodAll_two hA
  obtain ⟨rfl, rfl⟩ := trodVars_none hV
  rw [MakeChecks.laidMetH_plain _ _ _ (by kernel_rfl)] at hL
  obtain ⟨x0, rfl, rfl, rfl, hx0⟩ := Go.ChangeMaps.open_string Tryd.underlying9 (hval 0 9 v0 rfl rfl) h0
  obtain ⟨x1, rfl, rfl, rfl, wx1⟩ := open_int Tryd.underlying3 (hval 1 3 v1 rfl rfl) h1
  have hx1 : -9223372036854775808 ≤ x1 ∧ x1 ≤ 9223372036854775807 := by simpa [Lit.wf, IntKind.min, IntKind.max, IntKind.signed, IntKind.bits] using wx1
  simp only [List.append_nil] at hW'
  refine (walk x0 x1 W hx0 hx1.1 hx1.2 (tabs_of hL) (tz_of hL)).mono fun e W' ⟨he, hb⟩ => ?_
  subst he
  exact ⟨_, rfl, _, _, _, [], [], [], hW', trodAll_mk1 (shut_bool Tryd.underlying4 _), trodAll_mk2 (Go.ChangeMaps.shut_string Tryd.underlying9 hx0) (shut_int Tryd.underlying3 wx1), rfl, hb.frame _, fun h => by cases h⟩

set_option maxRecDepth 100000 in
theorem lifted (os : Os) (started : os.Started) (H : Type) (enc : TypeId × Value → H) :
    ReturnsInHanded {} Tryd.checked os 5 .any (fun w args => (Rows.scanWhereSpec.pre enc Tryd.prog Tryd.f5 [] false w args ∧ laidMetH Tryd.prog Rows.scanWhereRow.laid w) ∧ sizedMet enc Tryd.prog Tryd.f5 (OpenSpec.ofChange Rows.scanWhereSpec) false w args)
      (Rows.scanWhereSpec.post enc Tryd.prog Tryd.f5 false true false false) := by
  refine returnsInHanded_of_change_and (C := Tryd.checked) (X := fun w _ => laidMetH Tryd.prog Rows.scanWhereRow.laid w) (fun _ _ _ hh h => h.of_heap hh) own started (by kernel_rfl) Tryd.func5
    (ChangeSpec.witness_shaped (enc := enc) (C := Tryd.checked) (os := os) (X := fun w _ => laidMetH Tryd.prog Rows.scanWhereRow.laid w) false (World.laidAll Tryd.prog os Rows.scanWhereRow.laid) #[.string ByteArray.empty, .int .i64 0] 8 (World.laidAll_os _ _ _)
      (World.shaped_of_ZipB (by kernel_rfl) (by kernel_rfl)) (by kernel_rfl) (by kernel_rfl) (by kernel_rfl)
      (by rw [MakeChecks.laidMetH_plain _ _ _ (by kernel_rfl)]; exact laidMet_laidAll _ (by kernel_rfl) (by kernel_rfl))) ?_
  intro W base args ds gs before hval hW _ _ hL _
  exact contract H enc W base args ds gs before hval hW hL

theorem said : Rows.ScanWhereSaid :=
  OpenClaim.holds_of_wide 5 Tryd.f5 rfl rfl rfl rfl rfl rfl rfl ⟨rfl, rfl, rfl, rfl, rfl⟩ rfl rfl rfl rfl rfl (by kernel_rfl) Tryd.func5 (by kernel_rfl)
    (of_decide_eq_true (by kernel_rfl)) (by unfold Func.isWrapper; first | (rw [if_pos (by decide +kernel)]; kernel_rfl) | (rw [if_neg (by decide +kernel)]; exact ⟨rfl, rfl⟩))
    (fun os started H enc _ => lifted os started H enc)

theorem plain (f : FuncId) (fn : Func) (hf : Tryd.pinned.checked.prog.funcNamed "guise/guiselaw4.ScanWhere" = some f) (hfn : Tryd.pinned.checked.prog.funcs[f]? = some fn) :
    false = Tryd.pinned.checked.prog.looks [] ∧ ∀ (j : Nat) t, fn.params[j]? = some t → Tryd.pinned.checked.prog.wantsStandIn t = false := by
  obtain rfl : f = 5 := Option.some.inj ((show Tryd.prog.funcNamed "guise/guiselaw4.ScanWhere" = some 5 by kernel_rfl).symm.trans hf) |>.symm
  obtain rfl : fn = Tryd.f5 := (Option.some.inj (Tryd.func5.symm.trans hfn)).symm
  refine ⟨by kernel_rfl, fun j t ht => ?_⟩
  rw [Tryd.params5] at ht
  have hm : t ∈ [9, 3] := by simpa using Array.mem_of_getElem? ht
  have hall : ([9, 3].all fun u => !Tryd.prog.wantsStandIn u) = true := by kernel_rfl
  exact (show Tryd.prog.wantsStandIn t = false by simpa using List.all_eq_true.1 hall t hm)

/-- THE CARD. -/
theorem card : Rows.ScanWhereCardSaid :=
  Claim7.holds_tied_plain_at .later [] _ _ _ _ said (fun _ h => by cases h) (by kernel_rfl) (fun _ h => by cases h) scanWhere_row_tie rfl ⟨rfl, rfl⟩ (by kernel_rfl) rfl plain (by kernel_rfl)
end Go.Proofs.YtpdaciljdcfikaaDoor.scanWhere
