/- The law ScriptStops, walked. Printed by gen_stops14.py. -/
import Derived.Test.YtioehfhdoohdmaaGreatDoorKnownA
import Derived.Test.YtioehfhdoohdmaaGreatDoorSpotA
import Derived.Test.YtioehfhdoohdmaaGreatDoorKindsA
namespace Go.Proofs.YtioehfhdoohdmaaGreatDoor.scriptStops
open Go.RowKit Go.Shelf BigFrame
set_option linter.unusedVariables false
set_option linter.unusedSimpArgs false
set_option maxRecDepth 100000 in
set_option maxHeartbeats 40000000 in
theorem walk (T : Tab) (a : TAddr) (s : ByteArray) (n : Int) (W : World) (h : TabAt W T a) (hz : Lib.Utf8Tabs 0 1 W) (hr : TabRoom T) (hs : s.size ≤ 1048576) : Calls Tryz.prog 7 #[.agg (tabCells T a), .string s, .int .i64 n] W fun e w' => e = .returned (.bool true) ∧ Below W.heap.size W w' := by
  obtain ⟨hT, HTb, hB, hz0⟩ := box1 h
  obtain ⟨TT, hTT⟩ : ∃ TT : Tab, T = TT := ⟨_, rfl⟩
  have HPo : Hid (∀ (W1 : World), Below W.heap.size W W1 → Calls Tryz.prog 11 #[.agg (tabCells T a)] W1 (OfPost W1 TT)) := Lib.hid (fun W1 h1 => by rw [← hTT]; exact keepOf_any T a W1 (h.below h1) (tabs_below hz h1) hr)
  have HKn : Hid (∀ (W1 : World), Below W.heap.size W W1 → Calls Tryz.prog 12 #[] W1 (fun e w' => e = .returned (.bool true) ∧ Below W1.heap.size W1 w')) := Lib.hid (fun W1 h1 => known_any W1 (tabs_below hz h1))
  have HFit : Hid (upB TT = true → TabFit TT) := Lib.hid (fun hu => by rw [← hTT] at hu ⊢; exact hr.fit (by cases hl : largeB T with | false => rfl | true => simp [upB, hl] at hu))
  have HZ := Lib.hid hz
  obtain ⟨l0, l1, l2, l3, l4, l5, l6, l7⟩ := T
  obtain ⟨o0, o1, o2, o3, o4, o5, o6, o7, c0, c1, c2, c3, c4, c5, c6, c7⟩ := a
  simp only [tabCells] at hT HTb hB hz0 HPo ⊢
  obtain ⟨W0, hW0⟩ : ∃ W0, (W.alloc (.cells #[.slice o0 l0.length c0, .slice o1 l1.length c1, .slice o2 l2.length c2, .slice o3 l3.length c3, .slice o4 l4.length c4, .slice o5 l5.length c5, .slice o6 l6.length c6, .slice o7 l7.length c7] 28)) = W0 := ⟨_, rfl⟩
  rw [hW0] at hT HTb hB hz0
  have HW0 := Lib.hid hW0
  have HB := Lib.hid hB
  have t0 := HTb 0 (.slice o0 l0.length c0) rfl
  have t1 := HTb 1 (.slice o1 l1.length c1) rfl
  have t2 := HTb 2 (.slice o2 l2.length c2) rfl
  have t3 := HTb 3 (.slice o3 l3.length c3) rfl
  have t4 := HTb 4 (.slice o4 l4.length c4) rfl
  have t5 := HTb 5 (.slice o5 l5.length c5) rfl
  have t6 := HTb 6 (.slice o6 l6.length c6) rfl
  have t7 := HTb 7 (.slice o7 l7.length c7) rfl
  clear hT HTb hB hz0 h hW0 hz hr hTT
  go_enter Tryz.func7, Tryz.ntmps7
  go_wp2_with fail
  rw [HW0.out]
  clear HW0
  (with_reducible refine Calls.mono (HPo.out _ HB.out) ?_)
  rintro e w2 ⟨hB2, hrest⟩
  clear HPo t0 t1 t2 t3 t4 t5 t6 t7
  have HB2 := Lib.hid (HB.out.trans (hB2.mono HB.out.size))
  clear hB2
  rcases hrest with ⟨hu, rfl⟩ | ⟨hu, bb, B, rfl, hbk, _⟩
  · clear hu HFit
    go_wp2_with fail
    (with_reducible refine Calls.mono (HKn.out _ HB2.out) ?_)
    rintro e w3 ⟨rfl, hB3⟩
    have HB3 := Lib.hid (HB2.out.trans (hB3.mono HB2.out.size))
    clear hB3 HKn
    go_wp2_with fail
    go_ret
    exact ⟨rfl, HB3.out⟩
  have HFt := Lib.hid (HFit.out hu)
  have HBk : Hid (∀ W1, Below w2.heap.size w2 W1 → BookAt W1 bb B TT) := Lib.hid (fun W1 h1 => hbk.below h1)
  have HBW : Hid (∀ W1, Below w2.heap.size w2 W1 → Below W.heap.size W W1) := Lib.hid (fun W1 h1 => HB2.out.trans (h1.mono HB2.out.size))
  clear hu hbk HFit HB
  have HTb : Hid (∀ W1, Below w2.heap.size w2 W1 → Lib.Utf8Tabs 0 1 W1) := Lib.hid (fun W1 h1 => tabs_below HZ.out (HBW.out _ h1))
  have HKn2 : Hid (∀ (W1 : World), Below w2.heap.size w2 W1 → Calls Tryz.prog 12 #[] W1 (fun e w' => e = .returned (.bool true) ∧ Below w2.heap.size w2 w')) := Lib.hid (fun W1 h1 => (HKn.out W1 (HBW.out _ h1)).mono fun e w' hh => ⟨hh.1, h1.trans (hh.2.mono h1.size)⟩)
  have HStop : Hid (∀ (x : ByteArray) (W1 : World), x.size ≤ 1048576 → Below w2.heap.size w2 W1 → Calls Tryz.prog 19 #[.pointer (some ⟨bb, 0, none⟩), .string x] W1 (fun e w' => e = .returned (stopV (stopN TT x)) ∧ Below w2.heap.size w2 w')) := Lib.hid (fun x W1 hx h1 => (sstop_any TT bb B x W1 (HBk.out _ h1) HFt.out hx).mono fun e w' hh => ⟨hh.1, h1.trans (hh.2.mono h1.size)⟩)
  have HSof : Hid (∀ (x : ByteArray) (W1 : World), x.size ≤ 1048576 → Below w2.heap.size w2 W1 → Calls Tryz.prog 15 #[.pointer (some ⟨bb, 0, none⟩), .string x] W1 (fun e w' => ∃ (g c : Nat), e = .returned (.slice (some ⟨g, 0, none⟩) (foldO TT x (places x)).length c) ∧ w'.ownsRow W1.heap.size 3 1 (.slice (some ⟨g, 0, none⟩) (foldO TT x (places x)).length c) (foldO TT x (places x)).length (iV (foldO TT x (places x))) ∧ Below w2.heap.size w2 w' ∧ Below W1.heap.size W1 w')) := Lib.hid (fun x W1 hx h1 => (sof_any TT bb B x W1 (HBk.out _ h1) HFt.out hx).mono fun e w' hh => by obtain ⟨g, c, he, ho, hb⟩ := hh; exact ⟨g, c, he, ho, h1.trans (hb.mono h1.size), hb⟩)
  have HLn : Hid (∀ x : ByteArray, (foldO TT x (places x)).length ≤ 1048576) := Lib.hid (fun x => Nat.le_trans (foldO_len TT x _) HFt.out.l0)
  have HBk0 := HBk
  clear HKn HBk
  have HCan : Hid (∀ (W1 : World), Below w2.heap.size w2 W1 → Calls Tryz.prog 21 #[.pointer (some ⟨bb, 0, none⟩), .string s, .int .i64 n] W1 (fun e w' => e = .returned (.bool ((foldO TT s (places s)).contains n)) ∧ Below w2.heap.size w2 w' ∧ Below W1.heap.size W1 w')) := Lib.hid (fun W1 h1 => (scan14_any TT bb B s n W1 (HBk0.out _ h1) HFt.out hs).mono fun e w' hh => ⟨hh.1, h1.trans (hh.2.mono h1.size), hh.2⟩)
  have HSt2 : Hid (∀ (x : ByteArray) (W1 : World), x.size ≤ 1048576 → Below w2.heap.size w2 W1 → Calls Tryz.prog 19 #[.pointer (some ⟨bb, 0, none⟩), .string x] W1 (fun e w' => e = .returned (stopV (stopN TT x)) ∧ Below w2.heap.size w2 w' ∧ Below W1.heap.size W1 w')) := Lib.hid (fun x W1 hx h1 => (sstop_any TT bb B x W1 (HBk0.out _ h1) HFt.out hx).mono fun e w' hh => ⟨hh.1, h1.trans (hh.2.mono h1.size), hh.2⟩)
  have HNm : Hid (∀ (W1 : World), Below w2.heap.size w2 W1 → Calls Tryz.prog 34 #[.pointer (some ⟨bb, 0, none⟩)] W1 (NamesPost W1 TT.scripts)) := Lib.hid (fun W1 h1 => bnames_any TT bb B W1 (HBk0.out _ h1) HFt.out)
  have Q1 := Lib.hid (HSof.out s w2 hs (Below.refl _ _))
  have HL1 := Lib.hid (HLn.out s)
  have HNo := Lib.hid (stops_none TT s)
  have HSo : Hid (∀ p m, stopN TT s = some (p, m) → p < s.size ∧ (places (s.extract 0 p)).length = m ∧ foldO TT s (places s) = [] ∧ stopN TT (s.extract 0 p) = none ∧ p + (Utf8.decode s p).2 ≤ s.size ∧ stopN TT (s.extract 0 (p + (Utf8.decode s p).2)) = some (p, m)) := Lib.hid (fun p m h => stops_some TT s h)
  obtain ⟨sv, hsv⟩ : ∃ v, stopN TT s = v := ⟨_, rfl⟩
  have K1 := Lib.hid (fun W1 h1 => HStop.out s W1 hs h1)
  rw [hsv] at HNo HSo K1
  generalize foldO TT s (places s) = L1 at *
  have HWi : Hid (inAll [n] L1 = L1.contains n) := Lib.hid (inAll_one n L1)
  obtain ⟨q, hq⟩ : ∃ q, L1.contains n = q := ⟨_, rfl⟩
  rw [hq] at HCan HWi
  clear HSof HLn hsv hq HBk0
  go_wp2_with fail
  (with_reducible refine Calls.mono Q1.out ?_)
  rintro e w3 ⟨g1, d1, rfl, ho1, hB3, _⟩
  have HR3 := Lib.hid (own_rd' ho1)
  have HB3 := Lib.hid hB3
  clear ho1 hB3 Q1
  have C1 := Lib.hid (HCan.out w3 HB3.out)
  clear HCan
  go_wp2_with fail
  (with_reducible refine Calls.mono C1.out ?_)
  rintro e w4 ⟨rfl, hB4, hB4b⟩
  have HR4 := Lib.hid (HR3.out.below hB4b)
  have HB4 := Lib.hid hB4
  clear hB4 hB4b HR3 HB3 C1
  go_wp2_with fail
  have hal : Below w4.heap.size w4 (w4.alloc (.cells #[.int .i64 n] 3)) := (Below.refl _ _).alloc (Nat.le_refl _) _
  have hr2 : Rd (w4.alloc (.cells #[.int .i64 n] 3)) (some ⟨w4.heap.size, 0, none⟩) (iV [n]) := (Blk.new' w4 #[.int .i64 n] 3).rd
  have hwt := within14_any (some ⟨w4.heap.size, 0, none⟩) (some ⟨g1, 0, none⟩) 1 d1 [n] L1 _ hr2 (HR4.out.below hal) (by simp) HL1.out
  rw [HWi.out] at hwt
  have HWt := Lib.hid hwt
  have HB5 := Lib.hid (HB4.out.trans (hal.mono HB4.out.size))
  generalize w4.alloc (.cells #[.int .i64 n] 3) = w5 at *
  clear hal hr2 hwt HR4 HB4 HWi
  (with_reducible refine Calls.mono HWt.out ?_)
  rintro e w' ⟨rfl, k, rfl⟩
  have HB6 := Lib.hid (HB5.out.trans ((drewN_below w5 k).mono HB5.out.size))
  clear HWt HB5
  generalize w5.drewN k = w6 at *
  have hqq : (q != q) = false := by cases q <;> rfl
  have K6 := Lib.hid (K1.out w6 HB6.out)
  cases sv with
  | none =>
    simp only [stopV, Option.getD_none, Option.isSome_none] at K6
    have HNo2 := Lib.hid (HNo.out rfl)
    clear HNo HSo K1 HStop HSt2
    go_wp2_with fail
    (with_reducible refine Calls.mono K6.out ?_)
    rintro e w7 ⟨rfl, hB⟩
    have HB7 := Lib.hid hB
    clear hB K6
    have HB8 : Hid (Below w2.heap.size w2 (w7.alloc (.cells #[.int .i64 0, .int .i64 0] 46))) := Lib.hid (HB7.out.alloc HB7.out.size _)
    by_cases hpos : 0 < L1.length
    · have d : decide ((0 : Int) < (L1.length : Int)) = true := by rw [decide_eq_true_iff]; omega
      have d2 : (0 : Int) < (L1.length : Int) := by omega
      clear HNo2
      go_wp2_with fail
      (with_reducible refine Calls.mono (HKn2.out _ HB8.out) ?_)
      rintro e w12 ⟨rfl, hB12⟩
      have HB12 := Lib.hid (HBW.out _ hB12)
      clear hB12
      go_wp2_with fail
      go_ret
      exact ⟨rfl, HB12.out⟩
    · have hl0 : L1.length = 0 := by omega
      have hsc : TT.scripts.length = 0 := by rcases HNo2.out with h | h; exact absurd h hpos; exact h
      have d : decide ((0 : Int) < (L1.length : Int)) = false := by rw [decide_eq_false_iff_not]; omega
      have hnm := HNm.out _ HB8.out
      unfold NamesPost at hnm
      rw [hsc] at hnm
      have HNm2 := Lib.hid hnm
      clear hnm HNm hpos HNo2
      rw [hl0] at d ⊢
      go_wp2_with fail
      (with_reducible refine Calls.mono HNm2.out ?_)
      rintro e w9 ⟨o9, rfl, _, hB9⟩
      have HB9 := Lib.hid (HB8.out.trans (hB9.mono HB8.out.size))
      clear hB9 HNm2
      go_wp2_with fail
      (with_reducible refine Calls.mono (HKn2.out w9 HB9.out) ?_)
      rintro e w12 ⟨rfl, hB12⟩
      have HB12 := Lib.hid (HBW.out _ hB12)
      clear hB12
      go_wp2_with fail
      go_ret
      exact ⟨rfl, HB12.out⟩
  | some v =>
    obtain ⟨p, m⟩ := v
    simp only [stopV, Option.getD_some, Option.isSome_some] at K6
    obtain ⟨hp, hm, hl, hst0, hfit, hst1⟩ := HSo.out p m rfl
    have K7 := Lib.hid (fun W1 h1 => HSt2.out (s.extract 0 p) W1 (by simp; omega) h1)
    have K8 := Lib.hid (fun W1 h1 => HSt2.out (s.extract 0 (p + (Utf8.decode s p).2)) W1 (by simp; omega) h1)
    rw [hst0] at K7
    rw [hst1] at K8
    simp only [stopV, Option.getD_some, Option.isSome_some, Option.getD_none, Option.isSome_none] at K7 K8
    have hcn := fun W1 => count_any (s.extract 0 p) W1 (by simp; omega)
    rw [hm] at hcn
    have HCn := Lib.hid hcn
    have hxz : 0 < (s.extract p s.size).size := by simp; omega
    have hfi := fun W1 h => first_any (s.extract p s.size) W1 hxz h
    have htd := Lib.tail_decode s p 0
    rw [Nat.add_zero] at htd
    rw [htd] at hfi
    have HFi := Lib.hid hfi
    clear hm hst0 hst1 hcn hfi htd hxz HSo HNo K1 HStop HSt2 HNm
    have hwd := dec_width s p
    generalize (Utf8.decode s p).1 = R at *
    generalize (Utf8.decode s p).2 = K at *
    generalize (!goodAt (s.extract p s.size) 0) = bad at *
    subst hl
    simp only [List.length_nil] at *
    go_wp2_with fail
    (with_reducible refine Calls.mono K6.out ?_)
    rintro e w7 ⟨rfl, hB⟩
    have HB7 := Lib.hid hB
    clear hB K6
    go_upto_region 10 with fail
    have bA := Blk.new' w7 #[.int .i64 (p : Nat), .int .i64 (m : Nat)] 46
    have HB8 : Hid (Below w2.heap.size w2 (w7.alloc (.cells #[.int .i64 (p : Nat), .int .i64 (m : Nat)] 46))) := Lib.hid (HB7.out.alloc HB7.out.size _)
    generalize w7.alloc (.cells #[.int .i64 (p : Nat), .int .i64 (m : Nat)] 46) = z8 at *
    generalize w7.heap.size = b11 at *
    have HA := Lib.hid bA
    have a0 : ∀ y : WC z8, y.w.cell? ⟨b11, 0, none⟩ = some (.int .i64 (p : Nat)) := WC.cell (bA.cell 0)
    have a1 : ∀ y : WC z8, y.w.cell? ⟨b11, 1, none⟩ = some (.int .i64 (m : Nat)) := WC.cell (bA.cell 1)
    have HCt : Hid (∀ y : WC z8, Calls Tryz.prog 30 #[.string (s.extract 0 p)] y.w fun e w' => e = .returned (.int .i64 (m : Nat)) ∧ ∃ z : WC z8, w' = z.w) := Lib.hid (fun y => WC.call (HCn.out y.w))
    have i1 : (p : Int) < (s.size : Int) := by omega
    have i2 : decide ((p : Int) < 0) = false := by rw [decide_eq_false_iff_not]; omega
    have i3 : decide ((s.size : Int) ≤ (p : Int)) = false := by rw [decide_eq_false_iff_not]; omega
    have i4 : ((m : Int) != (m : Int)) = false := by simp
    have i5 : (0 : Int) ≤ (p : Int) := Int.natCast_nonneg _
    have i6 : (p : Int) ≤ (s.size : Int) := by omega
    have i7 : p ≤ s.size := by omega
    clear bA HCn HB7
    obtain ⟨y, hy⟩ : ∃ y : WC z8, y.w = z8 := ⟨WC.of z8, rfl⟩
    rw [← hy]
    clear hy
    refine wp_region_wc (W0 := z8) (by kernel_rfl) (by kernel_rfl) y.h ?_
    repeat (first | go_big_quiet_step (((go_at_call 30; (with_reducible exact HCt.out _)))) | quiet_step (((go_at_call 30; (with_reducible exact HCt.out _)))))
    refine wpQuiet_nil ?_
    rintro _ ⟨y1, rfl⟩
    have c0 := a0 y1
    have c1 := a1 y1
    have HB9 := Lib.hid (HB8.out.trans (y1.h.mono HB8.out.size))
    have hA9 := HA.out.keep (Keep.of_below y1.h (fun _ => False)) (by simp)
    generalize y1.w = w9 at *
    have HA9 := Lib.hid hA9
    clear a0 a1 hA9 HA HCt HB8 i2 i3 i4
    have F9 := Lib.hid (HFi.out w9 (HTb.out _ HB9.out))
    clear HFi
    go_wp2_with fail
    (with_reducible refine Calls.mono F9.out ?_)
    rintro e w10 ⟨rfl, hB10⟩
    clear c0 c1 F9
    go_upto_region 13 with fail
    have hal := hB10.trans (((Below.refl _ w10).alloc (Nat.le_refl _) (.cells #[.int .i32 R, .int .i64 K, .bool bad] 77)).mono hB10.size)
    have bB := Blk.new' w10 #[.int .i32 R, .int .i64 K, .bool bad] 77
    have hA11 := HA9.out.keep (Keep.of_below hal (fun _ => False)) (by simp)
    have HB11 := Lib.hid (HB9.out.trans (hal.mono HB9.out.size))
    generalize w10.alloc (.cells #[.int .i32 R, .int .i64 K, .bool bad] 77) = w11 at *
    generalize w10.heap.size = b13 at *
    have HA11 := Lib.hid hA11
    have HBb := Lib.hid bB
    clear hal bB hA11 HA9 HB9 hB10
    have c0 := HA11.out.cell 0
    dsimp only [List.getElem?_cons_zero] at c0
    have G12 := Lib.hid (K7.out w11 HB11.out)
    clear K7
    go_wp2_with fail
    (with_reducible refine Calls.mono G12.out ?_)
    rintro e w12 ⟨rfl, hB12, hB12b⟩
    clear c0 G12
    go_upto_region 14 with fail
    have hal := hB12b.trans (((Below.refl _ w12).alloc (Nat.le_refl _) (.cells #[.int .i64 0, .int .i64 0] 46)).mono hB12b.size)
    have hal2 := hB12.trans (((Below.refl _ w12).alloc (Nat.le_refl _) (.cells #[.int .i64 0, .int .i64 0] 46)).mono hB12.size)
    have bC := Blk.new' w12 #[.int .i64 0, .int .i64 0] 46
    have hA13 := HA11.out.keep (Keep.of_below hal (fun _ => False)) (by simp)
    have hB13 := HBb.out.keep (Keep.of_below hal (fun _ => False)) (by simp)
    have HB13 := Lib.hid hal2
    generalize w12.alloc (.cells #[.int .i64 0, .int .i64 0] 46) = w13 at *
    generalize w12.heap.size = b15 at *
    have HA13 := Lib.hid hA13
    have HBb13 := Lib.hid hB13
    clear hal hal2 bC hA13 hB13 HA11 HBb hB12 hB12b HB11
    have c0 := HA13.out.cell 0
    have b1 := HBb13.out.cell 1
    dsimp only [List.getElem?_cons_zero, List.getElem?_cons_succ] at c0 b1
    have G14 := Lib.hid (K8.out w13 HB13.out)
    clear K8
    have i8 : (0 : Int) ≤ (p : Int) + (K : Int) := by omega
    have i9 : (p : Int) + (K : Int) ≤ (s.size : Int) := by omega
    go_wp2_with fail
    (with_reducible refine Calls.mono G14.out ?_)
    rintro e w14 ⟨rfl, hB14, hB14b⟩
    clear c0 b1 G14
    go_upto_region 15 with fail
    have hal := hB14b.trans (((Below.refl _ w14).alloc (Nat.le_refl _) (.cells #[.int .i64 (p : Nat), .int .i64 (m : Nat)] 46)).mono hB14b.size)
    have hal2 := hB14.trans (((Below.refl _ w14).alloc (Nat.le_refl _) (.cells #[.int .i64 (p : Nat), .int .i64 (m : Nat)] 46)).mono hB14.size)
    have bD := Blk.new' w14 #[.int .i64 (p : Nat), .int .i64 (m : Nat)] 46
    have hA15 := HA13.out.keep (Keep.of_below hal (fun _ => False)) (by simp)
    have HB15 := Lib.hid hal2
    generalize w14.alloc (.cells #[.int .i64 (p : Nat), .int .i64 (m : Nat)] 46) = w15 at *
    generalize w14.heap.size = b17 at *
    have c0 := hA15.cell 0
    have c1 := hA15.cell 1
    have d0 := bD.cell 0
    have d1 := bD.cell 1
    dsimp only [List.getElem?_cons_zero, List.getElem?_cons_succ] at c0 c1 d0 d1
    clear hal hal2 bD hA15 HA13 HBb13 hB14 hB14b HB13
    go_wp2_with fail
    (with_reducible refine Calls.mono (HKn2.out w15 HB15.out) ?_)
    rintro e w12 ⟨rfl, hB12⟩
    have HB12 := Lib.hid (HBW.out _ hB12)
    clear hB12
    go_wp2_with fail
    go_ret
    exact ⟨rfl, HB12.out⟩
end Go.Proofs.YtioehfhdoohdmaaGreatDoor.scriptStops
