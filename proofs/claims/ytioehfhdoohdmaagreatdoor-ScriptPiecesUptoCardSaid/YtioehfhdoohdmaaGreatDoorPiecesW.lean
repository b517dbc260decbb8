/- The law ScriptPieces, walked. Printed by gen_pieces.py. -/
import Derived.Test.YtioehfhdoohdmaaGreatDoorKnownA
import Derived.Test.YtioehfhdoohdmaaGreatDoorSpotA
import Derived.Test.YtioehfhdoohdmaaGreatDoorKindsA
namespace Go.Proofs.YtioehfhdoohdmaaGreatDoor.scriptPieces
open Go.RowKit Go.Shelf BigFrame
set_option linter.unusedVariables false
set_option linter.unusedSimpArgs false
set_option maxRecDepth 100000 in
set_option maxHeartbeats 40000000 in
theorem walk (T : Tab) (a : TAddr) (s : ByteArray) (fr tt : Int) (W : World) (h : TabAt W T a) (hz : Lib.Utf8Tabs 0 1 W) (hr : TabRoom T) (hs : s.size ≤ 1048576) : Calls Tryz.prog 6 #[.agg (tabCells T a), .string s, .int .i64 fr, .int .i64 tt] W fun e w' => e = .returned (.bool true) ∧ Below W.heap.size W w' := by
  obtain ⟨hT, HTb, hB, hz0⟩ := box1 h
  obtain ⟨TT, hTT⟩ : ∃ TT : Tab, T = TT := ⟨_, rfl⟩
  have HPo : Hid (∀ (W1 : World), Below W.heap.size W W1 → Calls Tryz.prog 11 #[.agg (tabCells T a)] W1 (OfPost W1 TT)) := Lib.hid (fun W1 h1 => by rw [← hTT]; exact keepOf_any T a W1 (h.below h1) (tabs_below hz h1) hr)
  have HKn : Hid (∀ (W1 : World), Below W.heap.size W W1 → Calls Tryz.prog 12 #[] W1 (fun e w' => e = .returned (.bool true) ∧ Below W1.heap.size W1 w')) := Lib.hid (fun W1 h1 => known_any W1 (tabs_below hz h1))
  have HFit : Hid (upB TT = true → TabFit TT) := Lib.hid (fun hu => by rw [← hTT] at hu ⊢; exact hr.fit (by cases hl : largeB T with | false => rfl | true => simp [upB, hl] at hu))
  have HZ := Lib.hid hz
  obtain ⟨l0, l1, l2, l3, l4, l5, l6, l7⟩ := T
  obtain ⟨o0, o1, o2, o3, o4, o5, o6, o7, c0, c1, c2, c3, c4, c5, c6, c7⟩ := a
  simp only [tabCells] at hT HTb hB hz0 HPo ⊢
  obtain ⟨W0, hW0⟩ : ∃ W0, (W.alloc (.cells #[.slice o0 l0.length c0, .slice o1 l1.length c1, .slice o2 l2.length c2, .slice o3 l3.length c3, .slice o4 l4.length c4, .slice o5 l5.length c5, .slice o6 l6.length c6, .slice o7 l7.length c7] 28)) = W0 := ⟨_, rfl⟩
  rw [hW0] at hT HTb hB hz0
  have HW0 := Lib.hid hW0
  have HB := Lib.hid hB
  have t0 := HTb 0 (.slice o0 l0.length c0) rfl
  have t1 := HTb 1 (.slice o1 l1.length c1) rfl
  have t2 := HTb 2 (.slice o2 l2.length c2) rfl
  have t3 := HTb 3 (.slice o3 l3.length c3) rfl
  have t4 := HTb 4 (.slice o4 l4.length c4) rfl
  have t5 := HTb 5 (.slice o5 l5.length c5) rfl
  have t6 := HTb 6 (.slice o6 l6.length c6) rfl
  have t7 := HTb 7 (.slice o7 l7.length c7) rfl
  clear hT HTb hB hz0 h hW0 hz hr hTT
  go_enter Tryz.func6, Tryz.ntmps6
  go_wp2_with fail
  rw [HW0.out]
  clear HW0
  (with_reducible refine Calls.mono (HPo.out _ HB.out) ?_)
  rintro e w2 ⟨hB2, hrest⟩
  clear HPo t0 t1 t2 t3 t4 t5 t6 t7
  have HB2 := Lib.hid (HB.out.trans (hB2.mono HB.out.size))
  clear hB2
  rcases hrest with ⟨hu, rfl⟩ | ⟨hu, bb, B, rfl, hbk, _⟩
  · clear hu HFit
    go_wp2_with fail
    (with_reducible refine Calls.mono (HKn.out _ HB2.out) ?_)
    rintro e w3 ⟨rfl, hB3⟩
    have HB3 := Lib.hid (HB2.out.trans (hB3.mono HB2.out.size))
    clear hB3 HKn
    go_wp2_with fail
    go_ret
    exact ⟨rfl, HB3.out⟩
  have HFt := Lib.hid (HFit.out hu)
  have HBk : Hid (∀ W1, Below w2.heap.size w2 W1 → BookAt W1 bb B TT) := Lib.hid (fun W1 h1 => hbk.below h1)
  have HBW : Hid (∀ W1, Below w2.heap.size w2 W1 → Below W.heap.size W W1) := Lib.hid (fun W1 h1 => HB2.out.trans (h1.mono HB2.out.size))
  clear hu hbk HFit HB
  have HTb : Hid (∀ W1, Below w2.heap.size w2 W1 → Lib.Utf8Tabs 0 1 W1) := Lib.hid (fun W1 h1 => tabs_below HZ.out (HBW.out _ h1))
  have HKn2 : Hid (∀ (W1 : World), Below w2.heap.size w2 W1 → Calls Tryz.prog 12 #[] W1 (fun e w' => e = .returned (.bool true) ∧ Below w2.heap.size w2 w')) := Lib.hid (fun W1 h1 => (HKn.out W1 (HBW.out _ h1)).mono fun e w' hh => ⟨hh.1, h1.trans (hh.2.mono h1.size)⟩)
  have HStop : Hid (∀ (x : ByteArray) (W1 : World), x.size ≤ 1048576 → Below w2.heap.size w2 W1 → Calls Tryz.prog 19 #[.pointer (some ⟨bb, 0, none⟩), .string x] W1 (fun e w' => e = .returned (stopV (stopN TT x)) ∧ Below w2.heap.size w2 w')) := Lib.hid (fun x W1 hx h1 => (sstop_any TT bb B x W1 (HBk.out _ h1) HFt.out hx).mono fun e w' hh => ⟨hh.1, h1.trans (hh.2.mono h1.size)⟩)
  have HSof : Hid (∀ (x : ByteArray) (W1 : World), x.size ≤ 1048576 → Below w2.heap.size w2 W1 → Calls Tryz.prog 15 #[.pointer (some ⟨bb, 0, none⟩), .string x] W1 (fun e w' => ∃ (g c : Nat), e = .returned (.slice (some ⟨g, 0, none⟩) (foldO TT x (places x)).length c) ∧ w'.ownsRow W1.heap.size 3 1 (.slice (some ⟨g, 0, none⟩) (foldO TT x (places x)).length c) (foldO TT x (places x)).length (iV (foldO TT x (places x))) ∧ Below w2.heap.size w2 w' ∧ Below W1.heap.size W1 w')) := Lib.hid (fun x W1 hx h1 => (sof_any TT bb B x W1 (HBk.out _ h1) HFt.out hx).mono fun e w' hh => by obtain ⟨g, c, he, ho, hb⟩ := hh; exact ⟨g, c, he, ho, h1.trans (hb.mono h1.size), hb⟩)
  have HLn : Hid (∀ x : ByteArray, (foldO TT x (places x)).length ≤ 1048576) := Lib.hid (fun x => Nat.le_trans (foldO_len TT x _) HFt.out.l0)
  have HBk0 := HBk
  clear HKn HBk
  have hc1 := cut_any s tt w2 (by omega) (HTb.out _ (Below.refl _ _))
  have HC1 := Lib.hid hc1
  clear hc1
  go_wp2_with fail
  (with_reducible refine Calls.mono HC1.out ?_)
  rintro e w3 ⟨p, hp, hple, rfl, hB3⟩
  clear HC1
  have HR1 := Lib.hid (hp.reach (clamp_le _ _))
  have HB3 := Lib.hid hB3
  have hz1 : (s.extract 0 p).size ≤ 1048576 := by simp; omega
  have HLaw1 : Hid (∀ q, q ≤ (s.extract 0 p).size → Reach (s.extract 0 p) q 0 → (∀ n ∈ foldO TT s (places s), n ∈ foldO TT ((s.extract 0 p).extract q (s.extract 0 p).size) (places _)) ∧ ((stopN TT ((s.extract 0 p).extract q (s.extract 0 p).size)).isSome = true → (stopN TT s).isSome = true)) := Lib.hid (fun q hq hr => piece_law TT s HR1.out.1 HR1.out.2 hq hr)
  clear hp hple hB3 HR1
  generalize s.extract 0 p = hd at *
  generalize s.extract p s.size = tl at *
  have hc2 := cut_any hd fr w3 (by omega) (HTb.out _ HB3.out)
  have HC2 := Lib.hid hc2
  clear hc2
  go_wp2_with fail
  (with_reducible refine Calls.mono HC2.out ?_)
  rintro e w4 ⟨q, hq, hqle, rfl, hB4⟩
  clear HC2
  have HL := Lib.hid (HLaw1.out q (hq.reach (clamp_le _ _)).1 (hq.reach (clamp_le _ _)).2)
  have HB4 := Lib.hid (HB3.out.trans (hB4.mono HB3.out.size))
  have hz2 : (hd.extract q hd.size).size ≤ 1048576 := by simp; omega
  clear hq hqle hB4 HLaw1
  generalize hd.extract 0 q = hh at *
  generalize hd.extract q hd.size = pc at *
  obtain ⟨b1, hb1⟩ : ∃ b, (stopN TT s).isSome = b := ⟨_, rfl⟩
  obtain ⟨b2, hb2⟩ : ∃ b, (stopN TT pc).isSome = b := ⟨_, rfl⟩
  have K1 := Lib.hid (HStop.out s w4 hs HB4.out)
  have K2 := Lib.hid (fun W1 h1 => HStop.out pc W1 hz2 h1)
  simp only [stopV, hb1] at K1
  simp only [stopV, hb2] at K2
  have HIn : Hid (inAll (foldO TT s (places s)) (foldO TT pc (places pc)) = true) := Lib.hid (by unfold inAll; rw [List.all_eq_true]; intro n hn; rw [List.contains_iff_mem]; exact HL.out.1 n hn)
  have HOr : Hid (b2 = true → b1 = true) := Lib.hid (by have := HL.out.2; rw [hb1, hb2] at this; exact this)
  generalize (stopN TT s).getD (0, 0) = v1 at *
  generalize (stopN TT pc).getD (0, 0) = v2 at *
  clear hb1 hb2 HL HStop
  go_wp2_with fail
  (with_reducible refine Calls.mono K1.out ?_)
  rintro e w5 ⟨rfl, hB5⟩
  have HB5 := Lib.hid hB5
  clear hB5 K1 HB4
  go_wp2_with fail
  have hal : Below w5.heap.size w5 (w5.alloc (.cells #[.int .i64 (v1.1 : Nat), .int .i64 (v1.2 : Nat)] 46)) := (Below.refl _ _).alloc (Nat.le_refl _) _
  have HB6 := Lib.hid (HB5.out.trans (hal.mono HB5.out.size))
  generalize w5.alloc (.cells #[.int .i64 (v1.1 : Nat), .int .i64 (v1.2 : Nat)] 46) = w6 at *
  clear hal
  (with_reducible refine Calls.mono (K2.out w6 HB6.out) ?_)
  rintro e w7 ⟨rfl, hB7⟩
  have HB7 := Lib.hid hB7
  clear hB7 K2 HB5 HB6
  go_wp2_with fail
  have hal : Below w7.heap.size w7 (w7.alloc (.cells #[.int .i64 (v2.1 : Nat), .int .i64 (v2.2 : Nat)] 46)) := (Below.refl _ _).alloc (Nat.le_refl _) _
  have HB8 := Lib.hid (HB7.out.trans (hal.mono HB7.out.size))
  generalize w7.alloc (.cells #[.int .i64 (v2.1 : Nat), .int .i64 (v2.2 : Nat)] 46) = w8 at *
  clear hal
  have Q1 := Lib.hid (HSof.out s w8 hs HB8.out)
  have HL1 := Lib.hid (HLn.out s)
  have HL2 := Lib.hid (HLn.out pc)
  have Q2 := Lib.hid (fun W1 h1 => HSof.out pc W1 hz2 h1)
  generalize foldO TT s (places s) = L1 at *
  generalize foldO TT pc (places pc) = L2 at *
  clear HSof HLn HB7
  (with_reducible refine Calls.mono Q1.out ?_)
  rintro e w9 ⟨g1, d1, rfl, ho1, hB9, _⟩
  have HO1 := Lib.hid ho1
  have HB9 := Lib.hid hB9
  clear ho1 hB9 Q1 HB8
  go_wp2_with fail
  (with_reducible refine Calls.mono (Q2.out w9 HB9.out) ?_)
  rintro e w10 ⟨g2, d2, rfl, ho2, hB10, hB10b⟩
  have hwt := within14_any (some ⟨g1, 0, none⟩) (some ⟨g2, 0, none⟩) d1 d2 L1 L2 w10 ((own_rd' HO1.out).below hB10b) (own_rd' ho2) HL1.out HL2.out
  rw [HIn.out] at hwt
  have HWt := Lib.hid hwt
  have HB10 := Lib.hid hB10
  clear hwt ho2 hB10 hB10b Q2 HB9 HO1 HIn
  go_wp2_with fail
  (with_reducible refine Calls.mono HWt.out ?_)
  rintro e w11 ⟨rfl, k, rfl⟩
  have HB11 := Lib.hid (HB10.out.trans ((drewN_below w10 k).mono HB10.out.size))
  clear HWt HB10
  generalize w10.drewN k = w11 at *
  have fin : ∀ (w12 : World), Below w2.heap.size w2 w12 → Below W.heap.size W w12 := HBW.out
  have HFin := Lib.hid fin
  clear fin
  cases b1 with
  | true =>
    go_wp2_with fail
    (with_reducible refine Calls.mono (HKn2.out w11 HB11.out) ?_)
    rintro e w12 ⟨rfl, hB12⟩
    have HB12 := Lib.hid (HFin.out _ hB12)
    clear hB12
    go_wp2_with fail
    go_ret
    exact ⟨rfl, HB12.out⟩
  | false =>
    obtain rfl : b2 = false := by cases b2 with | false => rfl | true => exact absurd (HOr.out rfl) (by decide)
    go_wp2_with fail
    (with_reducible refine Calls.mono (HKn2.out w11 HB11.out) ?_)
    rintro e w12 ⟨rfl, hB12⟩
    have HB12 := Lib.hid (HFin.out _ hB12)
    clear hB12
    go_wp2_with fail
    go_ret
    exact ⟨rfl, HB12.out⟩
end Go.Proofs.YtioehfhdoohdmaaGreatDoor.scriptPieces
