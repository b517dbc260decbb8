/- The law ScriptOf, walked. Printed by gen_of14.py. -/
import Derived.Test.YtioehfhdoohdmaaGreatDoorKnownA
import Derived.Test.YtioehfhdoohdmaaGreatDoorRef14EF
import Derived.Test.YtioehfhdoohdmaaGreatDoorBookI
set_option linter.unusedVariables false
set_option linter.unusedSimpArgs false
namespace Go.Proofs.YtioehfhdoohdmaaGreatDoor.scriptOf
open Go.RowKit Go.Shelf BigFrame
set_option maxRecDepth 100000 in
set_option maxHeartbeats 40000000 in
theorem walk (T : Tab) (a : TAddr) (s : ByteArray) (n : Int) (W : World) (h : TabAt W T a) (hz : Lib.Utf8Tabs 0 1 W) (hr : TabRoom T) (hs : s.size ≤ 1048576) : Calls Tryz.prog 3 #[.agg (tabCells T a), .string s, .int .i64 n] W fun e w' => e = .returned (.bool true) ∧ Below W.heap.size W w' := by
 obtain ⟨hT, HTb, hB, hz0⟩ := box1 h
 obtain ⟨TT, hTT⟩ : ∃ TT : Tab, T = TT := ⟨_, rfl⟩
 have HPo : Hid (∀ (W1 : World), Below W.heap.size W W1 → Calls Tryz.prog 11 #[.agg (tabCells T a)] W1 (OfPost W1 TT)) := Lib.hid (fun W1 h1 => by rw [← hTT]; exact keepOf_any T a W1 (h.below h1) (tabs_below hz h1) hr)
 have HKn : Hid (∀ (W1 : World), Below W.heap.size W W1 → Calls Tryz.prog 12 #[] W1 (fun e w' => e = .returned (.bool true) ∧ Below W1.heap.size W1 w')) := Lib.hid (fun W1 h1 => known_any W1 (tabs_below hz h1))
 have HFit : Hid (upB TT = true → TabFit TT) := Lib.hid (fun hu => by rw [← hTT] at hu ⊢; exact hr.fit (by cases hl : largeB T with | false => rfl | true => simp [upB, hl] at hu))
 have HZ := Lib.hid hz
 obtain ⟨l0, l1, l2, l3, l4, l5, l6, l7⟩ := T
 obtain ⟨o0, o1, o2, o3, o4, o5, o6, o7, c0, c1, c2, c3, c4, c5, c6, c7⟩ := a
 simp only [tabCells] at hT HTb hB hz0 HPo ⊢
 obtain ⟨W0, hW0⟩ : ∃ W0, (W.alloc (.cells #[.slice o0 l0.length c0, .slice o1 l1.length c1, .slice o2 l2.length c2, .slice o3 l3.length c3, .slice o4 l4.length c4, .slice o5 l5.length c5, .slice o6 l6.length c6, .slice o7 l7.length c7] 28)) = W0 := ⟨_, rfl⟩
 rw [hW0] at hT HTb hB hz0
 have HW0 := Lib.hid hW0
 have HB := Lib.hid hB
 have t0 := HTb 0 (.slice o0 l0.length c0) rfl
 have t1 := HTb 1 (.slice o1 l1.length c1) rfl
 have t2 := HTb 2 (.slice o2 l2.length c2) rfl
 have t3 := HTb 3 (.slice o3 l3.length c3) rfl
 have t4 := HTb 4 (.slice o4 l4.length c4) rfl
 have t5 := HTb 5 (.slice o5 l5.length c5) rfl
 have t6 := HTb 6 (.slice o6 l6.length c6) rfl
 have t7 := HTb 7 (.slice o7 l7.length c7) rfl
 have HTq := Lib.hid hT
 have HCq := Lib.hid HTb
 clear hT HTb hB hz0 h hW0 hz hr
 have HTT := Lib.hid hTT
 clear hTT
 go_enter Tryz.func3, Tryz.ntmps3
 go_wp2_with fail
 rw [HW0.out]
 clear HW0
 (with_reducible refine Calls.mono (HPo.out _ HB.out) ?_)
 rintro e w2 ⟨hB2, hrest⟩
 clear HPo t0 t1 t2 t3 t4 t5 t6 t7
 have HBz := Lib.hid hB2
 have HB2 := Lib.hid (HB.out.trans (hB2.mono HB.out.size))
 clear hB2
 rcases hrest with ⟨hu, rfl⟩ | ⟨hu, bb, B, rfl, hbk, _⟩
 ·clear hu HFit
  go_wp2_with fail
  (with_reducible refine Calls.mono (HKn.out _ HB2.out) ?_)
  rintro e w3 ⟨rfl, hB3⟩
  have HB3 := Lib.hid (HB2.out.trans (hB3.mono HB2.out.size))
  clear hB3 HKn
  go_wp2_with fail
  go_ret
  exact ⟨rfl, HB3.out⟩
 have HFt := Lib.hid (HFit.out hu)
 have HBk : Hid (∀ W1, Below w2.heap.size w2 W1 → BookAt W1 bb B TT) := Lib.hid (fun W1 h1 => hbk.below h1)
 have HBW : Hid (∀ W1, Below w2.heap.size w2 W1 → Below W.heap.size W W1) := Lib.hid (fun W1 h1 => HB2.out.trans (h1.mono HB2.out.size))
 clear hu hbk HFit HB
 have HTb : Hid (∀ W1, Below w2.heap.size w2 W1 → Lib.Utf8Tabs 0 1 W1) := Lib.hid (fun W1 h1 => tabs_below HZ.out (HBW.out _ h1))
 have HKn2 : Hid (∀ (W1 : World), Below w2.heap.size w2 W1 → Calls Tryz.prog 12 #[] W1 (fun e w' => e = .returned (.bool true) ∧ Below w2.heap.size w2 w')) := Lib.hid (fun W1 h1 => (HKn.out W1 (HBW.out _ h1)).mono fun e w' hh => ⟨hh.1, h1.trans (hh.2.mono h1.size)⟩)
 have HStop : Hid (∀ (x : ByteArray) (W1 : World), x.size ≤ 1048576 → Below w2.heap.size w2 W1 → Calls Tryz.prog 19 #[.pointer (some ⟨bb, 0, none⟩), .string x] W1 (fun e w' => e = .returned (stopV (stopN TT x)) ∧ Below w2.heap.size w2 w')) := Lib.hid (fun x W1 hx h1 => (sstop_any TT bb B x W1 (HBk.out _ h1) HFt.out hx).mono fun e w' hh => ⟨hh.1, h1.trans (hh.2.mono h1.size)⟩)
 have HSof : Hid (∀ (x : ByteArray) (W1 : World), x.size ≤ 1048576 → Below w2.heap.size w2 W1 → Calls Tryz.prog 15 #[.pointer (some ⟨bb, 0, none⟩), .string x] W1 (fun e w' => ∃ (g c : Nat), e = .returned (.slice (some ⟨g, 0, none⟩) (foldO TT x (places x)).length c) ∧ w'.ownsRow W1.heap.size 3 1 (.slice (some ⟨g, 0, none⟩) (foldO TT x (places x)).length c) (foldO TT x (places x)).length (iV (foldO TT x (places x))) ∧ Below w2.heap.size w2 w' ∧ Below W1.heap.size W1 w')) := Lib.hid (fun x W1 hx h1 => (sof_any TT bb B x W1 (HBk.out _ h1) HFt.out hx).mono fun e w' hh => by obtain ⟨g, c, he, ho, hb⟩ := hh; exact ⟨g, c, he, ho, h1.trans (hb.mono h1.size), hb⟩)
 have HLn : Hid (∀ x : ByteArray, (foldO TT x (places x)).length ≤ 1048576) := Lib.hid (fun x => Nat.le_trans (foldO_len TT x _) HFt.out.l0)
 have HBk0 := HBk
 clear HKn HBk
 have HTl : Hid (∀ W1, Below w2.heap.size w2 W1 → TabAt W1 ⟨l0, l1, l2, l3, l4, l5, l6, l7⟩ ⟨o0, o1, o2, o3, o4, o5, o6, o7, c0, c1, c2, c3, c4, c5, c6, c7⟩) := Lib.hid (fun W1 h1 => HTq.out.below (HBz.out.trans (h1.mono HBz.out.size)))
 have HX0 : Hid (∀ W1, Below w2.heap.size w2 W1 → W1.cell? ⟨W.heap.size, 0, none⟩ = some (.slice o0 l0.length c0)) := Lib.hid (fun W1 h1 => cell_bel (HBz.out.trans (h1.mono HBz.out.size)) (HCq.out 0 (.slice o0 l0.length c0) rfl))
 have HX1 : Hid (∀ W1, Below w2.heap.size w2 W1 → W1.cell? ⟨W.heap.size, 1, none⟩ = some (.slice o1 l1.length c1)) := Lib.hid (fun W1 h1 => cell_bel (HBz.out.trans (h1.mono HBz.out.size)) (HCq.out 1 (.slice o1 l1.length c1) rfl))
 have HX2 : Hid (∀ W1, Below w2.heap.size w2 W1 → W1.cell? ⟨W.heap.size, 2, none⟩ = some (.slice o2 l2.length c2)) := Lib.hid (fun W1 h1 => cell_bel (HBz.out.trans (h1.mono HBz.out.size)) (HCq.out 2 (.slice o2 l2.length c2) rfl))
 have HX3 : Hid (∀ W1, Below w2.heap.size w2 W1 → W1.cell? ⟨W.heap.size, 3, none⟩ = some (.slice o3 l3.length c3)) := Lib.hid (fun W1 h1 => cell_bel (HBz.out.trans (h1.mono HBz.out.size)) (HCq.out 3 (.slice o3 l3.length c3) rfl))
 have HX4 : Hid (∀ W1, Below w2.heap.size w2 W1 → W1.cell? ⟨W.heap.size, 4, none⟩ = some (.slice o4 l4.length c4)) := Lib.hid (fun W1 h1 => cell_bel (HBz.out.trans (h1.mono HBz.out.size)) (HCq.out 4 (.slice o4 l4.length c4) rfl))
 have HX5 : Hid (∀ W1, Below w2.heap.size w2 W1 → W1.cell? ⟨W.heap.size, 5, none⟩ = some (.slice o5 l5.length c5)) := Lib.hid (fun W1 h1 => cell_bel (HBz.out.trans (h1.mono HBz.out.size)) (HCq.out 5 (.slice o5 l5.length c5) rfl))
 have HX6 : Hid (∀ W1, Below w2.heap.size w2 W1 → W1.cell? ⟨W.heap.size, 6, none⟩ = some (.slice o6 l6.length c6)) := Lib.hid (fun W1 h1 => cell_bel (HBz.out.trans (h1.mono HBz.out.size)) (HCq.out 6 (.slice o6 l6.length c6) rfl))
 have HX7 : Hid (∀ W1, Below w2.heap.size w2 W1 → W1.cell? ⟨W.heap.size, 7, none⟩ = some (.slice o7 l7.length c7)) := Lib.hid (fun W1 h1 => cell_bel (HBz.out.trans (h1.mono HBz.out.size)) (HCq.out 7 (.slice o7 l7.length c7) rfl))
 clear HTq HCq HBz
 have hfz := fewB_size s 600
 have hfw := few14_any s 600 w2 hs (by omega)
 generalize fewB s 600 = t at *
 have HFw := Lib.hid hfw
 clear hfw
 have ht : t.size ≤ 1048576 := by omega
 have hl0 : TT.scripts.length ≤ 1048576 := HFt.out.l0
 have Q1 := Lib.hid (fun W1 h1 => HSof.out t W1 ht h1)
 have Q2 : Hid (∀ (W1 : World), Below w2.heap.size w2 W1 → Calls Tryz.prog 19 #[.pointer (some ⟨bb, 0, none⟩), .string t] W1 (StopPost W1 (stopN TT t))) := Lib.hid (fun W1 h1 => sstop_any TT bb B t W1 (HBk0.out _ h1) HFt.out ht)
 have hpl : (places t).length ≤ 1048576 := Nat.le_trans scan_any_len ht
 have hl1 : l0.length ≤ 1048576 := by have h := hl0; rw [← HTT.out] at h; exact h
 have R1 : Hid (∀ (W1 : World), Below w2.heap.size w2 W1 → ∀ (o : Option Addr) (c : Nat), SpsAt W1 t o (places t) → Calls Tryz.prog 17 #[.agg #[.slice o0 l0.length c0, .slice o1 l1.length c1, .slice o2 l2.length c2, .slice o3 l3.length c3, .slice o4 l4.length c4, .slice o5 l5.length c5, .slice o6 l6.length c6, .slice o7 l7.length c7], .slice o (places t).length c] W1 (ROfPost W1 (rofL TT t (places t) TT.scripts.length))) := Lib.hid (fun W1 h1 o c hsp => by rw [← HTT.out]; exact rof_any ⟨l0, l1, l2, l3, l4, l5, l6, l7⟩ ⟨o0, o1, o2, o3, o4, o5, o6, o7, c0, c1, c2, c3, c4, c5, c6, c7⟩ t (places t) o c W1 (HTl.out W1 h1) hsp hpl hl1)
 rw [← foldO_rof] at R1
 have R2 : Hid (∀ (W1 : World), Below w2.heap.size w2 W1 → Calls Tryz.prog 20 #[.agg #[.slice o0 l0.length c0, .slice o1 l1.length c1, .slice o2 l2.length c2, .slice o3 l3.length c3, .slice o4 l4.length c4, .slice o5 l5.length c5, .slice o6 l6.length c6, .slice o7 l7.length c7], .string t] W1 (StopPost W1 (stopN TT t))) := Lib.hid (fun W1 h1 => by rw [← HTT.out]; exact rstop_any ⟨l0, l1, l2, l3, l4, l5, l6, l7⟩ ⟨o0, o1, o2, o3, o4, o5, o6, o7, c0, c1, c2, c3, c4, c5, c6, c7⟩ t W1 (HTl.out W1 h1) ht hl1)
 have R3 : Hid (∀ (W1 : World), Below w2.heap.size w2 W1 → ∀ (o : Option Addr) (c : Nat), SpsAt W1 t o (places t) → Calls Tryz.prog 22 #[.agg #[.slice o0 l0.length c0, .slice o1 l1.length c1, .slice o2 l2.length c2, .slice o3 l3.length c3, .slice o4 l4.length c4, .slice o5 l5.length c5, .slice o6 l6.length c6, .slice o7 l7.length c7], .slice o (places t).length c, .int .i64 n] W1 (fun e w' => e = .returned (.bool (canB TT t (places t) n)) ∧ Below W1.heap.size W1 w')) := Lib.hid (fun W1 h1 o c hsp => by rw [← HTT.out]; exact rcan_any ⟨l0, l1, l2, l3, l4, l5, l6, l7⟩ ⟨o0, o1, o2, o3, o4, o5, o6, o7, c0, c1, c2, c3, c4, c5, c6, c7⟩ t (places t) o c n W1 (HTl.out W1 h1) hsp hpl)
 rw [← can_eq] at R3
 have R4 : Hid (∀ (W1 : World), Below w2.heap.size w2 W1 → Calls Tryz.prog 24 #[.agg #[.slice o0 l0.length c0, .slice o1 l1.length c1, .slice o2 l2.length c2, .slice o3 l3.length c3, .slice o4 l4.length c4, .slice o5 l5.length c5, .slice o6 l6.length c6, .slice o7 l7.length c7], .string t] W1 (LevelPost W1 (levelN TT t))) := Lib.hid (fun W1 h1 => by rw [← HTT.out]; exact rlevel_any ⟨l0, l1, l2, l3, l4, l5, l6, l7⟩ ⟨o0, o1, o2, o3, o4, o5, o6, o7, c0, c1, c2, c3, c4, c5, c6, c7⟩ t W1 (HTl.out W1 h1) ht hl1)
 have Q3 : Hid (∀ (W1 : World), Below w2.heap.size w2 W1 → Calls Tryz.prog 21 #[.pointer (some ⟨bb, 0, none⟩), .string t, .int .i64 n] W1 (fun e w' => e = .returned (.bool ((foldO TT t (places t)).contains n)) ∧ Below W1.heap.size W1 w')) := Lib.hid (fun W1 h1 => scan14_any TT bb B t n W1 (HBk0.out _ h1) HFt.out ht)
 have Q4 : Hid (∀ (W1 : World), Below w2.heap.size w2 W1 → Calls Tryz.prog 23 #[.pointer (some ⟨bb, 0, none⟩), .string t] W1 (LevelPost W1 (levelN TT t))) := Lib.hid (fun W1 h1 => slevel_any TT bb B t W1 (HBk0.out _ h1) HFt.out ht)
 have Q5 : Hid (∀ (W1 : World), Below w2.heap.size w2 W1 → Calls Tryz.prog 12 #[] W1 (fun e w' => e = .returned (.bool true) ∧ Below W1.heap.size W1 w')) := Lib.hid (fun W1 h1 => known_any W1 (HTb.out _ h1))
 have hsp := rspots_any t w2 ht
 unfold SpotsPost at hsp
 have HSp := Lib.hid hsp
 clear hsp
 have HLL := Lib.hid (HLn.out t)
 generalize foldO TT t (places t) = L at *
 generalize levelN TT t = LV at *
 generalize stopN TT t = sv at *
 obtain ⟨ps, hps⟩ : ∃ ps, places t = ps := ⟨_, rfl⟩
 rw [hps] at R1 R3 HSp hpl
 clear hps HSof HStop HLn HTl HBk0 hl0 hl1 HTT HKn2
 go_wp2_with fail
 (with_reducible refine Calls.mono HFw.out ?_)
 rintro e w3 ⟨rfl, rfl⟩
 clear HFw
 go_wp2_with fail
 (with_reducible refine Calls.mono HSp.out ?_)
 rintro e w4 ⟨v4, rfl, ho4, hB4⟩
 obtain ⟨o, c, rfl, hnc, hcm, hrd, _⟩ := own4_rd ho4
 have HPs : Hid (SpsAt w4 t o ps) := Lib.hid hrd
 have HB4 := Lib.hid hB4
 clear HSp ho4 hrd hB4
 have hbk0 := bookInt.book_new w4
 have hal : Below w4.heap.size w4 (w4.alloc (.cells #[.slice none 0 0, .slice none 0 0, .int .i64 0, .bool false] 39)) := (Below.refl _ w4).alloc (Nat.le_refl _) _
 have H0 : Hid (∃ B1, bookInt.BookIn w4 (w4.alloc (.cells #[.slice none 0 0, .slice none 0 0, .int .i64 0, .bool false] 39)) B1 w4.heap.size 0) := Lib.hid ⟨_, hbk0⟩
 have HAl := Lib.hid hal
 clear hbk0 hal
 go_wp2_with fail
 generalize w4.alloc (.cells #[.slice none 0 0, .slice none 0 0, .int .i64 0, .bool false] 39) = w5 at *
 go_loopw [12, 13] (fun v12 v13 wr => ∃ i : Nat, v12 = .int .i64 i ∧ i ≤ 2 ∧ Hid (∃ B1, bookInt.BookIn w4 wr B1 w4.heap.size i) ∧ Hid (Below w4.heap.size w4 wr)) (fun v12 _ _ => 2 - (intOf v12).toNat)
 case atStart => exact ⟨0, rfl, Nat.zero_le _, H0, HAl⟩
 case round =>
  clear H0 HAl
  obtain ⟨i, rfl, hi, HK, HW⟩ := hrel
  have i0 : (0 : Int) ≤ (i : Int) := Int.natCast_nonneg _
  by_cases hlt : i < 2
  ·have i1 : (i : Int) < 2 := by omega
   have HW2 := Lib.hid (HB4.out.trans (HW.out.mono HB4.out.size))
   have K1 := Lib.hid (Q1.out wr HW2.out)
   go_wp2_with fail
   (with_reducible refine Calls.mono K1.out ?_)
   rintro e w6 ⟨g6, d6, rfl, ho6, hB6, hB6b⟩
   have HO6 := Lib.hid ho6
   have HB6 := Lib.hid hB6
   have HB6b := Lib.hid hB6b
   clear ho6 hB6 hB6b K1
   have t0 := HX0.out w6 HB6.out
   have t1 := HX1.out w6 HB6.out
   have t2 := HX2.out w6 HB6.out
   have t3 := HX3.out w6 HB6.out
   have t4 := HX4.out w6 HB6.out
   have t5 := HX5.out w6 HB6.out
   have t6 := HX6.out w6 HB6.out
   have t7 := HX7.out w6 HB6.out
   have hW46 := HW.out.trans (HB6b.out.mono HW.out.size)
   have K2 := Lib.hid (R1.out w6 HB6.out o c (HPs.out.below hW46))
   clear hW46
   go_wp2_with fail
   (with_reducible refine Calls.mono K2.out ?_)
   rintro e w7 ⟨o7, c7q, rfl, ho7, hB7⟩
   clear K2 t0 t1 t2 t3 t4 t5 t6 t7
   obtain ⟨o7b, c7b, hv7, _, _, hrd7, _⟩ := own_rd ho7
   obtain ⟨rfl, _, rfl⟩ : o7 = o7b ∧ True ∧ c7q = c7b := by simpa using hv7
   clear hv7
   have hsm := sameI_any (some ⟨g6, 0, none⟩) o7 d6 c7q L L w7 ((own_rd' HO6.out).below hB7) hrd7 HLL.out HLL.out
   simp only [BEq.rfl] at hsm
   have HSm := Lib.hid hsm
   have HB7 := Lib.hid hB7
   clear hsm hrd7 ho7 hB7
   go_wp2_with fail
   (with_reducible refine Calls.mono HSm.out ?_)
   rintro e w' ⟨rfl, k7, rfl⟩
   clear HSm
   have hB68 : Below w6.heap.size w6 (w7.drewN k7) := HB7.out.trans ((drewN_below w7 k7).mono HB7.out.size)
   generalize w7.drewN k7 = w8 at *
   have hBr8 : Below wr.heap.size wr w8 := HB6b.out.trans (hB68.mono HB6b.out.size)
   obtain ⟨B1, hbi⟩ := HK.out
   have hfr : ∀ k, bookInt.blkOf (some (⟨g6, 0, none⟩ : Addr)) = some k → B1 ≤ k := fun k hk => by
    have h1 : g6 = k := by simpa [bookInt.blkOf] using hk
    obtain ⟨oo, cc, hv, _, _, _, hlo⟩ := own_rd HO6.out
    simp only [Value.slice.injEq] at hv
    have h2 := (hlo ⟨g6, 0, none⟩ hv.1.symm).1
    obtain ⟨_, _, _, _, _, _, _, _, _, _, _, _, _, hz2⟩ := hbi
    simp only at h2
    omega
   have hkp := bookInt.book_keep (hbi.later hBr8) (by omega) (bookInt.own_ints (own_later HO6.out hB68)) hfr (by rw [List.length_map]; have := HLL.out; omega)
   rw [List.length_map] at hkp
   have HKp := Lib.hid hkp
   have HBr8 := Lib.hid hBr8
   clear hkp hfr hbi hBr8 hB68
   go_wp2_with fail
   (with_reducible refine Calls.mono HKp.out ?_)
   rintro e w9 ⟨⟨v9, rfl⟩, hb9, hB9⟩
   have HN : Hid (∃ B1, bookInt.BookIn w4 w9 B1 w4.heap.size (i + 1)) := Lib.hid ⟨_, hb9⟩
   have HW9 : Hid (Below w4.heap.size w4 w9) := Lib.hid (HW.out.trans ((HBr8.out.mono HW.out.size).trans hB9))
   clear hb9 hB9 HKp
   go_wp2_with fail
   exact ⟨⟨i + 1, by go_num, by omega, HN, HW9⟩, by simp [intOf]; omega⟩
  ·obtain rfl : i = 2 := by omega
   clear hi hlt i0
   have HW2 := Lib.hid (HB4.out.trans (HW.out.mono HB4.out.size))
   have K1 := Lib.hid (Q2.out wr HW2.out)
   unfold StopPost stopV at K1
   have K2 := R2.out
   unfold StopPost stopV at K2
   have K2 := Lib.hid K2
   obtain ⟨X, hX⟩ : ∃ X : Nat, (sv.getD (0, 0)).1 = X := ⟨_, rfl⟩
   obtain ⟨Y, hY⟩ : ∃ Y : Nat, (sv.getD (0, 0)).2 = Y := ⟨_, rfl⟩
   obtain ⟨bs, hbs⟩ : ∃ b : Bool, sv.isSome = b := ⟨_, rfl⟩
   rw [hX, hY, hbs] at K1 K2
   clear hX hY hbs R2 Q2
   go_wp2_with fail
   (with_reducible refine Calls.mono K1.out ?_)
   rintro e w10 ⟨rfl, hB10⟩
   clear K1
   go_upto_region 15 with fail
   have hal := hB10.trans (((Below.refl _ w10).alloc (Nat.le_refl _) (.cells #[.int .i64 (X : Nat), .int .i64 (Y : Nat)] 46)).mono hB10.size)
   have bA := Blk.new' w10 #[.int .i64 (X : Nat), .int .i64 (Y : Nat)] 46
   have hp14 : wr.heap.size ≤ w10.heap.size := hB10.size
   generalize w10.alloc (.cells #[.int .i64 (X : Nat), .int .i64 (Y : Nat)] 46) = w11 at *
   generalize w10.heap.size = p14 at *
   have HA := Lib.hid bA
   have HR11 := Lib.hid hal
   have HB11 := Lib.hid (HW2.out.trans (hal.mono HW2.out.size))
   clear hal bA hB10
   have t0 := HX0.out w11 HB11.out
   have t1 := HX1.out w11 HB11.out
   have t2 := HX2.out w11 HB11.out
   have t3 := HX3.out w11 HB11.out
   have t4 := HX4.out w11 HB11.out
   have t5 := HX5.out w11 HB11.out
   have t6 := HX6.out w11 HB11.out
   have t7 := HX7.out w11 HB11.out
   have K3 := Lib.hid (K2.out w11 HB11.out)
   clear K2
   go_wp2_with fail
   (with_reducible refine Calls.mono K3.out ?_)
   rintro e w12 ⟨rfl, hB12⟩
   clear K3 t0 t1 t2 t3 t4 t5 t6 t7
   go_upto_region 16 with fail
   have hal := hB12.trans (((Below.refl _ w12).alloc (Nat.le_refl _) (.cells #[.int .i64 (X : Nat), .int .i64 (Y : Nat)] 46)).mono hB12.size)
   have bB := Blk.new' w12 #[.int .i64 (X : Nat), .int .i64 (Y : Nat)] 46
   have hp16 : wr.heap.size ≤ w12.heap.size := Nat.le_trans HR11.out.size hB12.size
   generalize w12.alloc (.cells #[.int .i64 (X : Nat), .int .i64 (Y : Nat)] 46) = w13 at *
   generalize w12.heap.size = p16 at *
   have HA13 := Lib.hid (HA.out.keep (Keep.of_below hal (fun _ => False)) (by simp))
   have HBb := Lib.hid bB
   have HR13 := Lib.hid (HR11.out.trans (hal.mono HR11.out.size))
   clear hal bB hB12 HA HR11 HB11
   have HB13 := Lib.hid (HW2.out.trans (HR13.out.mono HW2.out.size))
   have HW13 := Lib.hid (HW.out.trans (HR13.out.mono HW.out.size))
   obtain ⟨B1, hbi⟩ := HK.out
   have hb1 : B1 ≤ wr.heap.size := by obtain ⟨_, _, _, _, _, _, _, _, _, _, _, _, _, hz2⟩ := hbi; exact hz2.2
   have HBi := Lib.hid (hbi.later HR13.out)
   have hz4 := HW13.out.size
   have hwz : W.heap.size < w4.heap.size := by have h1 := cell_lt (HX0.out w2 (Below.refl _ _)); have h2 := HB4.out.size; simp only at h1; omega
   clear hbi HK
   have HBy : Hid (∀ y : bookInt.BC w4 w13 B1 w4.heap.size, Below w2.heap.size w2 y.w') := Lib.hid (fun y => HB13.out.trans ((y.below hz4).mono HB4.out.size))
   have HSy : Hid (∀ y : bookInt.BC w4 w13 B1 w4.heap.size, SpsAt y.w' t o ps) := Lib.hid (fun y => HPs.out.below (HW13.out.trans (y.below hz4)))
   have t0 : ∀ y : bookInt.BC w4 w13 B1 w4.heap.size, y.w'.cell? ⟨W.heap.size, 0, none⟩ = some (.slice o0 l0.length c0) := bookInt.BC.cell (HX0.out w13 HB13.out) (Or.inl hwz)
   have t1 : ∀ y : bookInt.BC w4 w13 B1 w4.heap.size, y.w'.cell? ⟨W.heap.size, 1, none⟩ = some (.slice o1 l1.length c1) := bookInt.BC.cell (HX1.out w13 HB13.out) (Or.inl hwz)
   have t2 : ∀ y : bookInt.BC w4 w13 B1 w4.heap.size, y.w'.cell? ⟨W.heap.size, 2, none⟩ = some (.slice o2 l2.length c2) := bookInt.BC.cell (HX2.out w13 HB13.out) (Or.inl hwz)
   have t3 : ∀ y : bookInt.BC w4 w13 B1 w4.heap.size, y.w'.cell? ⟨W.heap.size, 3, none⟩ = some (.slice o3 l3.length c3) := bookInt.BC.cell (HX3.out w13 HB13.out) (Or.inl hwz)
   have t4 : ∀ y : bookInt.BC w4 w13 B1 w4.heap.size, y.w'.cell? ⟨W.heap.size, 4, none⟩ = some (.slice o4 l4.length c4) := bookInt.BC.cell (HX4.out w13 HB13.out) (Or.inl hwz)
   have t5 : ∀ y : bookInt.BC w4 w13 B1 w4.heap.size, y.w'.cell? ⟨W.heap.size, 5, none⟩ = some (.slice o5 l5.length c5) := bookInt.BC.cell (HX5.out w13 HB13.out) (Or.inl hwz)
   have t6 : ∀ y : bookInt.BC w4 w13 B1 w4.heap.size, y.w'.cell? ⟨W.heap.size, 6, none⟩ = some (.slice o6 l6.length c6) := bookInt.BC.cell (HX6.out w13 HB13.out) (Or.inl hwz)
   have t7 : ∀ y : bookInt.BC w4 w13 B1 w4.heap.size, y.w'.cell? ⟨W.heap.size, 7, none⟩ = some (.slice o7 l7.length c7) := bookInt.BC.cell (HX7.out w13 HB13.out) (Or.inl hwz)
   have a0 : ∀ y : bookInt.BC w4 w13 B1 w4.heap.size, y.w'.cell? ⟨p14, 0, none⟩ = some (.int .i64 (X : Nat)) := bookInt.BC.cell (HA13.out.cell 0) (Or.inr (by simp only; omega))
   have a1 : ∀ y : bookInt.BC w4 w13 B1 w4.heap.size, y.w'.cell? ⟨p14, 1, none⟩ = some (.int .i64 (Y : Nat)) := bookInt.BC.cell (HA13.out.cell 1) (Or.inr (by simp only; omega))
   have b0 : ∀ y : bookInt.BC w4 w13 B1 w4.heap.size, y.w'.cell? ⟨p16, 0, none⟩ = some (.int .i64 (X : Nat)) := bookInt.BC.cell (HBb.out.cell 0) (Or.inr (by simp only; omega))
   have b1 : ∀ y : bookInt.BC w4 w13 B1 w4.heap.size, y.w'.cell? ⟨p16, 1, none⟩ = some (.int .i64 (Y : Nat)) := bookInt.BC.cell (HBb.out.cell 1) (Or.inr (by simp only; omega))
   obtain ⟨cb, hcb⟩ : ∃ b, L.contains n = b := ⟨_, rfl⟩
   rw [hcb] at Q3 R3
   clear hcb
   have C1 : Hid (∀ y : bookInt.BC w4 w13 B1 w4.heap.size, Calls Tryz.prog 21 #[.pointer (some ⟨bb, 0, none⟩), .string t, .int .i64 n] y.w' fun e w' => e = .returned (.bool cb) ∧ ∃ z : bookInt.BC w4 w13 B1 w4.heap.size, w' = z.w') := Lib.hid (fun y => bookInt.BC.call (Q3.out y.w' (HBy.out y)))
   have C2 : Hid (∀ y : bookInt.BC w4 w13 B1 w4.heap.size, Calls Tryz.prog 22 #[.agg #[.slice o0 l0.length c0, .slice o1 l1.length c1, .slice o2 l2.length c2, .slice o3 l3.length c3, .slice o4 l4.length c4, .slice o5 l5.length c5, .slice o6 l6.length c6, .slice o7 l7.length c7], .slice o ps.length c, .int .i64 n] y.w' fun e w' => e = .returned (.bool cb) ∧ ∃ z : bookInt.BC w4 w13 B1 w4.heap.size, w' = z.w') := Lib.hid (fun y => bookInt.BC.call (R3.out y.w' (HBy.out y) o c (HSy.out y)))
   have C3 : Hid (∀ y : bookInt.BC w4 w13 B1 w4.heap.size, Calls Tryz.prog 23 #[.pointer (some ⟨bb, 0, none⟩), .string t] y.w' fun e w' => e = .returned (.int .i64 LV) ∧ ∃ z : bookInt.BC w4 w13 B1 w4.heap.size, w' = z.w') := Lib.hid (fun y => bookInt.BC.call (Q4.out y.w' (HBy.out y)))
   have C4 : Hid (∀ y : bookInt.BC w4 w13 B1 w4.heap.size, Calls Tryz.prog 24 #[.agg #[.slice o0 l0.length c0, .slice o1 l1.length c1, .slice o2 l2.length c2, .slice o3 l3.length c3, .slice o4 l4.length c4, .slice o5 l5.length c5, .slice o6 l6.length c6, .slice o7 l7.length c7], .string t] y.w' fun e w' => e = .returned (.int .i64 LV) ∧ ∃ z : bookInt.BC w4 w13 B1 w4.heap.size, w' = z.w') := Lib.hid (fun y => bookInt.BC.call (R4.out y.w' (HBy.out y)))
   have C5 : Hid (∀ y : bookInt.BC w4 w13 B1 w4.heap.size, Calls Tryz.prog 25 #[.pointer (some ⟨w4.heap.size, 0, none⟩), .func (.func 26) #[] #[]] y.w' fun e w' => e = .returned (.bool true) ∧ ∃ z : bookInt.BC w4 w13 B1 w4.heap.size, w' = z.w') := Lib.hid (fun y => y.apart)
   have C6 : Hid (∀ y : bookInt.BC w4 w13 B1 w4.heap.size, Calls Tryz.prog 12 #[] y.w' fun e w' => e = .returned (.bool true) ∧ ∃ z : bookInt.BC w4 w13 B1 w4.heap.size, w' = z.w') := Lib.hid (fun y => bookInt.BC.call (Q5.out y.w' (HBy.out y)))
   have e1 : (cb == cb) = true := by simp
   have e2 : (LV == LV) = true := by simp
   have e3 : (bs == bs) = true := by simp
   have e4 : ((X : Int) == (X : Int)) = true := by simp
   have e5 : ((Y : Int) == (Y : Int)) = true := by simp
   have HFin : Hid (∀ y : bookInt.BC w4 w13 B1 w4.heap.size, Below W.heap.size W y.w') := Lib.hid (fun y => HBW.out _ (HBy.out y))
   have hbi := HBi.out
   clear Q3 Q4 Q5 R3 R4 R1 Q1 HX0 HX1 HX2 HX3 HX4 HX5 HX6 HX7 HA13 HBb HSy HBy HR13 HW13 HB13 HW HW2 HPs hz4
   haveI hne : Nonempty (bookInt.BC w4 w13 B1 w4.heap.size) := ⟨bookInt.BC.of hbi⟩
   refine bookInt.wp_region_bc (by kernel_rfl) (by kernel_rfl) hbi ?_
   repeat (first | go_big_quiet_step ((first | (go_at_call 21; (with_reducible exact C1.out _)) | (go_at_call 22; (with_reducible exact C2.out _)) | (go_at_call 23; (with_reducible exact C3.out _)) | (go_at_call 24; (with_reducible exact C4.out _)) | (go_at_call 25; (with_reducible exact C5.out _)) | (go_at_call 12; (with_reducible exact C6.out _)))) | quiet_step ((first | (go_at_call 21; (with_reducible exact C1.out _)) | (go_at_call 22; (with_reducible exact C2.out _)) | (go_at_call 23; (with_reducible exact C3.out _)) | (go_at_call 24; (with_reducible exact C4.out _)) | (go_at_call 25; (with_reducible exact C5.out _)) | (go_at_call 12; (with_reducible exact C6.out _)))))
   refine wpQuiet_nil ?_
   rintro _ ⟨y1, rfl⟩
   go_wp2_with fail
   go_ret
   exact ⟨rfl, HFin.out y1⟩
end Go.Proofs.YtioehfhdoohdmaaGreatDoor.scriptOf
