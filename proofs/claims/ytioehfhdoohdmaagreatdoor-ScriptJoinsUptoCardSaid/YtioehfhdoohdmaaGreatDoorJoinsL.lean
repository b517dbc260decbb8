/- The law ScriptJoins, walked. Printed by gen_joins14.py. -/
import Derived.Test.YtioehfhdoohdmaaGreatDoorKnownA
import Derived.Test.YtioehfhdoohdmaaGreatDoorSpotA
import Derived.Test.YtioehfhdoohdmaaGreatDoorKindsA
namespace Go.Proofs.YtioehfhdoohdmaaGreatDoor.scriptJoins
open Go.RowKit Go.Shelf BigFrame
set_option linter.unusedVariables false
set_option linter.unusedSimpArgs false
theorem take_next {L : List Int} (P : Int → Bool) {i : Nat} (h : i < L.length) : (L.take (i + 1)).filter P = if P L[i] then (L.take i).filter P ++ [L[i]] else (L.take i).filter P := by
  rw [List.take_add_one, List.getElem?_eq_getElem h, List.filter_append]
  cases e : P L[i] <;> simp [e]
set_option maxRecDepth 100000 in
set_option maxHeartbeats 40000000 in
theorem walk (T : Tab) (a : TAddr) (s u : ByteArray) (W : World) (h : TabAt W T a) (hz : Lib.Utf8Tabs 0 1 W) (hr : TabRoom T) (hs : s.size + u.size ≤ 1048576) : Calls Tryz.prog 8 #[.agg (tabCells T a), .string s, .string u] W fun e w' => e = .returned (.bool true) ∧ Below W.heap.size W w' := by
  obtain ⟨hT, HTb, hB, hz0⟩ := box1 h
  obtain ⟨TT, hTT⟩ : ∃ TT : Tab, T = TT := ⟨_, rfl⟩
  have HPo : Hid (∀ (W1 : World), Below W.heap.size W W1 → Calls Tryz.prog 11 #[.agg (tabCells T a)] W1 (OfPost W1 TT)) := Lib.hid (fun W1 h1 => by rw [← hTT]; exact keepOf_any T a W1 (h.below h1) (tabs_below hz h1) hr)
  have HKn : Hid (∀ (W1 : World), Below W.heap.size W W1 → Calls Tryz.prog 12 #[] W1 (fun e w' => e = .returned (.bool true) ∧ Below W1.heap.size W1 w')) := Lib.hid (fun W1 h1 => known_any W1 (tabs_below hz h1))
  have HFit : Hid (upB TT = true → TabFit TT) := Lib.hid (fun hu => by rw [← hTT] at hu ⊢; exact hr.fit (by cases hl : largeB T with | false => rfl | true => simp [upB, hl] at hu))
  have HZ := Lib.hid hz
  obtain ⟨l0, l1, l2, l3, l4, l5, l6, l7⟩ := T
  obtain ⟨o0, o1, o2, o3, o4, o5, o6, o7, c0, c1, c2, c3, c4, c5, c6, c7⟩ := a
  simp only [tabCells] at hT HTb hB hz0 HPo ⊢
  obtain ⟨W0, hW0⟩ : ∃ W0, (W.alloc (.cells #[.slice o0 l0.length c0, .slice o1 l1.length c1, .slice o2 l2.length c2, .slice o3 l3.length c3, .slice o4 l4.length c4, .slice o5 l5.length c5, .slice o6 l6.length c6, .slice o7 l7.length c7] 28)) = W0 := ⟨_, rfl⟩
  rw [hW0] at hT HTb hB hz0
  have HW0 := Lib.hid hW0
  have HB := Lib.hid hB
  have t0 := HTb 0 (.slice o0 l0.length c0) rfl
  have t1 := HTb 1 (.slice o1 l1.length c1) rfl
  have t2 := HTb 2 (.slice o2 l2.length c2) rfl
  have t3 := HTb 3 (.slice o3 l3.length c3) rfl
  have t4 := HTb 4 (.slice o4 l4.length c4) rfl
  have t5 := HTb 5 (.slice o5 l5.length c5) rfl
  have t6 := HTb 6 (.slice o6 l6.length c6) rfl
  have t7 := HTb 7 (.slice o7 l7.length c7) rfl
  clear hT HTb hB hz0 h hW0 hz hr hTT
  go_enter Tryz.func8, Tryz.ntmps8
  go_wp2_with fail
  rw [HW0.out]
  clear HW0
  (with_reducible refine Calls.mono (HPo.out _ HB.out) ?_)
  rintro e w2 ⟨hB2, hrest⟩
  clear HPo t0 t1 t2 t3 t4 t5 t6 t7
  have HB2 := Lib.hid (HB.out.trans (hB2.mono HB.out.size))
  clear hB2
  rcases hrest with ⟨hu, rfl⟩ | ⟨hu, bb, B, rfl, hbk, _⟩
  · clear hu HFit
    go_wp2_with fail
    (with_reducible refine Calls.mono (HKn.out _ HB2.out) ?_)
    rintro e w3 ⟨rfl, hB3⟩
    have HB3 := Lib.hid (HB2.out.trans (hB3.mono HB2.out.size))
    clear hB3 HKn
    go_wp2_with fail
    go_ret
    exact ⟨rfl, HB3.out⟩
  have HFt := Lib.hid (HFit.out hu)
  have HBk : Hid (∀ W1, Below w2.heap.size w2 W1 → BookAt W1 bb B TT) := Lib.hid (fun W1 h1 => hbk.below h1)
  have HBW : Hid (∀ W1, Below w2.heap.size w2 W1 → Below W.heap.size W W1) := Lib.hid (fun W1 h1 => HB2.out.trans (h1.mono HB2.out.size))
  clear hu hbk HFit HB
  have HTb : Hid (∀ W1, Below w2.heap.size w2 W1 → Lib.Utf8Tabs 0 1 W1) := Lib.hid (fun W1 h1 => tabs_below HZ.out (HBW.out _ h1))
  have HKn2 : Hid (∀ (W1 : World), Below w2.heap.size w2 W1 → Calls Tryz.prog 12 #[] W1 (fun e w' => e = .returned (.bool true) ∧ Below w2.heap.size w2 w')) := Lib.hid (fun W1 h1 => (HKn.out W1 (HBW.out _ h1)).mono fun e w' hh => ⟨hh.1, h1.trans (hh.2.mono h1.size)⟩)
  have HStop : Hid (∀ (x : ByteArray) (W1 : World), x.size ≤ 1048576 → Below w2.heap.size w2 W1 → Calls Tryz.prog 19 #[.pointer (some ⟨bb, 0, none⟩), .string x] W1 (fun e w' => e = .returned (stopV (stopN TT x)) ∧ Below w2.heap.size w2 w')) := Lib.hid (fun x W1 hx h1 => (sstop_any TT bb B x W1 (HBk.out _ h1) HFt.out hx).mono fun e w' hh => ⟨hh.1, h1.trans (hh.2.mono h1.size)⟩)
  have HSof : Hid (∀ (x : ByteArray) (W1 : World), x.size ≤ 1048576 → Below w2.heap.size w2 W1 → Calls Tryz.prog 15 #[.pointer (some ⟨bb, 0, none⟩), .string x] W1 (fun e w' => ∃ (g c : Nat), e = .returned (.slice (some ⟨g, 0, none⟩) (foldO TT x (places x)).length c) ∧ w'.ownsRow W1.heap.size 3 1 (.slice (some ⟨g, 0, none⟩) (foldO TT x (places x)).length c) (foldO TT x (places x)).length (iV (foldO TT x (places x))) ∧ Below w2.heap.size w2 w' ∧ Below W1.heap.size W1 w')) := Lib.hid (fun x W1 hx h1 => (sof_any TT bb B x W1 (HBk.out _ h1) HFt.out hx).mono fun e w' hh => by obtain ⟨g, c, he, ho, hb⟩ := hh; exact ⟨g, c, he, ho, h1.trans (hb.mono h1.size), hb⟩)
  have HLn : Hid (∀ x : ByteArray, (foldO TT x (places x)).length ≤ 1048576) := Lib.hid (fun x => Nat.le_trans (foldO_len TT x _) HFt.out.l0)
  have HBk0 := HBk
  clear HKn HBk
  have hs1 : s.size ≤ 1048576 := by omega
  have hs2 : u.size ≤ 1048576 := by omega
  have hs3 : (s ++ u).size ≤ 1048576 := by rw [ByteArray.size_append]; exact hs
  have hj := joins_any s u w2 hs1 hs2 (HTb.out _ (Below.refl _ _))
  have HJ := Lib.hid hj
  clear hj
  go_wp2_with fail
  (with_reducible refine Calls.mono HJ.out ?_)
  rintro e w3 ⟨b, rfl, hb, hB3⟩
  have HBt := Lib.hid hb
  have HB3 := Lib.hid hB3
  clear HJ hb hB3
  cases b with
  | false =>
    go_wp2_with fail
    (with_reducible refine Calls.mono (HKn2.out w3 HB3.out) ?_)
    rintro e w12 ⟨rfl, hB12⟩
    have HB12 := Lib.hid (HBW.out _ hB12)
    clear hB12
    go_wp2_with fail
    go_ret
    exact ⟨rfl, HB12.out⟩
  | true =>
    have HLaw := Lib.hid (joins_law TT s u (HBt.out rfl))
    have Q1 := Lib.hid (HSof.out s w3 hs1 HB3.out)
    have Q2 := Lib.hid (fun W1 h1 => HSof.out u W1 hs2 h1)
    have Q3 := Lib.hid (fun W1 h1 => HSof.out (s ++ u) W1 hs3 h1)
    rw [HLaw.out] at Q3
    have HL1 := Lib.hid (HLn.out s)
    have HL2 := Lib.hid (HLn.out u)
    generalize foldO TT s (places s) = L1 at *
    generalize foldO TT u (places u) = L2 at *
    clear HLaw HSof HLn HStop HBt
    go_wp2_with fail
    (with_reducible refine Calls.mono Q1.out ?_)
    rintro e w4 ⟨g1, d1, rfl, ho1, hB4, _⟩
    have HO1 := Lib.hid ho1
    have HB4 := Lib.hid hB4
    clear ho1 hB4 Q1 HB3
    go_wp2_with fail
    (with_reducible refine Calls.mono (Q2.out w4 HB4.out) ?_)
    rintro e w5 ⟨g2, d2, rfl, ho2, hB5, hB5b⟩
    have hdd : L1.length ≤ d1 ∧ d1 ≤ 9223372036854775807 := by
      obtain ⟨o, c, hv, h1, h2, _⟩ := own_rd HO1.out
      simp only [Value.slice.injEq] at hv
      obtain ⟨_, _, rfl⟩ := hv
      exact ⟨h1, h2⟩
    have HR1 := Lib.hid ((own_rd' HO1.out).below hB5b)
    have HR2 := Lib.hid (own_rd' ho2)
    have HB5 := Lib.hid hB5
    clear ho2 hB5 hB5b Q2 HO1 HB4
    have HNx := Lib.hid (fun i (h : i < L1.length) => take_next (fun n => L2.contains n) h)
    have HF0 : Hid ((L1.take L1.length).filter (fun n => L2.contains n) = L1.filter fun n => L2.contains n) := Lib.hid (by rw [List.take_length])
    have HFl : Hid (∀ i, ((L1.take i).filter (fun n => L2.contains n)).length ≤ 1048576) := Lib.hid (fun i => by have h1 := List.length_filter_le (fun n => L2.contains n) (L1.take i); have h2 := List.length_take_le i L1; have h3 := List.length_take_le' i L1; have h4 := HL1.out; omega)
    obtain ⟨i0_, hi_, hz0, hz1, hz2⟩ := info_parts info_int
    have HI := Lib.hid (And.intro hi_ (And.intro hz0 (And.intro hz1 hz2)))
    clear hi_ hz0 hz1 hz2
    go_wp2_with fail
    obtain ⟨y, hy⟩ : ∃ y : WC w5, y.w = w5 := ⟨WC.of w5, rfl⟩
    have HS0 : Hid (y.w.ownsRow w5.heap.size 3 1 (.slice none 0 0) ((L1.take 0).filter (fun n => L2.contains n)).length (iV ((L1.take 0).filter (fun n => L2.contains n)))) := Lib.hid (own_nil _ _ _ _)
    go_loopw [12, 13] (fun v12 v13 wr => ∃ (i : Nat) (y : WC w5), v13 = .int .i64 i ∧ i ≤ L1.length ∧ wr = y.w ∧ Hid (y.w.ownsRow w5.heap.size 3 1 v12 ((L1.take i).filter (fun n => L2.contains n)).length (iV ((L1.take i).filter (fun n => L2.contains n))))) (fun _ v13 _ => L1.length - (intOf v13).toNat)
    case atStart => exact ⟨0, y, rfl, Nat.zero_le _, hy.symm, HS0⟩
    case round =>
      obtain ⟨i, y, rfl, hi, rfl, hown⟩ := hrel
      have i0 : (0 : Int) ≤ (i : Int) := Int.natCast_nonneg _
      by_cases hlt : i < L1.length
      · have i1 : (i : Int) < (L1.length : Int) := by omega
        have hnx := HNx.out i hlt
        obtain ⟨g, off, ho, hc1⟩ := iV_row (HR1.out.below y.h) hlt
        cases ho
        rw [Nat.zero_add] at hc1
        obtain ⟨x, hx⟩ : ∃ x, L1[i] = x := ⟨_, rfl⟩
        rw [hx] at hnx hc1
        have hrx : Rd y.w (some ⟨g1, i, none⟩) (iV [x]) := fun j v hj => by
          cases j with
          | zero => cases hj; exact ⟨g1, i, rfl, hc1⟩
          | succ j => simp at hj
        have hwt := fun c => within14_any (some ⟨g1, i, none⟩) (some ⟨g2, 0, none⟩) c d2 [x] L2 y.w hrx (HR2.out.below y.h) (by simp) HL2.out
        obtain ⟨q, hq⟩ : ∃ q, L2.contains x = q := ⟨_, rfl⟩
        simp only [inAll_one, hq] at hwt hnx
        have HWt := Lib.hid hwt
        have HNxt := Lib.hid hnx
        clear hwt hnx hrx hq hx
        cases q with
        | false =>
          have HN2 : Hid ((L1.take (i + 1)).filter (fun n => L2.contains n) = (L1.take i).filter (fun n => L2.contains n)) := Lib.hid HNxt.out
          go_wp2_with fail
          (with_reducible refine Calls.mono (HWt.out _) ?_)
          rintro e w' ⟨rfl, k, rfl⟩
          have hown1 := own_later hown.out (drewN_below y.w k)
          obtain ⟨y1, hy1⟩ : ∃ z : WC w5, z.w = y.w.drewN k := ⟨⟨y.w.drewN k, y.h.trans ((drewN_below y.w k).mono y.h.size)⟩, rfl⟩
          rw [← hy1] at hown1 ⊢
          have HOw := Lib.hid hown1
          have hc2 : y1.w.cell? ⟨g1, i, none⟩ = some (.int .i64 x) := by rw [hy1]; exact hc1
          clear hown1 hown hy1 hc1
          go_wp2_with fail
          exact ⟨⟨i + 1, y1, by go_num, by omega, rfl, Lib.hid (by rw [HN2.out]; exact HOw.out)⟩, by simp [intOf]; omega⟩
        | true =>
          have HN2 : Hid ((L1.take (i + 1)).filter (fun n => L2.contains n) = (L1.take i).filter (fun n => L2.contains n) ++ [x]) := Lib.hid HNxt.out
          go_wp2_with fail
          (with_reducible refine Calls.mono (HWt.out _) ?_)
          rintro e w' ⟨rfl, k, rfl⟩
          have hown1 := own_later hown.out (drewN_below y.w k)
          obtain ⟨y1, hy1⟩ : ∃ z : WC w5, z.w = y.w.drewN k := ⟨⟨y.w.drewN k, y.h.trans ((drewN_below y.w k).mono y.h.size)⟩, rfl⟩
          rw [← hy1] at hown1 ⊢
          have HOw := Lib.hid hown1
          have hc2 : y1.w.cell? ⟨g1, i, none⟩ = some (.int .i64 x) := by rw [hy1]; exact hc1
          clear hown1 hown hy1 hc1
          have hln := HFl.out i
          obtain ⟨acc, hacc⟩ : ∃ acc, (L1.take i).filter (fun n => L2.contains n) = acc := ⟨_, rfl⟩
          rw [hacc] at HN2 HOw hln
          have hown2 := HOw.out
          have hz := y1.h.size
          obtain ⟨hq, hq0, hq1, hq2⟩ := HI.out
          clear hacc
          go_wp2_with (at_builtin; refine wpList_append_own _ rfl _ _ 40 rfl w5.heap.size 3 i0_ _ 1 8 Tryz.underlying40 hq hq0 hq1 hq2 rfl (by decide) _ acc.length (iV acc) rfl (hown2.alloc _) ⟨y1.w.heap.size, 0, none⟩ 1 1 [.int .i64 x] rfl rfl (new_cells _ _ (by simp) [.int .i64 x] _) (by simp [Value.oneCell']) (by unfold maxLen; omega) (by omega) (by simp at hz ⊢; omega) ?_; intro v' w4 hown' hgrow _)
          have hB5 : Below w5.heap.size w5 w4 := by
            refine (y1.h.alloc y1.h.size (.cells [.int .i64 x].toArray 3)).grown hgrow (by simp at hz ⊢; omega) (fun k e => by have := (hown2.lt k e).1; omega)
          exact ⟨⟨i + 1, ⟨w4, hB5⟩, by go_num, by omega, rfl, Lib.hid (by rw [HN2.out]; exact int_snoc hown')⟩, by simp [intOf]; omega⟩
      · obtain rfl : i = L1.length := by omega
        have hown1 := hown.out
        rw [HF0.out] at hown1
        obtain ⟨o3, d3, hv, h1, h2, h3, h4⟩ := own_rd hown1
        obtain rfl := hv
        have HRd := Lib.hid h3
        have HLf : Hid ((L1.filter fun n => L2.contains n).length ≤ 1048576) := Lib.hid (Nat.le_trans (List.length_filter_le _ _) HL1.out)
        generalize (L1.filter fun n => L2.contains n) = F at *
        clear hown hown1 h1 h2 h3 h4 hi hlt i0
        have K3 := Lib.hid (Q3.out y.w (HB5.out.trans (y.h.mono HB5.out.size)))
        clear Q3
        go_wp2_with fail
        (with_reducible refine Calls.mono K3.out ?_)
        rintro e w6 ⟨g3, d4, rfl, ho3, hB6, hB6b⟩
        have hsm := sameI_any (some ⟨g3, 0, none⟩) o3 d4 d3 F F w6 (own_rd' ho3) (HRd.out.below hB6b) HLf.out HLf.out
        simp only [BEq.rfl] at hsm
        have HSm := Lib.hid hsm
        have HB6 := Lib.hid hB6
        clear hsm ho3 hB6 hB6b K3
        go_wp2_with fail
        (with_reducible refine Calls.mono HSm.out ?_)
        rintro e w' ⟨rfl, k, rfl⟩
        have HB7 := Lib.hid (HB6.out.trans ((drewN_below w6 k).mono HB6.out.size))
        clear HSm HB6
        generalize w6.drewN k = w7 at *
        go_wp2_with fail
        (with_reducible refine Calls.mono (HKn2.out w7 HB7.out) ?_)
        rintro e w12 ⟨rfl, hB12⟩
        have HB12 := Lib.hid (HBW.out _ hB12)
        clear hB12
        go_wp2_with fail
        go_ret
        exact ⟨rfl, HB12.out⟩
end Go.Proofs.YtioehfhdoohdmaaGreatDoor.scriptJoins
