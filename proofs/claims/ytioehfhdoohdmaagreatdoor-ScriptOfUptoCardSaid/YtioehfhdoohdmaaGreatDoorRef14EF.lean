/- Ref14EF: Ref14E, Ref14F, Few14. -/
import Derived.Test.YtioehfhdoohdmaaGreatDoorRef14
import Derived.Test.YtioehfhdoohdmaaGreatDoorScrA
import Derived.Test.YtioehfhdoohdmaaGreatDoorScrLevel
import Derived.Test.YtioehfhdoohdmaaGreatDoorKindsA
set_option linter.unusedVariables false
set_option linter.unusedSimpArgs false
namespace Go.Proofs.YtioehfhdoohdmaaGreatDoor
open Go.RowKit Go.Shelf BigFrame
theorem take_snoc {α : Type} {l : List α} {i : Nat} (h : i < l.length) : l.take (i + 1) = l.take i ++ [l[i]] := by rw [List.take_add_one, List.getElem?_eq_getElem h]; rfl
theorem sps_take {W : World} {s : ByteArray} {o : Option Addr} {ps : List (Pl s)} (h : SpsAt W s o ps) (k : Nat) : SpsAt W s o (ps.take k) := fun j u hj => by
 refine h j u ?_
 rw [← List.take_append_drop k ps, List.flatMap_append, List.getElem?_append_left (List.getElem?_eq_some_iff.1 hj).1]
 exact hj
theorem own4_rd {W : World} {base : Nat} {e : TypeId} {v : Value} {n : Nat} {xs : List Value} (h : W.ownsRow base e 4 v n xs) : ∃ (o : Option Addr) (c : Nat), v = .slice o n c ∧ n ≤ c ∧ c ≤ maxLen ∧ Rd W o xs ∧ (∀ a, o = some a → base ≤ a.block ∧ a.block < W.heap.size ∧ a.off = 0 ∧ a.spot = none) := by
 obtain ⟨hl, h⟩ := h
 rcases h with ⟨rfl, h0⟩ | ⟨g, cap, cur, rfl, h0, hg, h1, h2, h3, h4⟩
 ·subst h0
  refine ⟨none, 0, rfl, Nat.le_refl _, Nat.zero_le _, fun j u hj => ?_, fun a ha => by cases ha⟩
  have : xs = [] := List.eq_nil_of_length_eq_zero (by omega)
  subst this
  cases hj
 ·refine ⟨some ⟨g, 0, none⟩, cap, rfl, h1, h2, fun j u hj => ⟨g, 0, rfl, ?_⟩, fun a ha => by cases ha; exact ⟨h0, lt_of_block hg, rfl, rfl⟩⟩
  have hj2 := (List.getElem?_eq_some_iff.1 hj).1
  rw [← h4, List.getElem?_take_of_lt (by omega)] at hj
  simp only [World.cell?, hg]
  simpa using hj
theorem stop_yes {T : Tab} {s : ByteArray} {ps : List (Pl s)} (hps : places s = ps) {i : Nat} (hi : i < ps.length) (hN : NoStop T s (ps.take i)) (hm : mixB T s (ps.take (i + 1)) = true) : stopN T s = some ((ps[i]'hi).1, i) := by
 rw [take_snoc hi, mix_snoc T s _ _ (noStop_mixB T s _ hN)] at hm
 simp only [Bool.and_eq_true, Bool.not_eq_true'] at hm
 have := stop_at T s (ps.take i) (ps.drop (i + 1)) ps[i] hN (by rw [hps, ← List.drop_eq_getElem_cons hi, List.take_append_drop]) hm.1 hm.2
 rw [this, List.length_take, Nat.min_eq_left (by omega)]
theorem stop_no {T : Tab} {s : ByteArray} {ps : List (Pl s)} {i : Nat} (hi : i < ps.length) (hN : NoStop T s (ps.take i)) (hm : mixB T s (ps.take (i + 1)) = false) : NoStop T s (ps.take (i + 1)) := by
 rw [take_snoc hi, mix_snoc T s _ _ (noStop_mixB T s _ hN)] at hm
 unfold NoStop
 rw [take_snoc hi, noStop_snoc T s _ _ hN]
 cases hf : freeR T (spR s ps[i]) (spB s ps[i]) with
 | true => rfl
 | false =>
  rw [hf] at hm
  rw [if_neg (by decide), if_neg (by simpa using hm)]
set_option maxRecDepth 100000 in
set_option maxHeartbeats 8000000 in
theorem rstop_any (T : Tab) (a : TAddr) (s : ByteArray) (W : World) (h : TabAt W T a) (hs : s.size ≤ 1048576) (hl : T.scripts.length ≤ 1048576) : Calls Tryz.prog 20 #[.agg (tabCells T a), .string s] W (StopPost W (stopN T s)) := by
 obtain ⟨ps, hps⟩ : ∃ ps, places s = ps := ⟨_, rfl⟩
 have hpl : ps.length ≤ 1048576 := by rw [← hps]; exact Nat.le_trans scan_any_len hs
 obtain ⟨TT, hTT⟩ : ∃ TT : Tab, TT = T := ⟨_, rfl⟩
 obtain ⟨l0, l1, l2, l3, l4, l5, l6, l7⟩ := T
 obtain ⟨o0, o1, o2, o3, o4, o5, o6, o7, c0, c1, c2, c3, c4, c5, c6, c7⟩ := a
 obtain ⟨hT, HTb, hB1, hz⟩ := box1 h
 simp only [tabCells] at hT HTb hB1 hz hl ⊢
 rw [← hTT]
 have hal : Below (W.alloc (.cells #[.slice o0 l0.length c0, .slice o1 l1.length c1, .slice o2 l2.length c2, .slice o3 l3.length c3, .slice o4 l4.length c4, .slice o5 l5.length c5, .slice o6 l6.length c6, .slice o7 l7.length c7] 28)).heap.size (W.alloc (.cells #[.slice o0 l0.length c0, .slice o1 l1.length c1, .slice o2 l2.length c2, .slice o3 l3.length c3, .slice o4 l4.length c4, .slice o5 l5.length c5, .slice o6 l6.length c6, .slice o7 l7.length c7] 28)) ((W.alloc (.cells #[.slice o0 l0.length c0, .slice o1 l1.length c1, .slice o2 l2.length c2, .slice o3 l3.length c3, .slice o4 l4.length c4, .slice o5 l5.length c5, .slice o6 l6.length c6, .slice o7 l7.length c7] 28)).alloc (.cells #[.int .i64 0, .int .i64 0] 46)) := (Below.refl _ _).alloc (Nat.le_refl _) _
 have bP := Blk.new' (W.alloc (.cells #[.slice o0 l0.length c0, .slice o1 l1.length c1, .slice o2 l2.length c2, .slice o3 l3.length c3, .slice o4 l4.length c4, .slice o5 l5.length c5, .slice o6 l6.length c6, .slice o7 l7.length c7] 28)) #[.int .i64 0, .int .i64 0] 46
 simp only [World.size_alloc] at bP
 have hT0 := hT.below hal
 have HTb0 := fun k v hv => cell_bel hal (HTb k v hv)
 have hB0 := hB1.trans (hal.mono hB1.size)
 obtain ⟨W0, hW0⟩ : ∃ W0, (W.alloc (.cells #[.slice o0 l0.length c0, .slice o1 l1.length c1, .slice o2 l2.length c2, .slice o3 l3.length c3, .slice o4 l4.length c4, .slice o5 l5.length c5, .slice o6 l6.length c6, .slice o7 l7.length c7] 28)).alloc (.cells #[.int .i64 0, .int .i64 0] 46) = W0 := ⟨_, rfl⟩
 rw [hW0] at bP hT0 HTb0 hB0
 have HW0 := Lib.hid hW0
 have HB := Lib.hid hB0
 have HP := Lib.hid bP
 have HT0 := Lib.hid hT0
 have HTc := Lib.hid HTb0
 have HSt : Hid (∀ i (hi : i < ps.length), NoStop TT s (ps.take i) → mixB TT s (ps.take (i + 1)) = true → stopN TT s = some ((ps[i]'hi).1, i)) := Lib.hid (fun i hi hN hm => stop_yes hps hi hN hm)
 have HSn : Hid (∀ i (hi : i < ps.length), NoStop TT s (ps.take i) → mixB TT s (ps.take (i + 1)) = false → NoStop TT s (ps.take (i + 1))) := Lib.hid (fun i hi hN hm => stop_no hi hN hm)
 have HSe : Hid (NoStop TT s ps → stopN TT s = none) := Lib.hid (fun hN => by unfold stopN; rw [hps]; exact hN)
 have hsp := rspots_any s W0 hs
 unfold SpotsPost at hsp
 rw [hps] at hsp
 have HSp := Lib.hid hsp
 have HN0 : Hid (NoStop TT s (ps.take 0)) := Lib.hid rfl
 have HMk : Hid (∀ (W1 : World), Below W0.heap.size W0 W1 → ∀ (o : Option Addr) (k c : Nat), k ≤ ps.length → SpsAt W1 s o ps → Calls Tryz.prog 53 #[.agg #[.slice o0 l0.length c0, .slice o1 l1.length c1, .slice o2 l2.length c2, .slice o3 l3.length c3, .slice o4 l4.length c4, .slice o5 l5.length c5, .slice o6 l6.length c6, .slice o7 l7.length c7], .slice o k c] W1 fun e w' => e = .returned (.bool (mixB TT s (ps.take k))) ∧ Below W1.heap.size W1 w') := Lib.hid (fun W1 h1 o k c hk hsp => by
  have hlk : (ps.take k).length = k := by rw [List.length_take]; omega
  have := rmixed_any ⟨l0, l1, l2, l3, l4, l5, l6, l7⟩ ⟨o0, o1, o2, o3, o4, o5, o6, o7, c0, c1, c2, c3, c4, c5, c6, c7⟩ s (ps.take k) o c W1 (HT0.out.below h1) (sps_take hsp k) (by omega) hl
  rw [hlk] at this; rw [hTT]; exact this)
 clear hT HTb hB1 hz h hal bP hT0 HTb0 hB0 hW0 hsp hps hTT
 obtain ⟨sv, hsv⟩ : ∃ v, stopN TT s = v := ⟨_, rfl⟩
 rw [hsv] at HSt HSe ⊢
 clear hsv
 go_enter Tryz.func20, Tryz.ntmps20
 go_wp2_with fail
 rw [HW0.out]
 clear HW0
 (with_reducible refine Calls.mono HSp.out ?_)
 rintro e W1 ⟨v, rfl, ho, hB2⟩
 obtain ⟨o, c, rfl, hnc, hcm, hrd, _⟩ := own4_rd ho
 have HPs : Hid (SpsAt W1 s o ps) := Lib.hid hrd
 have HB2 := Lib.hid hB2
 have HBW := Lib.hid (HB.out.trans (hB2.mono HB.out.size))
 have t0 : ∀ y : WC W1, y.w.cell? ⟨W.heap.size, 0, none⟩ = some (.slice o0 l0.length c0) := WC.cell (cell_bel hB2 (HTc.out 0 (.slice o0 l0.length c0) rfl))
 have t1 : ∀ y : WC W1, y.w.cell? ⟨W.heap.size, 1, none⟩ = some (.slice o1 l1.length c1) := WC.cell (cell_bel hB2 (HTc.out 1 (.slice o1 l1.length c1) rfl))
 have t2 : ∀ y : WC W1, y.w.cell? ⟨W.heap.size, 2, none⟩ = some (.slice o2 l2.length c2) := WC.cell (cell_bel hB2 (HTc.out 2 (.slice o2 l2.length c2) rfl))
 have t3 : ∀ y : WC W1, y.w.cell? ⟨W.heap.size, 3, none⟩ = some (.slice o3 l3.length c3) := WC.cell (cell_bel hB2 (HTc.out 3 (.slice o3 l3.length c3) rfl))
 have t4 : ∀ y : WC W1, y.w.cell? ⟨W.heap.size, 4, none⟩ = some (.slice o4 l4.length c4) := WC.cell (cell_bel hB2 (HTc.out 4 (.slice o4 l4.length c4) rfl))
 have t5 : ∀ y : WC W1, y.w.cell? ⟨W.heap.size, 5, none⟩ = some (.slice o5 l5.length c5) := WC.cell (cell_bel hB2 (HTc.out 5 (.slice o5 l5.length c5) rfl))
 have t6 : ∀ y : WC W1, y.w.cell? ⟨W.heap.size, 6, none⟩ = some (.slice o6 l6.length c6) := WC.cell (cell_bel hB2 (HTc.out 6 (.slice o6 l6.length c6) rfl))
 have t7 : ∀ y : WC W1, y.w.cell? ⟨W.heap.size, 7, none⟩ = some (.slice o7 l7.length c7) := WC.cell (cell_bel hB2 (HTc.out 7 (.slice o7 l7.length c7) rfl))
 have hP1 := HP.out.keep (Keep.of_below hB2 (fun _ => False)) (by simp)
 have HP1 := Lib.hid hP1
 have r0 : ∀ y : WC W1, y.w.cell? ⟨W.heap.size + 1, 0, none⟩ = some (.int .i64 0) := WC.cell (hP1.cell 0)
 have f0 : ∀ y : WC W1, y.w.frozen? ⟨W.heap.size + 1, 0, none⟩ = false := WC.frozen (hP1.cell 0) (hP1.frozen 0)
 have r1 : ∀ y : WC W1, y.w.cell? ⟨W.heap.size + 1, 1, none⟩ = some (.int .i64 0) := WC.cell (hP1.cell 1)
 have f1 : ∀ y : WC W1, y.w.frozen? ⟨W.heap.size + 1, 1, none⟩ = false := WC.frozen (hP1.cell 1) (hP1.frozen 1)
 have HMx : Hid (∀ (k : Nat), k ≤ ps.length → ∀ (y : WC W1), Calls Tryz.prog 53 #[.agg #[.slice o0 l0.length c0, .slice o1 l1.length c1, .slice o2 l2.length c2, .slice o3 l3.length c3, .slice o4 l4.length c4, .slice o5 l5.length c5, .slice o6 l6.length c6, .slice o7 l7.length c7], .slice o k c] y.w fun e w' => e = .returned (.bool (mixB TT s (ps.take k))) ∧ ∃ z : WC W1, w' = z.w) := Lib.hid (fun k hk y => WC.call (HMk.out y.w (HB2.out.trans (y.h.mono HB2.out.size)) o k c hk (HPs.out.below y.h)))
 clear hrd ho hB2 hP1 HSp HMk HTc HT0 HB HP
 have hcm2 : c ≤ 9223372036854775807 := hcm
 obtain ⟨y, hy⟩ : ∃ y : WC W1, y.w = W1 := ⟨WC.of W1, rfl⟩
 go_wp2_with fail
 go_loopw [7] (fun v7 wr => ∃ (i : Nat) (y : WC W1), v7 = .int .i64 i ∧ i ≤ ps.length ∧ Hid (NoStop TT s (ps.take i)) ∧ wr = y.w) (fun v7 _ => ps.length - (intOf v7).toNat)
 case atStart => exact ⟨0, y, rfl, Nat.zero_le _, HN0, hy.symm⟩
 case round =>
  obtain ⟨i, y, rfl, hi, HN, rfl⟩ := hrel
  have i0 : (0 : Int) ≤ (i : Int) := Int.natCast_nonneg _
  by_cases hlt : i < ps.length
  ·have i1 : (i : Int) < (ps.length : Int) := by omega
   obtain ⟨g, off, ho, _, q1, _, _⟩ := SpsAt.row HPs.out hlt
   subst ho
   have e1 := fun y : WC W1 => y.cell q1
   clear q1
   have ic : (i : Int) + 1 ≤ (c : Int) := by omega
   have hst := HSt.out i hlt HN.out
   have hsn := HSn.out i hlt HN.out
   have K0 := Lib.hid (HMx.out (i + 1) hlt)
   obtain ⟨mb, hmb⟩ : ∃ b, mixB TT s (ps.take (i + 1)) = b := ⟨_, rfl⟩
   rw [hmb] at hst hsn K0
   have HST := Lib.hid hst
   have HSN := Lib.hid hsn
   clear hst hsn hmb
   go_upto_region 5 with fail
   cases mb with
   | false =>
    have HN2 := Lib.hid (HSN.out rfl)
    refine wp_region_wc (W0 := W1) (by kernel_rfl) (by kernel_rfl) y.h ?_
    repeat (first | go_big_quiet_step (((go_at_call 53; (with_reducible exact K0.out _)))) | quiet_step (((go_at_call 53; (with_reducible exact K0.out _)))))
    refine wpQuiet_nil ?_
    rintro _ ⟨y1, rfl⟩
    go_wp2_with fail
    exact ⟨⟨i + 1, y1, by go_num, by omega, HN2, by first | rfl | trivial⟩, by simp [intOf]; omega⟩
   | true =>
    have HE := Lib.hid (HST.out rfl)
    refine wp_region_wc (W0 := W1) (by kernel_rfl) (by kernel_rfl) y.h ?_
    repeat (first | go_big_quiet_step (((go_at_call 53; (with_reducible exact K0.out _)))) | quiet_step (((go_at_call 53; (with_reducible exact K0.out _)))))
    refine wpQuiet_nil ?_
    rintro _ ⟨y1, rfl⟩
    go_wp2_with fail
    have k2 := ((HP1.out.keep (Keep.of_below y1.h (fun _ => False)) (by simp)).set 0 (.int .i64 ((ps[i].1 : Nat) : Int))).set 1 (.int .i64 i)
    have s0 := k2.cell 0
    have s1 := k2.cell 1
    simp only [List.set_cons_zero, List.set_cons_succ, List.getElem?_cons_zero, List.getElem?_cons_succ] at s0 s1
    refine bodyPost_ret (v := .tuple #[.agg #[.int .i64 ((ps[i].1 : Nat) : Int), .int .i64 i], .bool true]) (by simp [results, Tryz.results20, go_sem, s0, s1]) rfl ⟨by rw [HE.out]; rfl, ((HBW.out.trans (y1.h.mono HBW.out.size)).setCell (by simp) _).setCell (by simp) _⟩
  ·obtain rfl : i = ps.length := by omega
   have HE := Lib.hid (HSe.out (by have := HN.out; rw [List.take_length] at this; exact this))
   clear HN hi hlt i0
   go_wp2_with fail
   have k2 := ((HP1.out.keep (Keep.of_below y.h (fun _ => False)) (by simp)).set 0 (.int .i64 0)).set 1 (.int .i64 0)
   have s0 := k2.cell 0
   have s1 := k2.cell 1
   simp only [List.set_cons_zero, List.set_cons_succ, List.getElem?_cons_zero, List.getElem?_cons_succ] at s0 s1
   refine bodyPost_ret (v := .tuple #[.agg #[.int .i64 0, .int .i64 0], .bool false]) (by simp [results, Tryz.results20, go_sem, s0, s1]) rfl ⟨by rw [HE.out]; rfl, ((HBW.out.trans (y.h.mono HBW.out.size)).setCell (by simp) _).setCell (by simp) _⟩
end Go.Proofs.YtioehfhdoohdmaaGreatDoor
namespace Go.Proofs.YtioehfhdoohdmaaGreatDoor
open Go.RowKit Go.Shelf BigFrame
def fitL (T : Tab) (s : ByteArray) (x : Pl s) : Bool := freeR T (spR s x) (spB s x) || (List.range T.scripts.length).any (fun n : Nat => boundB T (spR s x) (spB s x) (n : Int))
theorem fitL_eq (T : Tab) (s : ByteArray) (x : Pl s) : fitR T s x = fitL T s x := by
 unfold fitR fitL
 cases hf : freeR T (spR s x) (spB s x) with
 | true => rfl
 | false =>
  rw [Bool.false_or, Bool.false_or]
  cases e : (List.range T.scripts.length).any (fun n : Nat => boundB T (spR s x) (spB s x) (n : Int)) with
  | true =>
   obtain ⟨n, hn, hb⟩ := List.any_eq_true.1 e
   rw [← bdL_has T _ _ n (List.mem_range.1 hn) hf, List.contains_iff_mem] at hb
   have := List.length_pos_of_mem hb
   rw [decide_eq_true_iff]; omega
  | false =>
   rw [decide_eq_false_iff_not]
   intro hl
   cases hB : bdL T (spR s x) (spB s x) with
   | nil => rw [hB] at hl; simp at hl
   | cons k t =>
    have hk : k ∈ bdL T (spR s x) (spB s x) := by rw [hB]; exact List.mem_cons_self
    obtain ⟨j, hj, rfl⟩ : ∃ j : Nat, j < T.scripts.length ∧ k = (j : Int) := by
     unfold bdL at hk
     split at hk
     ·cases hk
     ·split at hk
      ·cases hk
      ·unfold scrL at hk
       obtain ⟨j, hj, rfl⟩ := List.mem_map.1 hk
       exact ⟨j, List.mem_range.1 (List.mem_filter.1 hj).1, rfl⟩
    have h1 := List.contains_iff_mem.2 hk
    rw [bdL_has T _ _ j hj hf] at h1
    have h2 := List.any_eq_false.1 e j (List.mem_range.2 hj)
    exact h2 h1
theorem stop_mix (T : Tab) (s : ByteArray) : (stopN T s).isSome = mixB T s (places s) := by
 cases h : stopN T s with
 | none => exact (noStop_mixB T s (places s) h).symm
 | some v =>
  obtain ⟨p, m⟩ := v
  have h1 := (stops_some T s h).2.2.1
  have h2 := (stop_iff T s).1 (by rw [h]; rfl)
  obtain ⟨pre, k, post, e1, e2, _⟩ := h2
  rw [mixB_fold, h1]
  have h3 : (places s).all (fun x => freeR T (spR s x) (spB s x)) = false := by
   cases e : (places s).all (fun x => freeR T (spR s x) (spB s x)) with
   | false => rfl
   | true =>
    have hk : k ∈ kindsFrom s 0 := by rw [e1]; simp
    unfold kindsFrom at hk
    obtain ⟨x, hx, rfl⟩ := List.mem_map.1 hk
    have := List.all_eq_true.1 e x hx
    have e3 : freeR T (spR s x) (spB s x) = false := e2
    rw [e3] at this; cases this
  rw [h3]; rfl
def levelR (A M F : Bool) : Int := if A then 1 else if !M then 2 else if F then 3 else 4
theorem levelN_eq (T : Tab) (s : ByteArray) : levelN T s = levelR ((places s).all (lowR s)) (mixB T s (places s)) ((places s).all (fitL T s)) := by
 unfold levelN levelR
 rw [stop_mix]
 have : (places s).all (fitR T s) = (places s).all (fitL T s) := by congr 1; funext x; exact fitL_eq T s x
 rw [this]
theorem and_step {a l r A : Bool} (h : (a && (l && r)) = A) : ((a && l) && r) = A := by rw [← h, Bool.and_assoc]
set_option maxRecDepth 100000 in
set_option maxHeartbeats 8000000 in
theorem rlevel_any (T : Tab) (a : TAddr) (s : ByteArray) (W : World) (h : TabAt W T a) (hs : s.size ≤ 1048576) (hl : T.scripts.length ≤ 1048576) : Calls Tryz.prog 24 #[.agg (tabCells T a), .string s] W (LevelPost W (levelN T s)) := by
 rw [levelN_eq]
 obtain ⟨ps, hps⟩ : ∃ ps, places s = ps := ⟨_, rfl⟩
 have hpl : ps.length ≤ 1048576 := by rw [← hps]; exact Nat.le_trans scan_any_len hs
 rw [hps]
 obtain ⟨TT, hTT⟩ : ∃ TT : Tab, TT = T := ⟨_, rfl⟩
 have hlT : TT.scripts.length = T.scripts.length := by rw [hTT]
 obtain ⟨l0, l1, l2, l3, l4, l5, l6, l7⟩ := T
 obtain ⟨o0, o1, o2, o3, o4, o5, o6, o7, c0, c1, c2, c3, c4, c5, c6, c7⟩ := a
 obtain ⟨hT, HTb, hB1, hz⟩ := box1 h
 simp only [tabCells] at hT HTb hB1 hz hl hlT ⊢
 rw [← hTT]
 obtain ⟨W0, hW0⟩ : ∃ W0, (W.alloc (.cells #[.slice o0 l0.length c0, .slice o1 l1.length c1, .slice o2 l2.length c2, .slice o3 l3.length c3, .slice o4 l4.length c4, .slice o5 l5.length c5, .slice o6 l6.length c6, .slice o7 l7.length c7] 28)) = W0 := ⟨_, rfl⟩
 rw [hW0] at hT HTb hB1 hz
 have HW0 := Lib.hid hW0
 have HB := Lib.hid hB1
 have HT0 := Lib.hid hT
 have HTc := Lib.hid HTb
 have hsp := rspots_any s W0 hs
 unfold SpotsPost at hsp
 rw [hps] at hsp
 have HSp := Lib.hid hsp
 obtain ⟨AA, hAA⟩ : ∃ b, ps.all (lowR s) = b := ⟨_, rfl⟩
 obtain ⟨FF, hFF⟩ : ∃ b, ps.all (fitL TT s) = b := ⟨_, rfl⟩
 rw [hAA, hFF]
 have HA0 : Hid ((true && (ps.drop 0).all (lowR s)) = AA) := Lib.hid (by rw [Bool.true_and]; exact hAA)
 have HF0 : Hid ((true && (ps.drop 0).all (fitL TT s)) = FF) := Lib.hid (by rw [Bool.true_and]; exact hFF)
 have HMk : Hid (∀ (W1 : World), Below W0.heap.size W0 W1 → ∀ (o : Option Addr) (c : Nat), SpsAt W1 s o ps → Calls Tryz.prog 53 #[.agg #[.slice o0 l0.length c0, .slice o1 l1.length c1, .slice o2 l2.length c2, .slice o3 l3.length c3, .slice o4 l4.length c4, .slice o5 l5.length c5, .slice o6 l6.length c6, .slice o7 l7.length c7], .slice o ps.length c] W1 fun e w' => e = .returned (.bool (mixB TT s ps)) ∧ Below W1.heap.size W1 w') := Lib.hid (fun W1 h1 o c hsp => by rw [hTT]; exact rmixed_any ⟨l0, l1, l2, l3, l4, l5, l6, l7⟩ ⟨o0, o1, o2, o3, o4, o5, o6, o7, c0, c1, c2, c3, c4, c5, c6, c7⟩ s ps o c W1 (HT0.out.below h1) hsp (by omega) hl)
 have HFk : Hid (∀ (W1 : World), Below W0.heap.size W0 W1 → ∀ (r p k : Int) (bad : Bool), Calls Tryz.prog 55 #[.agg #[.slice o0 l0.length c0, .slice o1 l1.length c1, .slice o2 l2.length c2, .slice o3 l3.length c3, .slice o4 l4.length c4, .slice o5 l5.length c5, .slice o6 l6.length c6, .slice o7 l7.length c7], .agg #[.int .i32 r, .int .i64 p, .int .i64 k, .bool bad]] W1 fun e w' => e = .returned (.bool (freeR TT r bad)) ∧ Below W1.heap.size W1 w') := Lib.hid (fun W1 h1 r p k bad => by rw [hTT]; exact rfree_any _ ⟨o0, o1, o2, o3, o4, o5, o6, o7, c0, c1, c2, c3, c4, c5, c6, c7⟩ r p k bad W1 (HT0.out.below h1))
 have HBk : Hid (∀ (W1 : World), Below W0.heap.size W0 W1 → ∀ (r p k : Int) (bad : Bool) (n : Int), Calls Tryz.prog 56 #[.agg #[.slice o0 l0.length c0, .slice o1 l1.length c1, .slice o2 l2.length c2, .slice o3 l3.length c3, .slice o4 l4.length c4, .slice o5 l5.length c5, .slice o6 l6.length c6, .slice o7 l7.length c7], .agg #[.int .i32 r, .int .i64 p, .int .i64 k, .bool bad], .int .i64 n] W1 fun e w' => e = .returned (.bool (boundB TT r bad n)) ∧ Below W1.heap.size W1 w') := Lib.hid (fun W1 h1 r p k bad n => by rw [hTT]; exact rbound_any _ ⟨o0, o1, o2, o3, o4, o5, o6, o7, c0, c1, c2, c3, c4, c5, c6, c7⟩ r p k bad n W1 (HT0.out.below h1))
 have HLT := Lib.hid hlT
 have hm0 : l0.length ≤ 9223372036854775807 := by omega
 clear hT HTb hB1 hz h hW0 hsp hps hTT hAA hFF hlT
 obtain ⟨MM, hMM⟩ : ∃ b, mixB TT s ps = b := ⟨_, rfl⟩
 rw [hMM] at HMk ⊢
 clear hMM
 go_enter Tryz.func24, Tryz.ntmps24
 go_wp2_with fail
 rw [HW0.out]
 clear HW0
 (with_reducible refine Calls.mono HSp.out ?_)
 rintro e W1 ⟨v, rfl, ho, hB2⟩
 obtain ⟨o, c, rfl, hnc, hcm, hrd, _⟩ := own4_rd ho
 have HPs : Hid (SpsAt W1 s o ps) := Lib.hid hrd
 have HB2 := Lib.hid hB2
 have HBW := Lib.hid (HB.out.trans (hB2.mono HB.out.size))
 have t0 : ∀ y : WC W1, y.w.cell? ⟨W.heap.size, 0, none⟩ = some (.slice o0 l0.length c0) := WC.cell (cell_bel hB2 (HTc.out 0 (.slice o0 l0.length c0) rfl))
 have t1 : ∀ y : WC W1, y.w.cell? ⟨W.heap.size, 1, none⟩ = some (.slice o1 l1.length c1) := WC.cell (cell_bel hB2 (HTc.out 1 (.slice o1 l1.length c1) rfl))
 have t2 : ∀ y : WC W1, y.w.cell? ⟨W.heap.size, 2, none⟩ = some (.slice o2 l2.length c2) := WC.cell (cell_bel hB2 (HTc.out 2 (.slice o2 l2.length c2) rfl))
 have t3 : ∀ y : WC W1, y.w.cell? ⟨W.heap.size, 3, none⟩ = some (.slice o3 l3.length c3) := WC.cell (cell_bel hB2 (HTc.out 3 (.slice o3 l3.length c3) rfl))
 have t4 : ∀ y : WC W1, y.w.cell? ⟨W.heap.size, 4, none⟩ = some (.slice o4 l4.length c4) := WC.cell (cell_bel hB2 (HTc.out 4 (.slice o4 l4.length c4) rfl))
 have t5 : ∀ y : WC W1, y.w.cell? ⟨W.heap.size, 5, none⟩ = some (.slice o5 l5.length c5) := WC.cell (cell_bel hB2 (HTc.out 5 (.slice o5 l5.length c5) rfl))
 have t6 : ∀ y : WC W1, y.w.cell? ⟨W.heap.size, 6, none⟩ = some (.slice o6 l6.length c6) := WC.cell (cell_bel hB2 (HTc.out 6 (.slice o6 l6.length c6) rfl))
 have t7 : ∀ y : WC W1, y.w.cell? ⟨W.heap.size, 7, none⟩ = some (.slice o7 l7.length c7) := WC.cell (cell_bel hB2 (HTc.out 7 (.slice o7 l7.length c7) rfl))
 have HMx : Hid (∀ (y : WC W1), Calls Tryz.prog 53 #[.agg #[.slice o0 l0.length c0, .slice o1 l1.length c1, .slice o2 l2.length c2, .slice o3 l3.length c3, .slice o4 l4.length c4, .slice o5 l5.length c5, .slice o6 l6.length c6, .slice o7 l7.length c7], .slice o ps.length c] y.w fun e w' => e = .returned (.bool MM) ∧ ∃ z : WC W1, w' = z.w) := Lib.hid (fun y => WC.call (HMk.out y.w (HB2.out.trans (y.h.mono HB2.out.size)) o c (HPs.out.below y.h)))
 have HFr : Hid (∀ (r p k : Int) (bad : Bool) (y : WC W1), Calls Tryz.prog 55 #[.agg #[.slice o0 l0.length c0, .slice o1 l1.length c1, .slice o2 l2.length c2, .slice o3 l3.length c3, .slice o4 l4.length c4, .slice o5 l5.length c5, .slice o6 l6.length c6, .slice o7 l7.length c7], .agg #[.int .i32 r, .int .i64 p, .int .i64 k, .bool bad]] y.w fun e w' => e = .returned (.bool (freeR TT r bad)) ∧ ∃ z : WC W1, w' = z.w) := Lib.hid (fun r p k bad y => WC.call (HFk.out y.w (HB2.out.trans (y.h.mono HB2.out.size)) r p k bad))
 have HBd : Hid (∀ (r p k : Int) (bad : Bool) (n : Int) (y : WC W1), Calls Tryz.prog 56 #[.agg #[.slice o0 l0.length c0, .slice o1 l1.length c1, .slice o2 l2.length c2, .slice o3 l3.length c3, .slice o4 l4.length c4, .slice o5 l5.length c5, .slice o6 l6.length c6, .slice o7 l7.length c7], .agg #[.int .i32 r, .int .i64 p, .int .i64 k, .bool bad], .int .i64 n] y.w fun e w' => e = .returned (.bool (boundB TT r bad n)) ∧ ∃ z : WC W1, w' = z.w) := Lib.hid (fun r p k bad n y => WC.call (HBk.out y.w (HB2.out.trans (y.h.mono HB2.out.size)) r p k bad n))
 have hcm2 : c ≤ 9223372036854775807 := hcm
 clear hrd ho hB2 hcm HSp HMk HFk HBk HTc HT0 HB
 obtain ⟨y, hy⟩ : ∃ y : WC W1, y.w = W1 := ⟨WC.of W1, rfl⟩
 go_wp2_with fail
 go_loopw [6, 7, 8, 9] (fun v6 v7 v8 v9 wr => ∃ (i : Nat) (a b : Bool) (y : WC W1), v6 = .bool a ∧ v7 = .bool b ∧ v8 = .int .i64 i ∧ i ≤ ps.length ∧ Hid ((a && (ps.drop i).all (lowR s)) = AA) ∧ Hid ((b && (ps.drop i).all (fitL TT s)) = FF) ∧ wr = y.w) (fun _ _ v8 _ _ => ps.length - (intOf v8).toNat)
 case atStart => exact ⟨0, true, true, y, rfl, rfl, rfl, Nat.zero_le _, HA0, HF0, hy.symm⟩
 case round =>
  clear HA0 HF0
  obtain ⟨i, a, b, y, rfl, rfl, rfl, hi, HA, HF, rfl⟩ := hrel
  have i0 : (0 : Int) ≤ (i : Int) := Int.natCast_nonneg _
  by_cases hlt : i < ps.length
  ·have i1 : (i : Int) < (ps.length : Int) := by omega
   obtain ⟨g, off, ho, q0, q1, q2, q3⟩ := SpsAt.row HPs.out hlt
   subst ho
   have hsa := HA.out
   have hsf := HF.out
   rw [List.drop_eq_getElem_cons hlt, List.all_cons] at hsa hsf
   have hsa := and_step hsa
   have hsf := and_step hsf
   unfold lowR at hsa
   rw [show fitL TT s ps[i] = (freeR TT (spR s ps[i]) (spB s ps[i]) || (List.range TT.scripts.length).any (fun n : Nat => boundB TT (spR s ps[i]) (spB s ps[i]) (n : Int))) from rfl, HLT.out] at hsf
   have e0 := fun y : WC W1 => y.cell q0
   have e1 := fun y : WC W1 => y.cell q1
   have e2 := fun y : WC W1 => y.cell q2
   have e3 := fun y : WC W1 => y.cell q3
   clear q0 q1 q2 q3 HA HF
   change (_ && (ps.drop (i + 1)).all (lowR s)) = AA at hsa
   generalize spR s ps[i] = r at *
   generalize spB s ps[i] = bad at *
   generalize hp1 : ((ps[i].1 : Nat) : Int) = p at *
   generalize ((Utf8.decode s ps[i].1).2 : Int) = k at *
   clear hp1
   have F0 := Lib.hid (HFr.out r p k bad)
   have B0 := Lib.hid (fun n => HBd.out r p k bad n)
   obtain ⟨fr, hfr⟩ : ∃ b, freeR TT r bad = b := ⟨_, rfl⟩
   rw [hfr] at F0 hsf
   have HSA := Lib.hid hsa
   have HSF := Lib.hid hsf
   clear hsa hsf hfr
   by_cases hr : r < 128
   ·have r1 : decide ((128 : Int) ≤ r) = false := by rw [decide_eq_false_iff_not]; omega
    have HA2 : Hid ((a && (ps.drop (i + 1)).all (lowR s)) = AA) := Lib.hid (by have h1 := HSA.out; rw [decide_eq_true hr, Bool.and_true] at h1; exact h1)
    have e0y := e0 y
    go_upto_region 9 with fail
    cases fr with
    | true =>
     have HF2 : Hid ((b && (ps.drop (i + 1)).all (fitL TT s)) = FF) := Lib.hid (by have := HSF.out; simpa using this)
     refine wp_region_wc (W0 := W1) (by kernel_rfl) (by kernel_rfl) y.h ?_
     repeat (first | go_big_quiet_step (((go_at_call 55; (with_reducible exact F0.out _)))) | quiet_step (((go_at_call 55; (with_reducible exact F0.out _)))))
     refine wpQuiet_nil ?_
     rintro _ ⟨y1, rfl⟩
     go_wp2_with fail
     exact ⟨⟨i + 1, a, b, y1, rfl, rfl, by go_num, by omega, HA2, HF2, by first | rfl | trivial⟩, by simp [intOf]; omega⟩
    | false =>
     refine wp_region_wc (W0 := W1) (by kernel_rfl) (by kernel_rfl) y.h ?_
     repeat (first | go_big_quiet_step (((go_at_call 55; (with_reducible exact F0.out _)))) | quiet_step (((go_at_call 55; (with_reducible exact F0.out _)))))
     refine wpQuiet_nil ?_
     rintro _ ⟨y1, rfl⟩
     go_wp2_with fail
     have HN0 : Hid (∀ m : Nat, m < 0 → boundB TT r bad (m : Int) = false) := Lib.hid (fun m hm => absurd hm (Nat.not_lt_zero _))
     go_loopw [9] (fun v9 wr => ∃ (n : Nat) (y : WC W1), v9 = .int .i64 n ∧ n ≤ l0.length ∧ Hid (∀ m : Nat, m < n → boundB TT r bad (m : Int) = false) ∧ wr = y.w) (fun v9 _ => l0.length - (intOf v9).toNat)
     case atStart => exact ⟨0, y1, rfl, Nat.zero_le _, HN0, by first | rfl | trivial⟩
     case round =>
      clear HN0
      obtain ⟨n, y2, rfl, hn, HN, rfl⟩ := hrel
      have n0 : (0 : Int) ≤ (n : Int) := Int.natCast_nonneg _
      by_cases hnl : n < l0.length
      ·have n1 : (n : Int) < (l0.length : Int) := by omega
       have K0 := Lib.hid (B0.out (n : Int))
       obtain ⟨bd, hbd⟩ : ∃ b, boundB TT r bad (n : Int) = b := ⟨_, rfl⟩
       rw [hbd] at K0
       have HBD := Lib.hid hbd
       clear hbd
       go_upto_region 11 with fail
       cases bd with
       | true =>
        have HF2 : Hid ((b && (ps.drop (i + 1)).all (fitL TT s)) = FF) := Lib.hid (by have h1 := HSF.out; rw [show (List.range l0.length).any (fun n : Nat => boundB TT r bad (n : Int)) = true from List.any_eq_true.2 ⟨n, List.mem_range.2 hnl, HBD.out⟩] at h1; simpa using h1)
        have n2 : ((n : Int) == (l0.length : Int)) = false := by rw [beq_eq_false_iff_ne]; omega
        refine wp_region_wc (W0 := W1) (by kernel_rfl) (by kernel_rfl) y2.h ?_
        repeat (first | go_big_quiet_step (((go_at_call 56; (with_reducible exact K0.out _)))) | quiet_step (((go_at_call 56; (with_reducible exact K0.out _)))))
        refine wpQuiet_nil ?_
        rintro _ ⟨y3, rfl⟩
        go_wp2_with fail
        exact ⟨⟨i + 1, a, b, y3, rfl, rfl, by go_num, by omega, HA2, HF2, by first | rfl | trivial⟩, by simp [intOf]; omega⟩
       | false =>
        have HN2 : Hid (∀ m : Nat, m < n + 1 → boundB TT r bad (m : Int) = false) := Lib.hid (fun m hm => by
         by_cases hmn : m = n
         ·subst hmn; exact HBD.out
         ·exact HN.out m (by omega))
        refine wp_region_wc (W0 := W1) (by kernel_rfl) (by kernel_rfl) y2.h ?_
        repeat (first | go_big_quiet_step (((go_at_call 56; (with_reducible exact K0.out _)))) | quiet_step (((go_at_call 56; (with_reducible exact K0.out _)))))
        refine wpQuiet_nil ?_
        rintro _ ⟨y3, rfl⟩
        go_wp2_with fail
        exact ⟨⟨n + 1, y3, by go_num, by omega, HN2, by first | rfl | trivial⟩, by simp [intOf]; omega⟩
      ·obtain rfl : n = l0.length := by omega
       have HF2 : Hid ((false && (ps.drop (i + 1)).all (fitL TT s)) = FF) := Lib.hid (by have h1 := HSF.out; rw [show (List.range l0.length).any (fun n : Nat => boundB TT r bad (n : Int)) = false from List.any_eq_false.2 (fun m hm => by rw [HN.out m (List.mem_range.1 hm)]; decide)] at h1; simpa using h1)
       clear hn hnl n0 HN
       go_upto_region 11 with fail
       have K0 := B0
       refine wp_region_wc (W0 := W1) (by kernel_rfl) (by kernel_rfl) y2.h ?_
       repeat (first | go_big_quiet_step (((go_at_call 56; (with_reducible exact K0.out _)))) | quiet_step (((go_at_call 56; (with_reducible exact K0.out _)))))
       refine wpQuiet_nil ?_
       rintro _ ⟨y3, rfl⟩
       go_wp2_with fail
       exact ⟨⟨i + 1, a, false, y3, rfl, rfl, by go_num, by omega, HA2, HF2, by first | rfl | trivial⟩, by simp [intOf]; omega⟩
   ·have r1 : (128 : Int) ≤ r := by omega
    have HA2 : Hid ((false && (ps.drop (i + 1)).all (lowR s)) = AA) := Lib.hid (by have h1 := HSA.out; rw [decide_eq_false hr, Bool.and_false] at h1; exact h1)
    have e0y := e0 y
    go_upto_region 9 with fail
    cases fr with
    | true =>
     have HF2 : Hid ((b && (ps.drop (i + 1)).all (fitL TT s)) = FF) := Lib.hid (by have := HSF.out; simpa using this)
     refine wp_region_wc (W0 := W1) (by kernel_rfl) (by kernel_rfl) y.h ?_
     repeat (first | go_big_quiet_step (((go_at_call 55; (with_reducible exact F0.out _)))) | quiet_step (((go_at_call 55; (with_reducible exact F0.out _)))))
     refine wpQuiet_nil ?_
     rintro _ ⟨y1, rfl⟩
     go_wp2_with fail
     exact ⟨⟨i + 1, false, b, y1, rfl, rfl, by go_num, by omega, HA2, HF2, by first | rfl | trivial⟩, by simp [intOf]; omega⟩
    | false =>
     refine wp_region_wc (W0 := W1) (by kernel_rfl) (by kernel_rfl) y.h ?_
     repeat (first | go_big_quiet_step (((go_at_call 55; (with_reducible exact F0.out _)))) | quiet_step (((go_at_call 55; (with_reducible exact F0.out _)))))
     refine wpQuiet_nil ?_
     rintro _ ⟨y1, rfl⟩
     go_wp2_with fail
     have HN0 : Hid (∀ m : Nat, m < 0 → boundB TT r bad (m : Int) = false) := Lib.hid (fun m hm => absurd hm (Nat.not_lt_zero _))
     go_loopw [9] (fun v9 wr => ∃ (n : Nat) (y : WC W1), v9 = .int .i64 n ∧ n ≤ l0.length ∧ Hid (∀ m : Nat, m < n → boundB TT r bad (m : Int) = false) ∧ wr = y.w) (fun v9 _ => l0.length - (intOf v9).toNat)
     case atStart => exact ⟨0, y1, rfl, Nat.zero_le _, HN0, by first | rfl | trivial⟩
     case round =>
      clear HN0
      obtain ⟨n, y2, rfl, hn, HN, rfl⟩ := hrel
      have n0 : (0 : Int) ≤ (n : Int) := Int.natCast_nonneg _
      by_cases hnl : n < l0.length
      ·have n1 : (n : Int) < (l0.length : Int) := by omega
       have K0 := Lib.hid (B0.out (n : Int))
       obtain ⟨bd, hbd⟩ : ∃ b, boundB TT r bad (n : Int) = b := ⟨_, rfl⟩
       rw [hbd] at K0
       have HBD := Lib.hid hbd
       clear hbd
       go_upto_region 11 with fail
       cases bd with
       | true =>
        have HF2 : Hid ((b && (ps.drop (i + 1)).all (fitL TT s)) = FF) := Lib.hid (by have h1 := HSF.out; rw [show (List.range l0.length).any (fun n : Nat => boundB TT r bad (n : Int)) = true from List.any_eq_true.2 ⟨n, List.mem_range.2 hnl, HBD.out⟩] at h1; simpa using h1)
        have n2 : ((n : Int) == (l0.length : Int)) = false := by rw [beq_eq_false_iff_ne]; omega
        refine wp_region_wc (W0 := W1) (by kernel_rfl) (by kernel_rfl) y2.h ?_
        repeat (first | go_big_quiet_step (((go_at_call 56; (with_reducible exact K0.out _)))) | quiet_step (((go_at_call 56; (with_reducible exact K0.out _)))))
        refine wpQuiet_nil ?_
        rintro _ ⟨y3, rfl⟩
        go_wp2_with fail
        exact ⟨⟨i + 1, false, b, y3, rfl, rfl, by go_num, by omega, HA2, HF2, by first | rfl | trivial⟩, by simp [intOf]; omega⟩
       | false =>
        have HN2 : Hid (∀ m : Nat, m < n + 1 → boundB TT r bad (m : Int) = false) := Lib.hid (fun m hm => by
         by_cases hmn : m = n
         ·subst hmn; exact HBD.out
         ·exact HN.out m (by omega))
        refine wp_region_wc (W0 := W1) (by kernel_rfl) (by kernel_rfl) y2.h ?_
        repeat (first | go_big_quiet_step (((go_at_call 56; (with_reducible exact K0.out _)))) | quiet_step (((go_at_call 56; (with_reducible exact K0.out _)))))
        refine wpQuiet_nil ?_
        rintro _ ⟨y3, rfl⟩
        go_wp2_with fail
        exact ⟨⟨n + 1, y3, by go_num, by omega, HN2, by first | rfl | trivial⟩, by simp [intOf]; omega⟩
      ·obtain rfl : n = l0.length := by omega
       have HF2 : Hid ((false && (ps.drop (i + 1)).all (fitL TT s)) = FF) := Lib.hid (by have h1 := HSF.out; rw [show (List.range l0.length).any (fun n : Nat => boundB TT r bad (n : Int)) = false from List.any_eq_false.2 (fun m hm => by rw [HN.out m (List.mem_range.1 hm)]; decide)] at h1; simpa using h1)
       clear hn hnl n0 HN
       go_upto_region 11 with fail
       have K0 := B0
       refine wp_region_wc (W0 := W1) (by kernel_rfl) (by kernel_rfl) y2.h ?_
       repeat (first | go_big_quiet_step (((go_at_call 56; (with_reducible exact K0.out _)))) | quiet_step (((go_at_call 56; (with_reducible exact K0.out _)))))
       refine wpQuiet_nil ?_
       rintro _ ⟨y3, rfl⟩
       go_wp2_with fail
       exact ⟨⟨i + 1, false, false, y3, rfl, rfl, by go_num, by omega, HA2, HF2, by first | rfl | trivial⟩, by simp [intOf]; omega⟩
  ·obtain rfl : i = ps.length := by omega
   have hA : a = AA := by have h1 := HA.out; rw [List.drop_length] at h1; simpa using h1
   have hF : b = FF := by have h1 := HF.out; rw [List.drop_length] at h1; simpa using h1
   subst hA hF
   clear HA HF hi hlt i0
   cases a with
   | true =>
    go_wp2_with fail
    go_ret
    exact ⟨rfl, HBW.out.trans (y.h.mono HBW.out.size)⟩
   | false =>
    have t0y := t0 y
    have t1y := t1 y
    have t2y := t2 y
    have t3y := t3 y
    have t4y := t4 y
    have t5y := t5 y
    have t6y := t6 y
    have t7y := t7 y
    go_wp2_with fail
    (with_reducible refine Calls.mono (HMx.out y) ?_)
    rintro e w' ⟨rfl, y1, rfl⟩
    clear t0y t1y t2y t3y t4y t5y t6y t7y
    cases MM with
    | false =>
     go_wp2_with fail
     go_ret
     exact ⟨rfl, HBW.out.trans (y1.h.mono HBW.out.size)⟩
    | true =>
     cases b <;> (go_wp2_with fail; go_ret; exact ⟨rfl, HBW.out.trans (y1.h.mono HBW.out.size)⟩)
end Go.Proofs.YtioehfhdoohdmaaGreatDoor
namespace Go.Proofs.YtioehfhdoohdmaaGreatDoor
open Go.RowKit Go.Shelf
def fewB (s : ByteArray) (n : Nat) : ByteArray := if n < s.size then s.extract 0 n else s
theorem fewB_size (s : ByteArray) (n : Nat) : (fewB s n).size ≤ n := by
 unfold fewB; split
 ·simp; omega
 ·omega
theorem few14_any (s : ByteArray) (n : Nat) (w : World) (hs : s.size ≤ 1048576) (hn : n ≤ 1000000) :
 Calls Tryz.prog 13 #[.string s, .int .i64 n] w fun e w' => e = .returned (.string (fewB s n)) ∧ w = w' := by
 by_cases h : n < s.size
 ·have E : fewB s n = s.extract 0 n := if_pos h
  go_enter Tryz.func13, Tryz.ntmps13
  go_wp2
  all_goals go_ret
  all_goals exact ⟨by rw [E]; rfl, rfl⟩
 ·have E : fewB s n = s := if_neg h
  go_enter Tryz.func13, Tryz.ntmps13
  go_wp2
  all_goals go_ret
  all_goals exact ⟨by rw [E]; rfl, rfl⟩
theorem can_eq (T : Tab) (s : ByteArray) (n : Int) : (foldO T s (places s)).contains n = canB T s (places s) n := by
 rw [foldO_rof, Bool.eq_iff_iff, List.contains_iff_mem]
 unfold rofL
 simp only [List.mem_map, List.mem_filter, List.mem_range]
 constructor
 ·rintro ⟨k, ⟨_, hk⟩, rfl⟩; exact hk
 ·intro hk
  have h1 : 0 ≤ n ∧ n < (T.scripts.length : Int) := by
   unfold canB at hk
   simp only [Bool.and_eq_true, decide_eq_true_iff] at hk
   exact hk.1
  refine ⟨n.toNat, ⟨by omega, ?_⟩, by omega⟩
  rw [show ((n.toNat : Nat) : Int) = n by omega]
  exact hk
end Go.Proofs.YtioehfhdoohdmaaGreatDoor
