/- The law ScanJoins walked. -/
import Derived.Test.YtpdaciljdcfikaaDoorJoinInv
import Derived.Test.YtpdaciljdcfikaaDoorColumn
import Derived.Test.YtpdaciljdcfikaaDoorTold
import Derived.Test.YtpdaciljdcfikaaDoorKnown
import Derived.BigQuiet
namespace Go.Proofs.YtpdaciljdcfikaaDoor.scanJoins
open Go.RowKit Go.Shelf
set_option linter.unusedVariables false
set_option linter.unusedSimpArgs false

/-- A list of words in memory. -/
def RowAt (W : World) (o : Option Addr) (s : ByteArray) (l : List Wd) : Prop := ∀ i (hi : i < l.length), ∃ g, o = some ⟨g, 0, none⟩ ∧ g < W.heap.size ∧ ∀ k, k < 8 → W.cell? ⟨g, i * 8 + k, none⟩ = (wcells s l[i])[k]?
theorem RowAt.below {W W' : World} {o : Option Addr} {s : ByteArray} {l : List Wd} (h : RowAt W o s l) (hB : Below W.heap.size W W') : RowAt W' o s l := fun i hi => by
  obtain ⟨g, e, hg, hc⟩ := h i hi
  exact ⟨g, e, Nat.lt_of_lt_of_le hg hB.size, fun k hk => (hB.cell (p := ⟨g, i * 8 + k, none⟩) hg).trans (hc k hk)⟩
theorem words_rows {s : ByteArray} {l : List Wd} {W : World} (hs : s.size ≤ 200000) (hl : lexN s = (l, none)) (hT : Tabs W) :
    Calls Tryd.prog 22 #[.string s] W fun e w' => ∃ o cap, e = .returned (.tuple #[.slice o l.length cap, .agg #[.int .i64 0, .int .i64 0, .int .i64 0], .int .i64 0]) ∧ l.length ≤ s.size ∧ l.length ≤ cap ∧ RowAt w' o s l ∧ Below W.heap.size W w' := by
  obtain ⟨e1, e2, e3⟩ := good_spec (by omega) hl
  refine (words_any s W (by omega) hT).mono ?_
  rintro e w' ⟨v, rfl, hown, hlen, hnil, hB⟩
  rw [e3] at hown hlen hnil
  rw [e1, e2]
  by_cases hne : l = []
  · subst hne
    rw [hnil rfl]
    exact ⟨none, 0, rfl, hlen, Nat.le_refl _, fun i hi => by simp at hi, hB⟩
  · obtain ⟨g, cap, rfl, hg, hcap, hcell⟩ := owns_at hown (fun x => rfl) hne
    exact ⟨_, cap, rfl, hlen, hcap, fun i hi => ⟨g, rfl, hg, fun k hk => hcell i k hi hk⟩, hB⟩
/-- Bytes that were handed in. -/
def FillAt (W : World) (o : Option Addr) (n : Nat) : Prop := ∀ i, i < n → ∃ b off, o = some ⟨b, off, none⟩ ∧ b < W.heap.size ∧ ∃ z : Nat, z < 256 ∧ W.cell? ⟨b, off + i, none⟩ = some (.int .u8 z)
theorem FillAt.below {W W' : World} {o : Option Addr} {n : Nat} (h : FillAt W o n) (hB : Below W.heap.size W W') : FillAt W' o n := fun i hi => by
  obtain ⟨b, off, e, hb, z, hz, hc⟩ := h i hi
  exact ⟨b, off, e, Nat.lt_of_lt_of_le hb hB.size, z, hz, (hB.cell (p := ⟨b, off + i, none⟩) hb).trans hc⟩

set_option maxRecDepth 100000 in
set_option maxHeartbeats 4000000 in
theorem walk_good (x y : ByteArray) (fo : Option Addr) (fn fc : Nat) (w : World) (hx : x.size ≤ maxLen) (hy : y.size ≤ maxLen) (la lb : List Wd) (ha : lexN (fewB x 1000) = (la, none)) (hb : lexN (fewB y 1000) = (lb, none))
    (hf : FillAt w fo fn) (hfn : fn ≤ maxLen) (hT : Tabs w) (hZ : TzAt w) :
    Calls Tryd.prog 9 #[.string x, .string y, .slice fo fn fc] w fun e w' => e = .returned (.bool true) ∧ Below w.heap.size w w' := by
  have hs := fewB_size x 1000
  have ht := fewB_size y 1000
  have hfx := fun W => few_any x 1000 W hx (by omega)
  have hfy := fun W => few_any y 1000 W hy (by omega)
  generalize fewB x 1000 = a at *
  generalize fewB y 1000 = b at *
  have hmx : fn ≤ 9223372036854775807 := hfn
  have hw1 := fun W h => words_rows (s := a) (W := W) (by omega) ha h
  have hw2 := fun W h => words_rows (s := b) (W := W) (by omega) hb h
  have hz3 := both_size a b
  have hboth := lex_both ha hb
  have hw3 := fun W h => words_rows (s := bothB a b) (W := W) (by omega) hboth h
  obtain ⟨oka, cha, sga⟩ := lexN_ok ha
  obtain ⟨okb, chb, sgb⟩ := lexN_ok hb
  obtain ⟨lc, hlc⟩ : ∃ lc, la ++ lb.map (fun w => w.at_ (a.size + 1 + w.fr)) = lc := ⟨_, rfl⟩
  have hlcn : lc.length = la.length + lb.length := by rw [← hlc]; simp
  have hA : ∀ i (hi : i < lc.length) (h : i < la.length), wcells (bothB a b) lc[i] = wcells a la[i] := fun i hi h => by
    subst hlc
    rw [both_at _ h hi]
    exact cells_a (oka _ (List.getElem_mem h))
  have hBc : ∀ j (hj : j < lb.length) (hi : la.length + j < lc.length), wcells (bothB a b) lc[la.length + j] = [.int .i64 lb[j].kind, .string lb[j].txt, .int .i32 lb[j].r, .int .i64 lb[j].n, .int .i64 ((lb[j].fr : Int) + (a.size : Int) + 1), .int .i64 (((lcN b lb[j].fr 0 1 1).1 : Int) + ((1 + endsGo a a.size 0 : Nat) : Int)), .int .i64 (lcN b lb[j].fr 0 1 1).2, .int .i64 ((lb[j].en : Int) + (a.size : Int) + 1)] := fun j hj hi => by
    subst hlc
    rw [both_at2 _ (by omega) (by omega) hi]
    simp only [Nat.add_sub_cancel_left]
    exact cells_b sga (okb _ (List.getElem_mem hj))
  rw [hlc] at hw3
  have hinv := fun i S r (h : Inv a la i S) hi hr => inv_step (r := r) h oka cha hi hr
  have HX := Lib.hid hfx
  have HY := Lib.hid hfy
  have HT := Lib.hid hT
  have HZ := Lib.hid hZ
  have HW1 := Lib.hid hw1
  have HW2 := Lib.hid hw2
  have HW3 := Lib.hid hw3
  have HA := Lib.hid hA
  have HBc := Lib.hid hBc
  have HI := Lib.hid hinv
  have HOa := Lib.hid oka
  have HOb := Lib.hid okb
  have hE := ends_le a a.size 0
  have HL := Lib.hid hlcn
  clear hfx hfy hT hZ hw1 hw2 hw3 hA hBc hinv hboth ha hb hlc oka okb cha chb sgb hz3
  go_enter Tryd.func9, Tryd.ntmps9
  go_wp2_with fail
  refine Calls.mono (HX.out _) ?_
  rintro e w' ⟨rfl, rfl⟩
  go_wp2_with fail
  refine Calls.mono (HY.out _) ?_
  rintro e w' ⟨rfl, rfl⟩
  go_wp2_with fail
  refine Calls.mono (HW1.out _ HT.out) ?_
  rintro e w1 ⟨o1, c1, rfl, hn1, hc1, R1, hB1⟩
  have hB1a := hB1.alloc hB1.size (.cells #[.int .i64 0, .int .i64 0, .int .i64 0] 28)
  have R1a := R1.below ((Below.refl _ w1).alloc (Nat.le_refl _) (.cells #[.int .i64 0, .int .i64 0, .int .i64 0] 28))
  go_wp2_with fail
  generalize w1.alloc (.cells #[.int .i64 0, .int .i64 0, .int .i64 0] 28) = W1 at *
  refine Calls.mono (HW2.out _ (Utf8Tabs_below HT.out hB1a)) ?_
  rintro e w2 ⟨o2, c2, rfl, hn2, hc2, R2, hB2⟩
  have hB2w := hB1a.trans (hB2.mono hB1a.size)
  have R1b := R1a.below hB2
  have hB2a := hB2w.alloc hB2w.size (.cells #[.int .i64 0, .int .i64 0, .int .i64 0] 28)
  have R1c := R1b.below ((Below.refl _ w2).alloc (Nat.le_refl _) (.cells #[.int .i64 0, .int .i64 0, .int .i64 0] 28))
  have R2c := R2.below ((Below.refl _ w2).alloc (Nat.le_refl _) (.cells #[.int .i64 0, .int .i64 0, .int .i64 0] 28))
  clear R1 R1a R1b R2 hB1 hB1a hB2 hB2w
  go_wp2_with fail
  generalize w2.alloc (.cells #[.int .i64 0, .int .i64 0, .int .i64 0] 28) = W2 at *
  refine Calls.mono (HW3.out _ (Utf8Tabs_below HT.out hB2a)) ?_
  rintro e w3 ⟨o3, c3, rfl, hn3, hc3, R3, hB3⟩
  have hB3w := hB2a.trans (hB3.mono hB2a.size)
  have R1d := R1c.below hB3
  have R2d := R2c.below hB3
  have hB3a := hB3w.alloc hB3w.size (.cells #[.int .i64 0, .int .i64 0, .int .i64 0] 28)
  have R1e := R1d.below ((Below.refl _ w3).alloc (Nat.le_refl _) (.cells #[.int .i64 0, .int .i64 0, .int .i64 0] 28))
  have R2e := R2d.below ((Below.refl _ w3).alloc (Nat.le_refl _) (.cells #[.int .i64 0, .int .i64 0, .int .i64 0] 28))
  have R3e := R3.below ((Below.refl _ w3).alloc (Nat.le_refl _) (.cells #[.int .i64 0, .int .i64 0, .int .i64 0] 28))
  clear R1c R1d R2c R2d R3 hB2a hB3 hB3w
  have dl : ((lc.length : Int) != (la.length : Int) + (lb.length : Int)) = false := by rw [bne_eq_false_iff_eq]; omega
  clear hlcn
  go_wp2_with fail
  generalize w3.alloc (.cells #[.int .i64 0, .int .i64 0, .int .i64 0] 28) = W3 at *
  go_loopw [16, 17] (fun v16 v17 wr => ∃ i : Nat, v17 = .int .i64 i ∧ v16 = .int .i64 ((1 + endsGo a i 0 : Nat) : Int) ∧ i ≤ a.size ∧ wr = W3) (fun _ v17 _ => a.size - (intOf v17).toNat)
  case atStart => exact ⟨0, rfl, rfl, Nat.zero_le _, rfl⟩
  case round =>
    obtain ⟨i, rfl, rfl, hi, rfl⟩ := hrel
    have hei := ends_le a i 0
    by_cases hlt : i < a.size
    · have hst := ends_step a i
      have hba := B_at hlt
      have i0 : (0 : Int) ≤ (i : Int) := Int.natCast_nonneg _
      have i1 : (i : Int) < (a.size : Int) := by omega
      by_cases c10 : B a i = 10
      · rw [if_pos c10] at hst
        have d10 : (((a[i]'hlt).toNat : Int) == 10) = true := by rw [beq_iff_eq]; omega
        have Hst := Lib.hid hst
        clear hst hba c10
        go_wp2_with fail
        exact ⟨⟨i + 1, by go_num, by rw [Hst.out]; go_num, by omega, by first | rfl | trivial⟩, by simp [intOf]; omega⟩
      · rw [if_neg c10] at hst
        have d10 : (((a[i]'hlt).toNat : Int) == 10) = false := by rw [beq_eq_false_iff_ne]; omega
        have Hst := Lib.hid hst
        clear hst hba c10
        go_wp2_with fail
        exact ⟨⟨i + 1, by go_num, by rw [Hst.out]; rfl, by omega, by first | rfl | trivial⟩, by simp [intOf]; omega⟩
    · obtain rfl : i = a.size := by omega
      have hE1 : 1 + endsGo a a.size 0 ≤ 1001 := by omega
      clear hE hei
      generalize 1 + endsGo a a.size 0 = E at *
      clear hi hlt
      go_wp2_with fail
      go_loopw [18] (fun v18 wr => ∃ i : Nat, v18 = .int .i64 i ∧ i ≤ lc.length ∧ RowAt wr o1 a la ∧ RowAt wr o2 b lb ∧ RowAt wr o3 (bothB a b) lc ∧ Below w.heap.size w wr) (fun v18 _ => lc.length - (intOf v18).toNat)
      case atStart => exact ⟨0, rfl, by omega, R1e, R2e, R3e, hB3a⟩
      case round =>
        clear R1e R2e R3e hB3a
        obtain ⟨i, rfl, hi, Q1, Q2, Q3, hk⟩ := hrel
        have i0 : (0 : Int) ≤ (i : Int) := Int.natCast_nonneg _
        by_cases hlt : i < lc.length
        · have i1 : (i : Int) < (lc.length : Int) := by omega
          obtain ⟨g3, rfl, hg3, q3⟩ := Q3 i hlt
          by_cases h1 : i < la.length
          · as_aux_lemma =>
              have i2 : (i : Int) < (la.length : Int) := by omega
              obtain ⟨g1, rfl, hg1, q1⟩ := Q1 i h1
              rw [HA.out i hlt h1] at q3
              have hok := HOa.out la[i] (List.getElem_mem h1)
              have hcol := fun W => column_any a la[i].fr W (by omega) hok.seg (by have := hok.lt; have := hok.le; omega)
              have r0 := q1 0 (by omega)
              have r1 := q1 1 (by omega)
              have r2 := q1 2 (by omega)
              have r3 := q1 3 (by omega)
              have r4 := q1 4 (by omega)
              have r5 := q1 5 (by omega)
              have r6 := q1 6 (by omega)
              have r7 := q1 7 (by omega)
              have s0 := q3 0 (by omega)
              have s1 := q3 1 (by omega)
              have s2 := q3 2 (by omega)
              have s3 := q3 3 (by omega)
              have s4 := q3 4 (by omega)
              have s5 := q3 5 (by omega)
              have s6 := q3 6 (by omega)
              have s7 := q3 7 (by omega)
              simp only [wcells, List.getElem?_cons_zero, List.getElem?_cons_succ, Nat.add_zero] at r0 r1 r2 r3 r4 r5 r6 r7 s0 s1 s2 s3 s4 s5 s6 s7
              generalize la[i] = wd at *
              generalize lcN a wd.fr 0 1 1 = lcv at *
              have HC := Lib.hid hcol
              clear hcol hok q1 q3
              go_wp2_with fail
              have bT := Blk.new' wr #[.int .i64 wd.kind, .string wd.txt, .int .i32 wd.r, .int .i64 wd.n, .int .i64 wd.fr, .int .i64 lcv.1, .int .i64 lcv.2, .int .i64 wd.en] 41
              have hBT : Below wr.heap.size wr (wr.alloc (.cells #[.int .i64 wd.kind, .string wd.txt, .int .i32 wd.r, .int .i64 wd.n, .int .i64 wd.fr, .int .i64 lcv.1, .int .i64 lcv.2, .int .i64 wd.en] 41)) := (Below.refl _ wr).alloc (Nat.le_refl _) _
              generalize wr.alloc (.cells #[.int .i64 wd.kind, .string wd.txt, .int .i32 wd.r, .int .i64 wd.n, .int .i64 wd.fr, .int .i64 lcv.1, .int .i64 lcv.2, .int .i64 wd.en] 41) = W5 at *
              have t0 : W5.cell? ⟨wr.heap.size, 0, none⟩ = some (.int .i64 wd.kind) := bT.cell 0
              have t1 : W5.cell? ⟨wr.heap.size, 1, none⟩ = some (.string wd.txt) := bT.cell 1
              have t2 : W5.cell? ⟨wr.heap.size, 2, none⟩ = some (.int .i32 wd.r) := bT.cell 2
              have t3 : W5.cell? ⟨wr.heap.size, 3, none⟩ = some (.int .i64 wd.n) := bT.cell 3
              have t4 : W5.cell? ⟨wr.heap.size, 4, none⟩ = some (.int .i64 wd.fr) := bT.cell 4
              have t5 : W5.cell? ⟨wr.heap.size, 5, none⟩ = some (.int .i64 lcv.1) := bT.cell 5
              have t6 : W5.cell? ⟨wr.heap.size, 6, none⟩ = some (.int .i64 lcv.2) := bT.cell 6
              have t7 : W5.cell? ⟨wr.heap.size, 7, none⟩ = some (.int .i64 wd.en) := bT.cell 7
              have hT5 := bT.lt
              have hB5 : Below W5.heap.size W5 W5 := Below.refl _ _
              have k1 := Q1.below hBT
              have k2 := Q2.below hBT
              have k3 := Q3.below hBT
              have k0 := hk.trans (hBT.mono hk.size)
              have hg5 : g3 < W5.heap.size := by omega
              have u0 := (hBT.cell (p := ⟨g3, i * 8, none⟩) hg3).trans s0
              have u1 := (hBT.cell (p := ⟨g3, i * 8 + 1, none⟩) hg3).trans s1
              have u2 := (hBT.cell (p := ⟨g3, i * 8 + 2, none⟩) hg3).trans s2
              have u3 := (hBT.cell (p := ⟨g3, i * 8 + 3, none⟩) hg3).trans s3
              have u4 := (hBT.cell (p := ⟨g3, i * 8 + 4, none⟩) hg3).trans s4
              have u5 := (hBT.cell (p := ⟨g3, i * 8 + 5, none⟩) hg3).trans s5
              have u6 := (hBT.cell (p := ⟨g3, i * 8 + 6, none⟩) hg3).trans s6
              have u7 := (hBT.cell (p := ⟨g3, i * 8 + 7, none⟩) hg3).trans s7
              clear Q1 Q2 Q3 hk r0 r1 r2 r3 r4 r5 r6 r7 hg1 s0 s1 s2 s3 s4 s5 s6 s7
              go_region_held3 (fun w' => w'.cell? ⟨wr.heap.size, 4, none⟩ = some (.int .i64 wd.fr) ∧ w'.cell? ⟨wr.heap.size, 6, none⟩ = some (.int .i64 lcv.2) ∧ Below W5.heap.size W5 w')
                (first
                  | (go_split_ands; refine ⟨?_, ?_, ?_⟩ <;> first | assumption | (exact Below.drew (by assumption)))
                  | (go_split_ands; refine ⟨?_, ?_, ?_⟩ <;> first | (exact (hBw.cell (by have hsz := (‹Below W5.heap.size W5 _›).size; dsimp only; omega)).trans (by assumption)) | (exact (‹Below W5.heap.size W5 _›).trans (hBw.mono (‹Below W5.heap.size W5 _›).size))))
                (first | (go_at_call 24; refine Calls.mono (HC.out _) ?_; rintro e w' ⟨rfl, hBw⟩))
              have hB6 := (Below.refl W5.heap.size W5).drew.trans hBw
              have p0 := (hB6.cell (p := ⟨g3, i * 8, none⟩) hg5).trans u0
              have p1 := (hB6.cell (p := ⟨g3, i * 8 + 1, none⟩) hg5).trans u1
              have p2 := (hB6.cell (p := ⟨g3, i * 8 + 2, none⟩) hg5).trans u2
              have p3 := (hB6.cell (p := ⟨g3, i * 8 + 3, none⟩) hg5).trans u3
              have p4 := (hB6.cell (p := ⟨g3, i * 8 + 4, none⟩) hg5).trans u4
              have p5 := (hB6.cell (p := ⟨g3, i * 8 + 5, none⟩) hg5).trans u5
              have p6 := (hB6.cell (p := ⟨g3, i * 8 + 6, none⟩) hg5).trans u6
              have p7 := (hB6.cell (p := ⟨g3, i * 8 + 7, none⟩) hg5).trans u7
              have q0 := (hB6.cell (p := ⟨wr.heap.size, 0, none⟩) hT5).trans t0
              have q1 := (hB6.cell (p := ⟨wr.heap.size, 1, none⟩) hT5).trans t1
              have q2 := (hB6.cell (p := ⟨wr.heap.size, 2, none⟩) hT5).trans t2
              have q3 := (hB6.cell (p := ⟨wr.heap.size, 3, none⟩) hT5).trans t3
              have q4 := (hB6.cell (p := ⟨wr.heap.size, 4, none⟩) hT5).trans t4
              have q5 := (hB6.cell (p := ⟨wr.heap.size, 5, none⟩) hT5).trans t5
              have q6 := (hB6.cell (p := ⟨wr.heap.size, 6, none⟩) hT5).trans t6
              have q7 := (hB6.cell (p := ⟨wr.heap.size, 7, none⟩) hT5).trans t7
              have m1 := k1.below hB6
              have m2 := k2.below hB6
              have m3 := k3.below hB6
              have m0 := k0.trans (hB6.mono k0.size)
              clear k0 k1 k2 k3 u0 u1 u2 u3 u4 u5 u6 u7 t0 t1 t2 t3 t4 t5 t6 t7 hB5 hB6 hBw
              go_wp2_with fail
              go_quiet (fail)
              go_wp2_with fail
              have dN : ∀ n, Below w'.heap.size w' (w'.drewN n) := fun n => ⟨rfl, rfl, rfl, Nat.le_refl _, fun _ _ => rfl⟩
              exact ⟨⟨i + 1, by go_num, by omega, m1.below (dN _), m2.below (dN _), m3.below (dN _), m0.trans ((dN _).mono m0.size)⟩, by simp [intOf]; omega⟩
          · as_aux_lemma =>
              obtain ⟨j, rfl⟩ : ∃ j, i = la.length + j := ⟨i - la.length, by omega⟩
              have hj : j < lb.length := by have := HL.out; omega
              have j0 : (0 : Int) ≤ (j : Int) := Int.natCast_nonneg _
              have j1 : (j : Int) < (lb.length : Int) := by omega
              obtain ⟨g2, rfl, hg2, q2⟩ := Q2 j hj
              rw [HBc.out j hj hlt] at q3
              have hok := HOb.out lb[j] (List.getElem_mem hj)
              have hfe : lb[j].fr ≤ 1000 ∧ lb[j].en ≤ 1000 := by have := hok.lt; have := hok.le; omega
              have r0 := q2 0 (by omega)
              have r1 := q2 1 (by omega)
              have r2 := q2 2 (by omega)
              have r3 := q2 3 (by omega)
              have r4 := q2 4 (by omega)
              have r5 := q2 5 (by omega)
              have r6 := q2 6 (by omega)
              have r7 := q2 7 (by omega)
              have s0 := q3 0 (by omega)
              have s1 := q3 1 (by omega)
              have s2 := q3 2 (by omega)
              have s3 := q3 3 (by omega)
              have s4 := q3 4 (by omega)
              have s5 := q3 5 (by omega)
              have s6 := q3 6 (by omega)
              have s7 := q3 7 (by omega)
              simp only [wcells, List.getElem?_cons_zero, List.getElem?_cons_succ, Nat.add_zero] at r0 r1 r2 r3 r4 r5 r6 r7 s0 s1 s2 s3 s4 s5 s6 s7
              have hlc1 : (lcN b lb[j].fr 0 1 1).1 ≤ 1001 := by have := lcN_le b lb[j].fr lb[j].fr 0 1 1 (by omega) (by omega) (by omega) (by omega); omega
              generalize lb[j] = wd at *
              generalize lcN b wd.fr 0 1 1 = lcv at *
              have d1 : decide (((la.length + j : Nat) : Int) < (la.length : Int)) = false := by rw [decide_eq_false_iff_not]; omega
              clear hok q2 q3
              go_wp2_with fail
              have bT := Blk.new' wr #[.int .i64 wd.kind, .string wd.txt, .int .i32 wd.r, .int .i64 wd.n, .int .i64 ((wd.fr : Int) + (a.size : Int) + 1), .int .i64 ((lcv.1 : Int) + (E : Int)), .int .i64 lcv.2, .int .i64 ((wd.en : Int) + (a.size : Int) + 1)] 41
              have hBT : Below wr.heap.size wr (wr.alloc (.cells #[.int .i64 wd.kind, .string wd.txt, .int .i32 wd.r, .int .i64 wd.n, .int .i64 ((wd.fr : Int) + (a.size : Int) + 1), .int .i64 ((lcv.1 : Int) + (E : Int)), .int .i64 lcv.2, .int .i64 ((wd.en : Int) + (a.size : Int) + 1)] 41)) := (Below.refl _ wr).alloc (Nat.le_refl _) _
              generalize wr.alloc (.cells #[.int .i64 wd.kind, .string wd.txt, .int .i32 wd.r, .int .i64 wd.n, .int .i64 ((wd.fr : Int) + (a.size : Int) + 1), .int .i64 ((lcv.1 : Int) + (E : Int)), .int .i64 lcv.2, .int .i64 ((wd.en : Int) + (a.size : Int) + 1)] 41) = W5 at *
              have u0 := (hBT.cell (p := ⟨g3, (la.length + j) * 8, none⟩) hg3).trans s0
              have u1 := (hBT.cell (p := ⟨g3, (la.length + j) * 8 + 1, none⟩) hg3).trans s1
              have u2 := (hBT.cell (p := ⟨g3, (la.length + j) * 8 + 2, none⟩) hg3).trans s2
              have u3 := (hBT.cell (p := ⟨g3, (la.length + j) * 8 + 3, none⟩) hg3).trans s3
              have u4 := (hBT.cell (p := ⟨g3, (la.length + j) * 8 + 4, none⟩) hg3).trans s4
              have u5 := (hBT.cell (p := ⟨g3, (la.length + j) * 8 + 5, none⟩) hg3).trans s5
              have u6 := (hBT.cell (p := ⟨g3, (la.length + j) * 8 + 6, none⟩) hg3).trans s6
              have u7 := (hBT.cell (p := ⟨g3, (la.length + j) * 8 + 7, none⟩) hg3).trans s7
              have t0 := bT.cell 0
              have t1 := bT.cell 1
              have t2 := bT.cell 2
              have t3 := bT.cell 3
              have t4 := bT.cell 4
              have t5 := bT.cell 5
              have t6 := bT.cell 6
              have t7 := bT.cell 7
              simp only [List.getElem?_cons_zero, List.getElem?_cons_succ] at t0 t1 t2 t3 t4 t5 t6 t7
              have k1 := Q1.below hBT
              have k2 := Q2.below hBT
              have k3 := Q3.below hBT
              have k0 := hk.trans (hBT.mono hk.size)
              clear Q1 Q2 Q3 hk r0 r1 r2 r3 r4 r5 r6 r7 s0 s1 s2 s3 s4 s5 s6 s7
              go_quiet (fail)
              go_wp2_with fail
              have dN : ∀ n, Below W5.heap.size W5 (W5.drewN n) := fun n => ⟨rfl, rfl, rfl, Nat.le_refl _, fun _ _ => rfl⟩
              exact ⟨⟨la.length + j + 1, by go_num, by omega, k1.below (dN _), k2.below (dN _), k3.below (dN _), k0.trans ((dN _).mono k0.size)⟩, by simp [intOf]; omega⟩
        · obtain rfl : i = lc.length := by omega
          clear hlt hi i0
          go_wp2_with fail
          have bR : Blk (wr.alloc (.cells #[.string { data := #[32] }, .string { data := #[9] }, .string { data := #[13, 10] }, .string { data := #[35, 195, 169, 32, 125, 32, 120, 10] }, .string { data := #[35, 32, 10, 10] }, .string { data := #[10] }] 9)) wr.heap.size (fillsL.map .string) 9 := Blk.new' wr #[.string { data := #[32] }, .string { data := #[9] }, .string { data := #[13, 10] }, .string { data := #[35, 195, 169, 32, 125, 32, 120, 10] }, .string { data := #[35, 32, 10, 10] }, .string { data := #[10] }] 9
          have hBR : Below wr.heap.size wr (wr.alloc (.cells #[.string { data := #[32] }, .string { data := #[9] }, .string { data := #[13, 10] }, .string { data := #[35, 195, 169, 32, 125, 32, 120, 10] }, .string { data := #[35, 32, 10, 10] }, .string { data := #[10] }] 9)) := (Below.refl _ wr).alloc (Nat.le_refl _) _
          generalize wr.alloc (.cells #[.string { data := #[32] }, .string { data := #[9] }, .string { data := #[13, 10] }, .string { data := #[35, 195, 169, 32, 125, 32, 120, 10] }, .string { data := #[35, 32, 10, 10] }, .string { data := #[10] }] 9) = W6 at *
          have hk6 := hk.trans (hBR.mono hk.size)
          have R16 := Q1.below hBR
          have F6 : FillAt W6 fo fn := hf.below hk6
          have I0 := Lib.hid (inv_zero a la)
          clear Q1 Q2 Q3 hBR hk hf
          generalize wr.heap.size = gR at *
          go_loopw [21, 22] (fun v21 v22 wr2 => ∃ (i : Nat) (S : ByteArray), v22 = .int .i64 i ∧ v21 = .string S ∧ i ≤ la.length ∧ Hid (Inv a la i S) ∧ S.size ≤ 9000 ∧ RowAt wr2 o1 a la ∧ Blk wr2 gR (fillsL.map .string) 9 ∧ FillAt wr2 fo fn ∧ Below w.heap.size w wr2) (fun _ v22 _ => la.length - (intOf v22).toNat)
          case atStart => exact ⟨0, _, rfl, rfl, Nat.zero_le _, I0, Nat.zero_le _, R16, bR, F6, hk6⟩
          case round =>
            clear bR R16 F6 hk6 I0
            obtain ⟨i, S, rfl, rfl, hi, HInv, hS, Q1, bR, F, hk⟩ := hrel
            have i0 : (0 : Int) ≤ (i : Int) := Int.natCast_nonneg _
            by_cases hlt : i < la.length
            · have i1 : (i : Int) < (la.length : Int) := by omega
              obtain ⟨g1, rfl, hg1, q1⟩ := Q1 i hlt
              have hok := HOa.out la[i] (List.getElem_mem hlt)
              have hlw := hok.lt
              have hew := hok.le
              have hnext := fun r hr => HI.out i S r HInv.out hlt hr
              have hnz := fun r hr => inv_size (hnext r hr) HOa.out
              have r4 := q1 4 (by omega)
              have r7 := q1 7 (by omega)
              simp only [wcells, List.getElem?_cons_zero, List.getElem?_cons_succ, Nat.add_zero] at r4 r7
              generalize la[i] = wd at *
              have f0 : (0 : Int) ≤ (wd.fr : Int) := Int.natCast_nonneg _
              have f1 : (wd.fr : Int) ≤ (wd.en : Int) := by omega
              have f2 : (wd.en : Int) ≤ (a.size : Int) := by omega
              have HN := Lib.hid hnext
              have HNZ := Lib.hid hnz
              clear hok q1 hnext hnz
              by_cases hf0 : fn = 0
              · as_aux_lemma =>
                  subst hf0
                  clear hmx hfn
                  go_wp2_with fail
                  go_quiet (fail)
                  go_wp2_with fail
                  have hr : (⟨#[32]⟩ : ByteArray) ∈ fillsL := by simp [fillsL]
                  have hsz := HNZ.out _ hr
                  have dN : ∀ n, Below wr.heap.size wr (wr.drewN n) := fun n => ⟨rfl, rfl, rfl, Nat.le_refl _, fun _ _ => rfl⟩
                  exact ⟨⟨i + 1, _, by go_num, rfl, by omega, Lib.hid (HN.out _ hr), by omega, Q1.below (dN _), bR, F.below (dN _), hk.trans ((dN _).mono hk.size)⟩, by simp [intOf]; omega⟩
              · as_aux_lemma =>
                  have hm : i % fn < fn := Nat.mod_lt _ (by omega)
                  obtain ⟨bo, off, rfl, hbo, z, hz, hcz⟩ := F (i % fn) hm
                  have e1 : (i : Int).tmod (fn : Int) = ((i % fn : Nat) : Int) := (Int.ofNat_tmod i fn).symm
                  have e2 : (z : Int).tmod 6 = ((z % 6 : Nat) : Int) := (Int.ofNat_tmod z 6).symm
                  have hk6 : z % 6 < 6 := Nat.mod_lt _ (by omega)
                  generalize i % fn = m at *
                  generalize z % 6 = k at *
                  have hkl : k < fillsL.length := hk6
                  have c6 : wr.cell? ⟨gR, k, none⟩ = some (.string fillsL[k]) := by
                    rw [bR.cell k, List.getElem?_map, List.getElem?_eq_getElem hkl]; rfl
                  have hr : fillsL[k] ∈ fillsL := List.getElem_mem hkl
                  have hr8 := (fills_size _ hr).2.1
                  generalize fillsL[k] = r at *
                  have n0 : (0 : Int) < (fn : Int) := by omega
                  have m0 : (0 : Int) ≤ (m : Int) := Int.natCast_nonneg _
                  have m1 : (m : Int) < (fn : Int) := by omega
                  have k0 : (0 : Int) ≤ (k : Int) := Int.natCast_nonneg _
                  have k1 : (k : Int) < 6 := by omega
                  have z0 : (0 : Int) ≤ (z : Int) := Int.natCast_nonneg _
                  have z1 : (z : Int) < 256 := by omega
                  have dz : ((fn : Int) == 0) = false := by rw [beq_eq_false_iff_ne]; omega
                  go_wp2_with fail
                  go_quiet (fail)
                  go_wp2_with fail
                  have hsz := HNZ.out _ hr
                  have dN : ∀ n, Below wr.heap.size wr (wr.drewN n) := fun n => ⟨rfl, rfl, rfl, Nat.le_refl _, fun _ _ => rfl⟩
                  exact ⟨⟨i + 1, _, by go_num, rfl, by omega, Lib.hid (HN.out _ hr), by omega, Q1.below (dN _), bR, F.below (dN _), hk.trans ((dN _).mono hk.size)⟩, by simp [intOf]; omega⟩
            · as_aux_lemma =>
                obtain rfl : i = la.length := by omega
                obtain ⟨ws, hws, hwl, hsame⟩ := inv_end HInv.out
                have hw4 := fun W h => words_rows (s := S) (W := W) (by omega) hws h
                have HW4 := Lib.hid hw4
                have HSame := Lib.hid hsame
                have HOs := Lib.hid (lexN_ok hws).1
                have dl4 : ((ws.length : Int) != (la.length : Int)) = false := by rw [bne_eq_false_iff_eq]; omega
                have HWL := Lib.hid hwl
                clear hws hwl hsame hw4 hi hlt F bR HInv i0
                go_wp2_with fail
                refine Calls.mono (HW4.out _ (Utf8Tabs_below HT.out hk)) ?_
                rintro e w4 ⟨o4, c4, rfl, hn4, hc4, R4, hB4⟩
                have hk4 := hk.trans (hB4.mono hk.size)
                have R14 := Q1.below hB4
                have hk4a := hk4.alloc hk4.size (.cells #[.int .i64 0, .int .i64 0, .int .i64 0] 28)
                have R14a := R14.below ((Below.refl _ w4).alloc (Nat.le_refl _) (.cells #[.int .i64 0, .int .i64 0, .int .i64 0] 28))
                have R4a := R4.below ((Below.refl _ w4).alloc (Nat.le_refl _) (.cells #[.int .i64 0, .int .i64 0, .int .i64 0] 28))
                clear hk hB4 hk4 R14 R4 Q1
                go_wp2_with fail
                generalize w4.alloc (.cells #[.int .i64 0, .int .i64 0, .int .i64 0] 28) = W7 at *
                go_loopw [26] (fun v26 wr3 => ∃ i : Nat, v26 = .int .i64 i ∧ i ≤ ws.length ∧ RowAt wr3 o1 a la ∧ RowAt wr3 o4 S ws ∧ Below w.heap.size w wr3) (fun v26 _ => ws.length - (intOf v26).toNat)
                case atStart => exact ⟨0, rfl, Nat.zero_le _, R14a, R4a, hk4a⟩
                case round =>
                  clear R14a R4a hk4a
                  obtain ⟨i, rfl, hi, Q1, Q4, hk⟩ := hrel
                  have i0 : (0 : Int) ≤ (i : Int) := Int.natCast_nonneg _
                  by_cases hlt : i < ws.length
                  · as_aux_lemma =>
                      have i1 : (i : Int) < (ws.length : Int) := by omega
                      have hl2 : i < la.length := by have := HWL.out; omega
                      have i2 : (i : Int) < (la.length : Int) := by omega
                      obtain ⟨g1, rfl, hg1, q1⟩ := Q1 i hl2
                      obtain ⟨g4, rfl, hg4, q4⟩ := Q4 i hlt
                      obtain ⟨m1, m2, m3, m4, m5, m6, m7⟩ := HSame.out i hlt hl2
                      have r0 := q1 0 (by omega)
                      have r1 := q1 1 (by omega)
                      have r2 := q1 2 (by omega)
                      have r3 := q1 3 (by omega)
                      have r4 := q1 4 (by omega)
                      have r7 := q1 7 (by omega)
                      have s0 := q4 0 (by omega)
                      have s1 := q4 1 (by omega)
                      have s2 := q4 2 (by omega)
                      have s3 := q4 3 (by omega)
                      have s4 := q4 4 (by omega)
                      have s7 := q4 7 (by omega)
                      simp only [wcells, List.getElem?_cons_zero, List.getElem?_cons_succ, Nat.add_zero] at r0 r1 r2 r3 r4 r7 s0 s1 s2 s3 s4 s7
                      have hok := HOa.out la[i] (List.getElem_mem hl2)
                      have hle := hok.le
                      have hle4 := (HOs.out ws[i] (List.getElem_mem hlt)).le
                      generalize la[i] = u at *
                      generalize ws[i] = v at *
                      rw [m1] at s0
                      rw [m2] at s1
                      rw [m3] at s2
                      rw [m4] at s3
                      have d5 : (IntKind.i64.wrap ((v.en : Int) - (v.fr : Int)) != IntKind.i64.wrap ((u.en : Int) - (u.fr : Int))) = false := by rw [show (v.en : Int) - (v.fr : Int) = (u.en : Int) - (u.fr : Int) by omega]; simp
                      clear m1 m2 m3 m4 m7 q1 q4 hok
                      go_wp2_with fail
                      go_quiet (fail)
                      go_wp2_with fail
                      have dN : ∀ n, Below wr.heap.size wr (wr.drewN n) := fun n => ⟨rfl, rfl, rfl, Nat.le_refl _, fun _ _ => rfl⟩
                      exact ⟨⟨i + 1, by go_num, by omega, Q1.below (dN _), Q4.below (dN _), hk.trans ((dN _).mono hk.size)⟩, by simp [intOf]; omega⟩
                  · as_aux_lemma =>
                      obtain rfl : i = ws.length := by omega
                      clear hi hlt i0
                      go_wp2_with fail
                      refine (known_any _ (Utf8Tabs_below HT.out hk) (HZ.out.below hk)).mono ?_
                      rintro e w5 ⟨rfl, hB5⟩
                      go_wp2_with fail
                      go_ret
                      exact ⟨rfl, hk.trans (hB5.mono hk.size)⟩
end Go.Proofs.YtpdaciljdcfikaaDoor.scanJoins
