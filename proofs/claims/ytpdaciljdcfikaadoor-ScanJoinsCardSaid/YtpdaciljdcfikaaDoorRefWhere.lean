/- guiseref4.Where, guiselaw4.few and guisebook.Within walked. -/
import Derived.Test.YtpdaciljdcfikaaDoorRefSeq
import Derived.Test.YtpdaciljdcfikaaDoorWhere
namespace Go.Proofs.YtpdaciljdcfikaaDoor
open Go.RowKit Go.Shelf
set_option linter.unusedVariables false
set_option linter.unusedSimpArgs false

theorem rune10 {s : ByteArray} {i : Nat} (h : i < s.size) : (Utf8.decode s i).1 = 10 ↔ B s i = 10 := by
  constructor
  · intro e
    rcases hc_of s i with ⟨a, b⟩ | ⟨a, b, c⟩ | ⟨a, b, c⟩ | ⟨a, b, c⟩ | ⟨a, b, c, d, f⟩
    · rw [b] at e; exact e
    · have q := lead2 b; rw [c] at e; simp only [] at e; omega
    · have q := lead3 b; rw [c] at e; simp only [] at e; omega
    · have q := lead4 b; rw [c] at e; simp only [] at e; omega
    · rw [f] at e; simp at e
  · intro e
    rw [dec_ascii (by omega), e]
theorem bad_width {s : ByteArray} {i : Nat} (h : goodAt s i = false) : (Utf8.decode s i).2 = 1 := by
  simp [goodAt] at h; exact h.1

theorem bad_byte {s : ByteArray} {i : Nat} (h : goodAt s i = false) : 128 ≤ B s i := by
  simp [goodAt] at h; exact h.2

/-- Where guiseref4.Where goes on. -/
def endN (s : ByteArray) (i : Nat) : Nat := i + (Utf8.decode s i).2

set_option maxRecDepth 100000 in
set_option maxHeartbeats 4000000 in
theorem rwhere_any (s : ByteArray) (a : Int) (w : World) (hs : s.size ≤ 140737488351232) (ha1 : -9223372036854775808 ≤ a) (ha2 : a ≤ 9223372036854775807) :
    Calls Tryd.prog 17 #[.string s, .int .i64 a] w fun e w' => e = .returned (.agg #[.int .i64 (clampN s a), .int .i64 (lcN s (clampN s a) 0 1 1).1, .int .i64 (lcN s (clampN s a) 0 1 1).2]) ∧ Below w.heap.size w w' := by
  have htl := clampN_le s a
  have hc1 : a < 0 → clampN s a = 0 := fun h => by unfold clampN; rw [if_pos h]
  have hc2 : (s.size : Int) < a → clampN s a = s.size := fun h => by unfold clampN; rw [if_neg (by omega), if_pos h]
  have hc3 : 0 ≤ a → a ≤ (s.size : Int) → ((clampN s a : Nat) : Int) = a := fun h h2 => by unfold clampN; rw [if_neg (by omega), if_neg (by omega)]; omega
  generalize clampN s a = t at *
  go_enter Tryd.func17, Tryd.ntmps17
  go_wp2_with fail
  · obtain rfl : t = 0 := by omega
    clear hc1 hc2 hc3
    have q1 : decide (a < 0) = true := by rw [decide_eq_true_iff]; omega
    have q2 : decide ((s.size : Int) < 0) = false := by rw [decide_eq_false_iff_not]; omega
    simp only [q1, q2]
    clear q1 q2
    go_loopw [6] (fun v6 wr => v6 = .int .i64 0 ∧ wr = (w.alloc (.cells #[.int .i64 0, .int .i64 0, .int .i64 0] 28)).alloc (.cells #[.int .i64 0, .int .i64 1, .int .i64 1] 28)) (fun v6 _ => 0)
    case atStart => exact ⟨rfl, rfl⟩
    case round =>
      obtain ⟨rfl, rfl⟩ := hrel
      have hb0 := (Blk.new' w #[.int .i64 0, .int .i64 0, .int .i64 0] 28)
      have bR := hb0.alloc (.cells #[.int .i64 0, .int .i64 1, .int .i64 1] 28)
      have bW := Blk.new' (w.alloc (.cells #[.int .i64 0, .int .i64 0, .int .i64 0] 28)) #[.int .i64 0, .int .i64 1, .int .i64 1] 28
      rw [World.size_alloc] at bW
      have hB : Below w.heap.size w ((w.alloc (.cells #[.int .i64 0, .int .i64 0, .int .i64 0] 28)).alloc (.cells #[.int .i64 0, .int .i64 1, .int .i64 1] 28)) := ((Below.refl _ w).alloc (Nat.le_refl _) _).alloc (by simp) _
      generalize (w.alloc (.cells #[.int .i64 0, .int .i64 0, .int .i64 0] 28)).alloc (.cells #[.int .i64 0, .int .i64 1, .int .i64 1] 28) = wr at *
      have cR0 := bR.cell 0
      have cR1 := bR.cell 1
      have cR2 := bR.cell 2
      have fR0 := bR.frozen 0
      have fR1 := bR.frozen 1
      have fR2 := bR.frozen 2
      have cW0 := bW.cell 0
      have cW1 := bW.cell 1
      have cW2 := bW.cell 2
      go_wp2_with fail
      have b3 := ((bR.set 0 (.int .i64 0)).set 1 (.int .i64 1)).set 2 (.int .i64 1)
      have r0 := b3.cell 0
      have r1 := b3.cell 1
      have r2 := b3.cell 2
      refine bodyPost_ret (v := .agg #[.int .i64 0, .int .i64 1, .int .i64 1]) (by simp [results, Tryd.results17, go_sem, r0, r1, r2]) rfl ?_
      refine ⟨by rw [lcN_end s 0 0 1 1 (Nat.le_refl _)]; rfl, ?_⟩
      exact ((hB.setCell (p := ⟨w.heap.size, 0, none⟩) (by simp) _).setCell (p := ⟨w.heap.size, 1, none⟩) (by simp) _).setCell (p := ⟨w.heap.size, 2, none⟩) (by simp) _
  · obtain rfl : t = s.size := by omega
    clear hc1 hc2 hc3
    have q1 : decide (a < 0) = false := by rw [decide_eq_false_iff_not]; omega
    have q2 : decide ((s.size : Int) < a) = true := by rw [decide_eq_true_iff]; omega
    simp only [q1, q2]
    clear q1 q2
    go_loopw [6] (fun v6 wr => ∃ i l c : Nat, v6 = .int .i64 i ∧ i ≤ s.size ∧ l ≤ i + 1 ∧ c ≤ i + 1 ∧ Hid (lcN s s.size i l c = lcN s s.size 0 1 1) ∧ Blk wr w.heap.size [.int .i64 0, .int .i64 0, .int .i64 0] 28 ∧ Blk wr (w.heap.size + 1) [.int .i64 (s.size : Nat), .int .i64 l, .int .i64 c] 28 ∧ Below w.heap.size w wr) (fun v6 _ => s.size - (intOf v6).toNat)
    case atStart =>
      have hb0 := (Blk.new' w #[.int .i64 0, .int .i64 0, .int .i64 0] 28)
      have hb1 := Blk.new' (w.alloc (.cells #[.int .i64 0, .int .i64 0, .int .i64 0] 28)) #[.int .i64 (s.size : Nat), .int .i64 1, .int .i64 1] 28
      rw [World.size_alloc] at hb1
      exact ⟨0, 1, 1, rfl, by omega, by omega, by omega, Lib.hid rfl, hb0.alloc _, hb1, ((Below.refl _ w).alloc (Nat.le_refl _) _).alloc (by simp) _⟩
    case round =>
      obtain ⟨i, l, c, rfl, hi, hl, hc, Hr, bR, bW, hB⟩ := hrel
      have cR0 := bR.cell 0
      have cR1 := bR.cell 1
      have cR2 := bR.cell 2
      have fR0 := bR.frozen 0
      have fR1 := bR.frozen 1
      have fR2 := bR.frozen 2
      have cW0 := bW.cell 0
      have cW1 := bW.cell 1
      have cW2 := bW.cell 2
      have fW0 := bW.frozen 0
      have fW1 := bW.frozen 1
      have fW2 := bW.frozen 2
      by_cases hlt : i < s.size
      · have hin : i < s.size := by omega
        have hw4 := dec_width s i
        have E := Lib.hid (seqT_eq hin)
        have hb10 := rune10 hin
        rw [B_at hin] at hb10
        have hst := @lcN_step s s.size i l c hlt
        have hmd := @lcN_mid s s.size i l c hlt
        have hbd := @bad_width s i
        have hbb := @bad_byte s i
        generalize hR' : (Utf8.decode s i).1 = R at *
        generalize hK' : (Utf8.decode s i).2 = K at *
        have Hst := Lib.hid hst
        have Hmd := Lib.hid hmd
        have Hbd := Lib.hid hbd
        have Hbb := Lib.hid hbb
        have H10 := Lib.hid hb10
        clear hst hmd hR' hK' hbd hbb hb10
        have d1 : decide ((i : Int) < (s.size : Nat)) = true := by rw [decide_eq_true_iff]; omega
        go_wp2_with fail
        refine (sequence_any s i _ hs (by omega)).mono ?_
        rintro e w' ⟨rfl, hw'⟩
        obtain rfl : wr = w' := hw'
        rw [E.out]
        cases hg : goodAt s i with
        | true =>
          have Hg := Lib.hid hg
          clear hg
          rw [if_pos rfl]
          by_cases hend : s.size < i + K
          · have d2 : decide ((s.size : Nat) < (i : Int) + (K : Int)) = true := by rw [decide_eq_true_iff]; omega
            go_wp2_with fail
            have b3 := ((bR.set 0 (.int .i64 (s.size : Nat))).set 1 (.int .i64 (l : Nat))).set 2 (.int .i64 (c : Nat))
            have r0 := b3.cell 0
            have r1 := b3.cell 1
            have r2 := b3.cell 2
            refine bodyPost_ret (v := .agg #[.int .i64 (s.size : Nat), .int .i64 l, .int .i64 c]) (by simp [results, Tryd.results17, go_sem, r0, r1, r2]) rfl ?_
            refine ⟨by rw [← Hr.out, Hmd.out hend], ?_⟩
            exact ((hB.setCell (p := ⟨w.heap.size, 0, none⟩) (by simp) _).setCell (p := ⟨w.heap.size, 1, none⟩) (by simp) _).setCell (p := ⟨w.heap.size, 2, none⟩) (by simp) _
          · have d2 : decide ((s.size : Nat) < (i : Int) + (K : Int)) = false := by rw [decide_eq_false_iff_not]; omega
            have hle : i + K ≤ s.size := by omega
            by_cases h10 : R = 10
            · have hb := H10.out.1 h10
              have d3 : ((((s[i]'hin).toNat : Nat) : Int) == 10) = true := by rw [beq_iff_eq, hb]; rfl
              go_wp2_with fail
              have b3 := ((bW.set 2 (.int .i64 ((c : Int) + 1))).set 1 (.int .i64 ((l : Int) + 1))).set 2 (.int .i64 1)
              go_roundw
              case rel =>
                refine ⟨i + K, l + 1, 1, by go_num, hle, by omega, by omega, Lib.hid (by rw [← Hr.out, Hst.out hle, if_pos h10]), ?_, b3, ?_⟩
                · exact ((bR.other (p := ⟨w.heap.size + 1, 2, none⟩) (by simp) _).other (p := ⟨w.heap.size + 1, 1, none⟩) (by simp) _).other (p := ⟨w.heap.size + 1, 2, none⟩) (by simp) _
                · exact ((hB.setCell (p := ⟨w.heap.size + 1, 2, none⟩) (by simp) _).setCell (p := ⟨w.heap.size + 1, 1, none⟩) (by simp) _).setCell (p := ⟨w.heap.size + 1, 2, none⟩) (by simp) _
              case measure => simp [intOf]; omega
            · have hb : ¬ (s[i]'hin).toNat = 10 := fun e => h10 (H10.out.2 e)
              have d3 : ((((s[i]'hin).toNat : Nat) : Int) == 10) = false := by rw [beq_eq_false_iff_ne]; omega
              go_wp2_with fail
              have b3 := (bW.set 2 (.int .i64 ((c : Int) + 1)))
              go_roundw
              case rel =>
                refine ⟨i + K, l, c + 1, by go_num, hle, by omega, by omega, Lib.hid (by rw [← Hr.out, Hst.out hle, if_neg h10]), ?_, b3, ?_⟩
                · exact bR.other (p := ⟨w.heap.size + 1, 2, none⟩) (by simp) _
                · exact hB.setCell (p := ⟨w.heap.size + 1, 2, none⟩) (by simp) _
              case measure => simp [intOf]; omega
        | false =>
          have Hg := Lib.hid hg
          clear hg
          have hK1 := Hbd.out Hg.out
          subst hK1
          have hR10 : ¬ R = 10 := fun e => by
            have h1 := H10.out.1 e
            have h2 := Hbb.out Hg.out
            rw [B_at hin] at h2
            omega
          rw [if_neg (by decide)]
          have d2 : decide ((s.size : Nat) < (i : Int) + 1) = false := by rw [decide_eq_false_iff_not]; omega
          have hb : ¬ (s[i]'hin).toNat = 10 := fun e => hR10 (H10.out.2 e)
          have d3 : ((((s[i]'hin).toNat : Nat) : Int) == 10) = false := by rw [beq_eq_false_iff_ne]; omega
          have hle : i + 1 ≤ s.size := by omega
          go_wp2_with fail
          have b3 := (bW.set 2 (.int .i64 ((c : Int) + 1)))
          go_roundw
          case rel =>
            refine ⟨i + 1, l, c + 1, by go_num, hle, by omega, by omega, Lib.hid (by rw [← Hr.out, Hst.out hle, if_neg hR10]), ?_, b3, ?_⟩
            · exact bR.other (p := ⟨w.heap.size + 1, 2, none⟩) (by simp) _
            · exact hB.setCell (p := ⟨w.heap.size + 1, 2, none⟩) (by simp) _
          case measure => simp [intOf]; omega
      · have d1 : decide ((i : Int) < (s.size : Nat)) = false := by rw [decide_eq_false_iff_not]; omega
        go_wp2_with fail
        have b3 := ((bR.set 0 (.int .i64 (s.size : Nat))).set 1 (.int .i64 (l : Nat))).set 2 (.int .i64 (c : Nat))
        have r0 := b3.cell 0
        have r1 := b3.cell 1
        have r2 := b3.cell 2
        refine bodyPost_ret (v := .agg #[.int .i64 (s.size : Nat), .int .i64 l, .int .i64 c]) (by simp [results, Tryd.results17, go_sem, r0, r1, r2]) rfl ?_
        refine ⟨by rw [← Hr.out, lcN_end s s.size i l c (by omega)], ?_⟩
        exact ((hB.setCell (p := ⟨w.heap.size, 0, none⟩) (by simp) _).setCell (p := ⟨w.heap.size, 1, none⟩) (by simp) _).setCell (p := ⟨w.heap.size, 2, none⟩) (by simp) _
  · have he : a = (t : Int) := by omega
    subst he
    clear hc1 hc2 hc3
    have q1 : decide ((t : Int) < 0) = false := by rw [decide_eq_false_iff_not]; omega
    have q2 : decide ((s.size : Int) < (t : Int)) = false := by rw [decide_eq_false_iff_not]; omega
    simp only [q1, q2]
    clear q1 q2
    go_loopw [6] (fun v6 wr => ∃ i l c : Nat, v6 = .int .i64 i ∧ i ≤ t ∧ l ≤ i + 1 ∧ c ≤ i + 1 ∧ Hid (lcN s t i l c = lcN s t 0 1 1) ∧ Blk wr w.heap.size [.int .i64 0, .int .i64 0, .int .i64 0] 28 ∧ Blk wr (w.heap.size + 1) [.int .i64 (t : Nat), .int .i64 l, .int .i64 c] 28 ∧ Below w.heap.size w wr) (fun v6 _ => t - (intOf v6).toNat)
    case atStart =>
      have hb0 := (Blk.new' w #[.int .i64 0, .int .i64 0, .int .i64 0] 28)
      have hb1 := Blk.new' (w.alloc (.cells #[.int .i64 0, .int .i64 0, .int .i64 0] 28)) #[.int .i64 (t : Nat), .int .i64 1, .int .i64 1] 28
      rw [World.size_alloc] at hb1
      exact ⟨0, 1, 1, rfl, by omega, by omega, by omega, Lib.hid rfl, hb0.alloc _, hb1, ((Below.refl _ w).alloc (Nat.le_refl _) _).alloc (by simp) _⟩
    case round =>
      obtain ⟨i, l, c, rfl, hi, hl, hc, Hr, bR, bW, hB⟩ := hrel
      have cR0 := bR.cell 0
      have cR1 := bR.cell 1
      have cR2 := bR.cell 2
      have fR0 := bR.frozen 0
      have fR1 := bR.frozen 1
      have fR2 := bR.frozen 2
      have cW0 := bW.cell 0
      have cW1 := bW.cell 1
      have cW2 := bW.cell 2
      have fW0 := bW.frozen 0
      have fW1 := bW.frozen 1
      have fW2 := bW.frozen 2
      by_cases hlt : i < t
      · have hin : i < s.size := by omega
        have hw4 := dec_width s i
        have E := Lib.hid (seqT_eq hin)
        have hb10 := rune10 hin
        rw [B_at hin] at hb10
        have hst := @lcN_step s t i l c hlt
        have hmd := @lcN_mid s t i l c hlt
        have hbd := @bad_width s i
        have hbb := @bad_byte s i
        generalize hR' : (Utf8.decode s i).1 = R at *
        generalize hK' : (Utf8.decode s i).2 = K at *
        have Hst := Lib.hid hst
        have Hmd := Lib.hid hmd
        have Hbd := Lib.hid hbd
        have Hbb := Lib.hid hbb
        have H10 := Lib.hid hb10
        clear hst hmd hR' hK' hbd hbb hb10
        have d1 : decide ((i : Int) < (t : Nat)) = true := by rw [decide_eq_true_iff]; omega
        go_wp2_with fail
        refine (sequence_any s i _ hs (by omega)).mono ?_
        rintro e w' ⟨rfl, hw'⟩
        obtain rfl : wr = w' := hw'
        rw [E.out]
        cases hg : goodAt s i with
        | true =>
          have Hg := Lib.hid hg
          clear hg
          rw [if_pos rfl]
          by_cases hend : t < i + K
          · have d2 : decide ((t : Nat) < (i : Int) + (K : Int)) = true := by rw [decide_eq_true_iff]; omega
            go_wp2_with fail
            have b3 := ((bR.set 0 (.int .i64 (t : Nat))).set 1 (.int .i64 (l : Nat))).set 2 (.int .i64 (c : Nat))
            have r0 := b3.cell 0
            have r1 := b3.cell 1
            have r2 := b3.cell 2
            refine bodyPost_ret (v := .agg #[.int .i64 (t : Nat), .int .i64 l, .int .i64 c]) (by simp [results, Tryd.results17, go_sem, r0, r1, r2]) rfl ?_
            refine ⟨by rw [← Hr.out, Hmd.out hend], ?_⟩
            exact ((hB.setCell (p := ⟨w.heap.size, 0, none⟩) (by simp) _).setCell (p := ⟨w.heap.size, 1, none⟩) (by simp) _).setCell (p := ⟨w.heap.size, 2, none⟩) (by simp) _
          · have d2 : decide ((t : Nat) < (i : Int) + (K : Int)) = false := by rw [decide_eq_false_iff_not]; omega
            have hle : i + K ≤ t := by omega
            by_cases h10 : R = 10
            · have hb := H10.out.1 h10
              have d3 : ((((s[i]'hin).toNat : Nat) : Int) == 10) = true := by rw [beq_iff_eq, hb]; rfl
              go_wp2_with fail
              have b3 := ((bW.set 2 (.int .i64 ((c : Int) + 1))).set 1 (.int .i64 ((l : Int) + 1))).set 2 (.int .i64 1)
              go_roundw
              case rel =>
                refine ⟨i + K, l + 1, 1, by go_num, hle, by omega, by omega, Lib.hid (by rw [← Hr.out, Hst.out hle, if_pos h10]), ?_, b3, ?_⟩
                · exact ((bR.other (p := ⟨w.heap.size + 1, 2, none⟩) (by simp) _).other (p := ⟨w.heap.size + 1, 1, none⟩) (by simp) _).other (p := ⟨w.heap.size + 1, 2, none⟩) (by simp) _
                · exact ((hB.setCell (p := ⟨w.heap.size + 1, 2, none⟩) (by simp) _).setCell (p := ⟨w.heap.size + 1, 1, none⟩) (by simp) _).setCell (p := ⟨w.heap.size + 1, 2, none⟩) (by simp) _
              case measure => simp [intOf]; omega
            · have hb : ¬ (s[i]'hin).toNat = 10 := fun e => h10 (H10.out.2 e)
              have d3 : ((((s[i]'hin).toNat : Nat) : Int) == 10) = false := by rw [beq_eq_false_iff_ne]; omega
              go_wp2_with fail
              have b3 := (bW.set 2 (.int .i64 ((c : Int) + 1)))
              go_roundw
              case rel =>
                refine ⟨i + K, l, c + 1, by go_num, hle, by omega, by omega, Lib.hid (by rw [← Hr.out, Hst.out hle, if_neg h10]), ?_, b3, ?_⟩
                · exact bR.other (p := ⟨w.heap.size + 1, 2, none⟩) (by simp) _
                · exact hB.setCell (p := ⟨w.heap.size + 1, 2, none⟩) (by simp) _
              case measure => simp [intOf]; omega
        | false =>
          have Hg := Lib.hid hg
          clear hg
          have hK1 := Hbd.out Hg.out
          subst hK1
          have hR10 : ¬ R = 10 := fun e => by
            have h1 := H10.out.1 e
            have h2 := Hbb.out Hg.out
            rw [B_at hin] at h2
            omega
          rw [if_neg (by decide)]
          have d2 : decide ((t : Nat) < (i : Int) + 1) = false := by rw [decide_eq_false_iff_not]; omega
          have hb : ¬ (s[i]'hin).toNat = 10 := fun e => hR10 (H10.out.2 e)
          have d3 : ((((s[i]'hin).toNat : Nat) : Int) == 10) = false := by rw [beq_eq_false_iff_ne]; omega
          have hle : i + 1 ≤ t := by omega
          go_wp2_with fail
          have b3 := (bW.set 2 (.int .i64 ((c : Int) + 1)))
          go_roundw
          case rel =>
            refine ⟨i + 1, l, c + 1, by go_num, hle, by omega, by omega, Lib.hid (by rw [← Hr.out, Hst.out hle, if_neg hR10]), ?_, b3, ?_⟩
            · exact bR.other (p := ⟨w.heap.size + 1, 2, none⟩) (by simp) _
            · exact hB.setCell (p := ⟨w.heap.size + 1, 2, none⟩) (by simp) _
          case measure => simp [intOf]; omega
      · have d1 : decide ((i : Int) < (t : Nat)) = false := by rw [decide_eq_false_iff_not]; omega
        go_wp2_with fail
        have b3 := ((bR.set 0 (.int .i64 (t : Nat))).set 1 (.int .i64 (l : Nat))).set 2 (.int .i64 (c : Nat))
        have r0 := b3.cell 0
        have r1 := b3.cell 1
        have r2 := b3.cell 2
        refine bodyPost_ret (v := .agg #[.int .i64 (t : Nat), .int .i64 l, .int .i64 c]) (by simp [results, Tryd.results17, go_sem, r0, r1, r2]) rfl ?_
        refine ⟨by rw [← Hr.out, lcN_end s t i l c (by omega)], ?_⟩
        exact ((hB.setCell (p := ⟨w.heap.size, 0, none⟩) (by simp) _).setCell (p := ⟨w.heap.size, 1, none⟩) (by simp) _).setCell (p := ⟨w.heap.size, 2, none⟩) (by simp) _
end Go.Proofs.YtpdaciljdcfikaaDoor
