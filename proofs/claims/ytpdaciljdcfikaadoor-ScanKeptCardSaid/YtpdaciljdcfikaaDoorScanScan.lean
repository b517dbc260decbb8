/- scan.scan walked: from state to state. -/
import Derived.Test.YtpdaciljdcfikaaDoorScanSt
import Derived.WalkMore
namespace Go.Proofs.YtpdaciljdcfikaaDoor
open Go.RowKit Go.Shelf
set_option linter.unusedVariables false
set_option linter.unusedSimpArgs false

set_option maxHeartbeats 8000000 in
set_option maxRecDepth 100000 in
theorem scan_any (s : ByteArray) (w : World) (hs : s.size ≤ 262144) (hT : Tabs w) :
    Calls Tryd.prog 40 #[.string s] w (Post s w) := by
  have hs' : s.size ≤ 140737488351232 := by omega
  go_enter Tryd.func40, Tryd.ntmps40
  go_wp2_with fail
  refine wp_scope_multi (JS s w.heap.size w) ?first ?pass
  case first =>
    go_wp2_with fail
    refine (show ∀ (p a0 f : Nat) (l : List Wd) (v2 v6 : Value) (ws : List Value) (a : Act) (W : World), Fr s w.heap.size v2 v6 (.int .i64 p) a → St s w.heap.size w W a0 p l v2 ws → s.size - p ≤ f → lexGo s f p l = lexN s → Code.wp _ _ _ a W from ?_) 0 0 s.size [] (.slice none 0 0) (.int .i64 0) zeroW _ _ (by constructor) (St.first s w) (by omega) rfl
    intro p a0 f l v2 v6 ws _ W hf hst hfu hl
    cases hf with | mk u3 u8 u9 u10 u11 u12 u13 u14 u15 u16 u17 u18 u19 u20 u21 u22 u23 u24 u25 u26 u27 u28 u29 u30 u31 u32 u33 u34 u35 u36 u37 u38 u39 u40 u41 u42 u43 u44 u45 u46 u47 u48 u49 u50 u51 u52 u53 u54 u55 u56 u57 u58 u59 u60 u61 u62 u63 u64 u65 u66 u67 u68 u69 u70 u71 u72 u73 u74 u75 u76 u77 u78 u79 u80 u81 u82 u83 u84 u85 u86 u87 u88 u89 u90 u91 u92 u93 u94 u95 u96 u97 u98 u99 u100 u101 u102 u103 u104 u105 u106 u107 u108 u109 u110 u111 u112 u113 u114 u115 u116 u117 u118 u119 u120 u121 u122 u123 u124 u125 u126 u127 u128 u129 u130 u131 u132 u133 u134 u135 u136 u137 u138 u139 u140 u141 u142 u143 u144 u145 u146 u147 u148 u149 u150 u151 u152 u153 u154 =>
    obtain ⟨x0, x1, x2, x3, x4, x5, x6, x7, rfl⟩ := list8 hst.wlen
    have d0 : W.cell? ⟨w.heap.size + 1, 0, none⟩ = some x0 := hst.word.cell 0
    have e0 := hst.word.frozen 0
    have d1 : W.cell? ⟨w.heap.size + 1, 1, none⟩ = some x1 := hst.word.cell 1
    have e1 := hst.word.frozen 1
    have d2 : W.cell? ⟨w.heap.size + 1, 2, none⟩ = some x2 := hst.word.cell 2
    have e2 := hst.word.frozen 2
    have d3 : W.cell? ⟨w.heap.size + 1, 3, none⟩ = some x3 := hst.word.cell 3
    have e3 := hst.word.frozen 3
    have d4 : W.cell? ⟨w.heap.size + 1, 4, none⟩ = some x4 := hst.word.cell 4
    have e4 := hst.word.frozen 4
    have d5 : W.cell? ⟨w.heap.size + 1, 5, none⟩ = some x5 := hst.word.cell 5
    have e5 := hst.word.frozen 5
    have d6 : W.cell? ⟨w.heap.size + 1, 6, none⟩ = some x6 := hst.word.cell 6
    have e6 := hst.word.frozen 6
    have d7 : W.cell? ⟨w.heap.size + 1, 7, none⟩ = some x7 := hst.word.cell 7
    have e7 := hst.word.frozen 7
    have Hl := Lib.hid hl
    have hple := hst.ple
    clear hl
    go_step3
    by_cases hp : p < s.size
    · obtain ⟨f, rfl⟩ : ∃ g, f = g + 1 := ⟨f - 1, by omega⟩
      have HB := Lib.hid (B_at hp)
      have st := hst.zero
      obtain ⟨hsl1, hsl2⟩ := signI_le (s[p]'hp).toNat
      go_wp2_with (first | (go_at_call 36; refine (small_any _ _).mono ?_; rintro e w' ⟨rfl, rfl⟩) | (go_at_call 39; refine (digit_any _ _).mono ?_; rintro e w' ⟨rfl, rfl⟩) | (go_at_call 48; refine (dots_any s p hp _).mono ?_; rintro e w' ⟨rfl, rfl⟩) | (go_at_call 61; refine (sign_any _ (UInt8.toNat_lt _) _).mono ?_; rintro e w' ⟨rfl, rfl⟩))
      all_goals try simp only [beq_iff_eq, beq_eq_false_iff_ne, ne_eq] at *
      all_goals have hb' := HB.out
      · refine wp_goto (anyJ (10 * (s.size - (p + 1)) + 9) (JS.between (p + 1) a0 f l v2 _ zeroW _ _ (by rw [show ((p + 1 : Nat) : Int) = (p : Int) + 1 from by omega]; constructor) (st.step (seg_one hp (by omega) (.nil _)) (by omega)) (by omega) ?_))
        rw [← Hl.out, lex_blank hp ((blankB_iff _).2 (by omega))]
      · refine wp_goto (anyJ (10 * (s.size - (p + 1)) + 9) (JS.between (p + 1) a0 f l v2 _ zeroW _ _ (by rw [show ((p + 1 : Nat) : Int) = (p : Int) + 1 from by omega]; constructor) (st.step (seg_one hp (by omega) (.nil _)) (by omega)) (by omega) ?_))
        rw [← Hl.out, lex_blank hp ((blankB_iff _).2 (by omega))]
      · refine wp_goto (anyJ (10 * (s.size - (p + 1)) + 9) (JS.between (p + 1) a0 f l v2 _ zeroW _ _ (by rw [show ((p + 1 : Nat) : Int) = (p : Int) + 1 from by omega]; constructor) (st.step (seg_one hp (by omega) (.nil _)) (by omega)) (by omega) ?_))
        rw [← Hl.out, lex_blank hp ((blankB_iff _).2 (by omega))]
      · refine wp_goto (anyJ (10 * (s.size - (p + 1)) + 9) (JS.between (p + 1) a0 f l v2 _ zeroW _ _ (by rw [show ((p + 1 : Nat) : Int) = (p : Int) + 1 from by omega]; constructor) (st.step (seg_one hp (by omega) (.nil _)) (by omega)) (by omega) ?_))
        rw [← Hl.out, lex_blank hp ((blankB_iff _).2 (by omega))]
      · exact wp_goto (anyJ (10 * (s.size - p) + 8) (JS.token _ p a0 f l v2 _ _ (by constructor) st hp (by unfold TokB; rw [hb']; exact Or.inl ⟨rfl, by omega⟩) (by omega) Hl.out))
      · exact wp_goto (anyJ (10 * (s.size - p) + 8) (JS.token _ p a0 f l v2 _ _ (by constructor) st hp (by unfold TokB; rw [hb']; exact Or.inr (Or.inl ⟨rfl, by assumption⟩)) (by omega) Hl.out))
      · exact wp_goto (anyJ (10 * (s.size - p) + 8) (JS.token _ p a0 f l v2 _ _ (by constructor) st hp (by unfold TokB; rw [hb']; exact Or.inr (Or.inr (Or.inl ⟨rfl, by assumption⟩))) (by omega) Hl.out))
      · exact wp_goto (anyJ (10 * (s.size - p) + 8) (JS.token _ p a0 f l v2 _ _ (by constructor) st hp (by unfold TokB; rw [hb']; exact Or.inr (Or.inr (Or.inr (Or.inl ⟨rfl, by omega⟩)))) (by omega) Hl.out))
      · exact wp_goto (anyJ (10 * (s.size - p) + 8) (JS.token _ p a0 f l v2 _ _ (by constructor) st hp (by unfold TokB; rw [hb']; exact Or.inr (Or.inr (Or.inr (Or.inr ⟨rfl, by omega⟩)))) (by omega) Hl.out))
      · have hd : dotsB s p = true := by assumption
        simp only [dotsB, Bool.and_eq_true, beq_iff_eq] at hd
        have hlt : p + 1 < s.size := by
          by_cases c : p + 1 < s.size
          · exact c
          · have h0 := B_out (s := s) (i := p + 1) (by omega); omega
        refine wp_goto (anyJ (10 * (s.size - p) + 6) (JS.done p (p + 2) a0 f l v2 ⟨9, p, p + 2, ByteArray.empty, 0, 0⟩ _ _ (by rw [show ((p + 2 : Nat) : Int) = (p : Int) + 2 from by omega]; constructor) ((st.setW 0 (.int .i64 9)).of_eq rfl) (by omega) (by omega) ?_ rfl rfl (by omega) ?_))
        · exact seg_one hp (by omega) (seg_one hlt (by omega) (.nil _))
        · rw [← Hl.out, lex_word hp (by omega) (by omega), word_dots hd.1, if_pos hd.2, hd.2]; rfl
      · have hd : dotsB s p = false := by assumption
        have h46 : B s p = 46 := by omega
        have h2 : ¬ B s (p + 1) = 46 := fun e => by simp [dotsB, h46, e] at hd
        change bodyPost Tryd.prog Tryd.f40 (Post s w) Exit.ret _ _
        go_ret2
        refine Or.inr ⟨l, p + 1, ?_, ret_val (by first | rfl | (push_cast; rfl)), st.below⟩
        rw [← Hl.out, lex_word hp (by omega) (by omega), word_dots h46, if_neg h2, if_neg (by simp [h2])]
      · have hsg : 0 ≤ signI (s[p]'hp).toNat := by assumption
        have hsn0 := signI_pos hsg
        have hsi : 4 + signI (s[p]'hp).toNat = (signN (B s p) : Int) := by rw [signI_eq hsn0, hb']
        have hsn : ¬ signN (B s p) = 0 := by rw [hb']; exact hsn0
        refine wp_goto (anyJ (10 * (s.size - p) + 6) (JS.done p (p + 1) a0 f l v2 ⟨signN (B s p), p, p + 1, ByteArray.empty, 0, 0⟩ _ _ (by rw [show ((p + 1 : Nat) : Int) = (p : Int) + 1 from by omega]; constructor) ((st.setW 0 (.int .i64 (4 + signI (s[p]'hp).toNat))).of_eq (by rw [hsi]; rfl)) (by omega) (by omega) ?_ rfl rfl (by omega) ?_))
        · have := sign_lt hsn; exact seg_one hp (by omega) (.nil _)
        · rw [← Hl.out, lex_word hp (by omega) (by omega), word_sign hsn]; rfl
      · have hsg : signI (s[p]'hp).toNat < 0 := by assumption
        have hsn := signI_neg (c := (s[p]'hp).toNat) (by omega)
        have hs1 : smallB (s[p]'hp).toNat = false := by assumption
        have hs2 : digitB (s[p]'hp).toNat = false := by assumption
        rw [← hb'] at hsn hs1 hs2
        change bodyPost Tryd.prog Tryd.f40 (Post s w) Exit.ret _ _
        go_ret2
        refine Or.inr ⟨l, p, ?_, ret_val (by first | rfl | (push_cast; rfl)), st.below⟩
        rw [← Hl.out, lex_word hp (by omega) (by omega), word_none (by rw [hs1]; decide) (by rw [hs2]; decide) (by omega) (by omega) (by omega) hsn]; rfl

    · obtain rfl : p = s.size := by omega
      go_wp2_with fail
      change bodyPost Tryd.prog Tryd.f40 (Post s w) Exit.ret _ _
      go_ret2
      exact Or.inl ⟨l, v2, by rw [← Hl.out, lex_end _ _ _ _ (Nat.le_refl _)], rfl, owns_mono hst.row (by omega), hst.len, hst.nil, hst.below⟩
  case pass =>
    intro n lbl a W hJ
    cases hJ with
    | between p a0 f l v2 v6 ws _ _ hf hst hfu hl =>
      cases hf with | mk u3 u8 u9 u10 u11 u12 u13 u14 u15 u16 u17 u18 u19 u20 u21 u22 u23 u24 u25 u26 u27 u28 u29 u30 u31 u32 u33 u34 u35 u36 u37 u38 u39 u40 u41 u42 u43 u44 u45 u46 u47 u48 u49 u50 u51 u52 u53 u54 u55 u56 u57 u58 u59 u60 u61 u62 u63 u64 u65 u66 u67 u68 u69 u70 u71 u72 u73 u74 u75 u76 u77 u78 u79 u80 u81 u82 u83 u84 u85 u86 u87 u88 u89 u90 u91 u92 u93 u94 u95 u96 u97 u98 u99 u100 u101 u102 u103 u104 u105 u106 u107 u108 u109 u110 u111 u112 u113 u114 u115 u116 u117 u118 u119 u120 u121 u122 u123 u124 u125 u126 u127 u128 u129 u130 u131 u132 u133 u134 u135 u136 u137 u138 u139 u140 u141 u142 u143 u144 u145 u146 u147 u148 u149 u150 u151 u152 u153 u154 =>
      obtain ⟨x0, x1, x2, x3, x4, x5, x6, x7, rfl⟩ := list8 hst.wlen
      have d0 : W.cell? ⟨w.heap.size + 1, 0, none⟩ = some x0 := hst.word.cell 0
      have e0 := hst.word.frozen 0
      have d1 : W.cell? ⟨w.heap.size + 1, 1, none⟩ = some x1 := hst.word.cell 1
      have e1 := hst.word.frozen 1
      have d2 : W.cell? ⟨w.heap.size + 1, 2, none⟩ = some x2 := hst.word.cell 2
      have e2 := hst.word.frozen 2
      have d3 : W.cell? ⟨w.heap.size + 1, 3, none⟩ = some x3 := hst.word.cell 3
      have e3 := hst.word.frozen 3
      have d4 : W.cell? ⟨w.heap.size + 1, 4, none⟩ = some x4 := hst.word.cell 4
      have e4 := hst.word.frozen 4
      have d5 : W.cell? ⟨w.heap.size + 1, 5, none⟩ = some x5 := hst.word.cell 5
      have e5 := hst.word.frozen 5
      have d6 : W.cell? ⟨w.heap.size + 1, 6, none⟩ = some x6 := hst.word.cell 6
      have e6 := hst.word.frozen 6
      have d7 : W.cell? ⟨w.heap.size + 1, 7, none⟩ = some x7 := hst.word.cell 7
      have e7 := hst.word.frozen 7
      have Hl := Lib.hid hl
      have hple := hst.ple
      clear hl
      refine ⟨_, rfl, ?_⟩
      by_cases hp : p < s.size
      · obtain ⟨f, rfl⟩ : ∃ g, f = g + 1 := ⟨f - 1, by omega⟩
        have HB := Lib.hid (B_at hp)
        have st := hst.zero
        obtain ⟨hsl1, hsl2⟩ := signI_le (s[p]'hp).toNat
        go_wp2_with (first | (go_at_call 36; refine (small_any _ _).mono ?_; rintro e w' ⟨rfl, rfl⟩) | (go_at_call 39; refine (digit_any _ _).mono ?_; rintro e w' ⟨rfl, rfl⟩) | (go_at_call 48; refine (dots_any s p hp _).mono ?_; rintro e w' ⟨rfl, rfl⟩) | (go_at_call 61; refine (sign_any _ (UInt8.toNat_lt _) _).mono ?_; rintro e w' ⟨rfl, rfl⟩))
        all_goals try simp only [beq_iff_eq, beq_eq_false_iff_ne, ne_eq] at *
        all_goals have hb' := HB.out
        · refine wp_goto (Less.mk (10 * (s.size - (p + 1)) + 9) (by omega) (JS.between (p + 1) a0 f l v2 _ zeroW _ _ (by rw [show ((p + 1 : Nat) : Int) = (p : Int) + 1 from by omega]; constructor) (st.step (seg_one hp (by omega) (.nil _)) (by omega)) (by omega) ?_))
          rw [← Hl.out, lex_blank hp ((blankB_iff _).2 (by omega))]
        · refine wp_goto (Less.mk (10 * (s.size - (p + 1)) + 9) (by omega) (JS.between (p + 1) a0 f l v2 _ zeroW _ _ (by rw [show ((p + 1 : Nat) : Int) = (p : Int) + 1 from by omega]; constructor) (st.step (seg_one hp (by omega) (.nil _)) (by omega)) (by omega) ?_))
          rw [← Hl.out, lex_blank hp ((blankB_iff _).2 (by omega))]
        · refine wp_goto (Less.mk (10 * (s.size - (p + 1)) + 9) (by omega) (JS.between (p + 1) a0 f l v2 _ zeroW _ _ (by rw [show ((p + 1 : Nat) : Int) = (p : Int) + 1 from by omega]; constructor) (st.step (seg_one hp (by omega) (.nil _)) (by omega)) (by omega) ?_))
          rw [← Hl.out, lex_blank hp ((blankB_iff _).2 (by omega))]
        · refine wp_goto (Less.mk (10 * (s.size - (p + 1)) + 9) (by omega) (JS.between (p + 1) a0 f l v2 _ zeroW _ _ (by rw [show ((p + 1 : Nat) : Int) = (p : Int) + 1 from by omega]; constructor) (st.step (seg_one hp (by omega) (.nil _)) (by omega)) (by omega) ?_))
          rw [← Hl.out, lex_blank hp ((blankB_iff _).2 (by omega))]
        · exact wp_goto (Less.mk (10 * (s.size - p) + 8) (by omega) (JS.token _ p a0 f l v2 _ _ (by constructor) st hp (by unfold TokB; rw [hb']; exact Or.inl ⟨rfl, by omega⟩) (by omega) Hl.out))
        · exact wp_goto (Less.mk (10 * (s.size - p) + 8) (by omega) (JS.token _ p a0 f l v2 _ _ (by constructor) st hp (by unfold TokB; rw [hb']; exact Or.inr (Or.inl ⟨rfl, by assumption⟩)) (by omega) Hl.out))
        · exact wp_goto (Less.mk (10 * (s.size - p) + 8) (by omega) (JS.token _ p a0 f l v2 _ _ (by constructor) st hp (by unfold TokB; rw [hb']; exact Or.inr (Or.inr (Or.inl ⟨rfl, by assumption⟩))) (by omega) Hl.out))
        · exact wp_goto (Less.mk (10 * (s.size - p) + 8) (by omega) (JS.token _ p a0 f l v2 _ _ (by constructor) st hp (by unfold TokB; rw [hb']; exact Or.inr (Or.inr (Or.inr (Or.inl ⟨rfl, by omega⟩)))) (by omega) Hl.out))
        · exact wp_goto (Less.mk (10 * (s.size - p) + 8) (by omega) (JS.token _ p a0 f l v2 _ _ (by constructor) st hp (by unfold TokB; rw [hb']; exact Or.inr (Or.inr (Or.inr (Or.inr ⟨rfl, by omega⟩)))) (by omega) Hl.out))
        · have hd : dotsB s p = true := by assumption
          simp only [dotsB, Bool.and_eq_true, beq_iff_eq] at hd
          have hlt : p + 1 < s.size := by
            by_cases c : p + 1 < s.size
            · exact c
            · have h0 := B_out (s := s) (i := p + 1) (by omega); omega
          refine wp_goto (Less.mk (10 * (s.size - p) + 6) (by omega) (JS.done p (p + 2) a0 f l v2 ⟨9, p, p + 2, ByteArray.empty, 0, 0⟩ _ _ (by rw [show ((p + 2 : Nat) : Int) = (p : Int) + 2 from by omega]; constructor) ((st.setW 0 (.int .i64 9)).of_eq rfl) (by omega) (by omega) ?_ rfl rfl (by omega) ?_))
          · exact seg_one hp (by omega) (seg_one hlt (by omega) (.nil _))
          · rw [← Hl.out, lex_word hp (by omega) (by omega), word_dots hd.1, if_pos hd.2, hd.2]; rfl
        · have hd : dotsB s p = false := by assumption
          have h46 : B s p = 46 := by omega
          have h2 : ¬ B s (p + 1) = 46 := fun e => by simp [dotsB, h46, e] at hd
          change bodyPost Tryd.prog Tryd.f40 (Post s w) Exit.ret _ _
          go_ret2
          refine Or.inr ⟨l, p + 1, ?_, ret_val (by first | rfl | (push_cast; rfl)), st.below⟩
          rw [← Hl.out, lex_word hp (by omega) (by omega), word_dots h46, if_neg h2, if_neg (by simp [h2])]
        · have hsg : 0 ≤ signI (s[p]'hp).toNat := by assumption
          have hsn0 := signI_pos hsg
          have hsi : 4 + signI (s[p]'hp).toNat = (signN (B s p) : Int) := by rw [signI_eq hsn0, hb']
          have hsn : ¬ signN (B s p) = 0 := by rw [hb']; exact hsn0
          refine wp_goto (Less.mk (10 * (s.size - p) + 6) (by omega) (JS.done p (p + 1) a0 f l v2 ⟨signN (B s p), p, p + 1, ByteArray.empty, 0, 0⟩ _ _ (by rw [show ((p + 1 : Nat) : Int) = (p : Int) + 1 from by omega]; constructor) ((st.setW 0 (.int .i64 (4 + signI (s[p]'hp).toNat))).of_eq (by rw [hsi]; rfl)) (by omega) (by omega) ?_ rfl rfl (by omega) ?_))
          · have := sign_lt hsn; exact seg_one hp (by omega) (.nil _)
          · rw [← Hl.out, lex_word hp (by omega) (by omega), word_sign hsn]; rfl
        · have hsg : signI (s[p]'hp).toNat < 0 := by assumption
          have hsn := signI_neg (c := (s[p]'hp).toNat) (by omega)
          have hs1 : smallB (s[p]'hp).toNat = false := by assumption
          have hs2 : digitB (s[p]'hp).toNat = false := by assumption
          rw [← hb'] at hsn hs1 hs2
          change bodyPost Tryd.prog Tryd.f40 (Post s w) Exit.ret _ _
          go_ret2
          refine Or.inr ⟨l, p, ?_, ret_val (by first | rfl | (push_cast; rfl)), st.below⟩
          rw [← Hl.out, lex_word hp (by omega) (by omega), word_none (by rw [hs1]; decide) (by rw [hs2]; decide) (by omega) (by omega) (by omega) hsn]; rfl

      · obtain rfl : p = s.size := by omega
        go_wp2_with fail
        change bodyPost Tryd.prog Tryd.f40 (Post s w) Exit.ret _ _
        go_ret2
        exact Or.inl ⟨l, v2, by rw [← Hl.out, lex_end _ _ _ _ (Nat.le_refl _)], rfl, owns_mono hst.row (by omega), hst.len, hst.nil, hst.below⟩
    | token k p a0 f l v2 _ _ hf hst hp hk hfu hl =>
      cases hf with | mk u3 u8 u9 u10 u11 u12 u13 u14 u15 u16 u17 u18 u19 u20 u21 u22 u23 u24 u25 u26 u27 u28 u29 u30 u31 u32 u33 u34 u35 u36 u37 u38 u39 u40 u41 u42 u43 u44 u45 u46 u47 u48 u49 u50 u51 u52 u53 u54 u55 u56 u57 u58 u59 u60 u61 u62 u63 u64 u65 u66 u67 u68 u69 u70 u71 u72 u73 u74 u75 u76 u77 u78 u79 u80 u81 u82 u83 u84 u85 u86 u87 u88 u89 u90 u91 u92 u93 u94 u95 u96 u97 u98 u99 u100 u101 u102 u103 u104 u105 u106 u107 u108 u109 u110 u111 u112 u113 u114 u115 u116 u117 u118 u119 u120 u121 u122 u123 u124 u125 u126 u127 u128 u129 u130 u131 u132 u133 u134 u135 u136 u137 u138 u139 u140 u141 u142 u143 u144 u145 u146 u147 u148 u149 u150 u151 u152 u153 u154 =>
      have d0 : W.cell? ⟨w.heap.size + 1, 0, none⟩ = some (.int .i64 0) := hst.word.cell 0
      have e0 := hst.word.frozen 0
      have d1 : W.cell? ⟨w.heap.size + 1, 1, none⟩ = some (.string { data := #[] }) := hst.word.cell 1
      have e1 := hst.word.frozen 1
      have d2 : W.cell? ⟨w.heap.size + 1, 2, none⟩ = some (.int .i32 0) := hst.word.cell 2
      have e2 := hst.word.frozen 2
      have d3 : W.cell? ⟨w.heap.size + 1, 3, none⟩ = some (.int .i64 0) := hst.word.cell 3
      have e3 := hst.word.frozen 3
      have Hl := Lib.hid hl
      have hple := hst.ple
      have hTW := hst.tabs hT
      clear hl
      rcases hk with ⟨rfl, hk⟩ | ⟨rfl, hk⟩ | ⟨rfl, hk⟩ | ⟨rfl, hk⟩ | ⟨rfl, hk⟩
      · -- a remark
        refine ⟨_, rfl, ?_⟩
        have hlx := lex_remark (f := f) (l := l) hp hk
        rw [Hl.out] at hlx
        have Hx := Lib.hid hlx
        have hsp := remarkN_spec hp hk
        have Hk := Lib.hid hk
        clear hlx hk
        cases hok : (remarkN s p).2 with
        | true =>
          obtain ⟨g1, g2, g3⟩ := hsp hok
          have Hok := Lib.hid hok
          clear hok hsp
          go_wp2_with (go_at_call 62; refine (remark_any s p _ hs' hple hTW).mono ?_; rintro e w' ⟨rfl, hB2⟩; rw [Hok.out])
          exact wp_goto (Less.mk (10 * (s.size - (remarkN s p).1) + 9) (by omega) (JS.between (remarkN s p).1 a0 f l v2 _ zeroW _ _ (by constructor) ((hst.later hB2).step g3 g2) (by omega) (by rw [Hx.out, if_pos Hok.out])))
        | false =>
          have Hok := Lib.hid hok
          clear hok hsp
          go_wp2_with (go_at_call 62; refine (remark_any s p _ hs' hple hTW).mono ?_; rintro e w' ⟨rfl, hB2⟩; rw [Hok.out])
          change bodyPost Tryd.prog Tryd.f40 (Post s w) Exit.ret _ _
          go_ret2
          exact Or.inr ⟨l, (remarkN s p).1, by rw [Hx.out, if_neg (by rw [Hok.out]; decide)], rfl, (hst.later hB2).below⟩
      · -- a name
        refine ⟨_, rfl, ?_⟩
        have hc := (smallB_iff _).1 hk
        have hw0 := word_name hk
        obtain ⟨g1, g2, g3⟩ := nameN_spec hp hk
        have g4 := name_seg hp hk
        have Hk := Lib.hid hk
        have Hw0 := Lib.hid hw0
        clear hk hw0 g3
        cases hok : (nameN s p).2 with
        | true =>
          have Hok := Lib.hid hok
          clear hok
          go_wp2_with (go_at_call 63; refine (name_any s p _ hs' hple).mono ?_; rintro e w' ⟨rfl, rfl⟩; rw [Hok.out])
          refine wp_goto (Less.mk (10 * (s.size - p) + 7) (by omega) (JS.apart p (nameN s p).1 a0 f l v2 ⟨1, p, (nameN s p).1, s.extract p (nameN s p).1, 0, 0⟩ _ _ (by constructor) (((hst.setW 0 (.int .i64 1)).setW 1 (.string (s.extract p (nameN s p).1))).of_eq rfl) g1 g2 g4 rfl rfl (by omega) ?_))
          rw [← Hl.out]
          exact lex_apart hp (by omega) (by omega) (by rw [Hw0.out, if_pos Hok.out])
        | false =>
          have Hok := Lib.hid hok
          clear hok
          go_wp2_with (go_at_call 63; refine (name_any s p _ hs' hple).mono ?_; rintro e w' ⟨rfl, rfl⟩; rw [Hok.out])
          change bodyPost Tryd.prog Tryd.f40 (Post s w) Exit.ret _ _
          go_ret2
          refine Or.inr ⟨l, (nameN s p).1, ?_, rfl, (hst.setW 0 (.int .i64 1)).below⟩
          have hw1 := Hw0.out
          rw [if_neg (by rw [Hok.out]; decide)] at hw1
          rw [← Hl.out, lex_word hp (by omega) (by omega), hw1]; rfl
      · -- a number
        refine ⟨_, rfl, ?_⟩
        have hc := (digitB_iff _).1 hk
        have hw0 := word_number hk
        obtain ⟨g1, g2, g3⟩ := numberN_spec hp hk
        have g4 := number_seg hp hk
        have Hk := Lib.hid hk
        have Hw0 := Lib.hid hw0
        clear hk hw0 g3
        cases hok : (numberN s p).2.2 with
        | true =>
          have Hok := Lib.hid hok
          clear hok
          go_wp2_with (go_at_call 64; refine (number_any s p _ hs' hple).mono ?_; rintro e w' ⟨rfl, rfl⟩; rw [Hok.out])
          refine wp_goto (Less.mk (10 * (s.size - p) + 7) (by omega) (JS.apart p (numberN s p).2.1 a0 f l v2 ⟨2, p, (numberN s p).2.1, ByteArray.empty, 0, (numberN s p).1⟩ _ _ (by constructor) (((hst.setW 0 (.int .i64 2)).setW 3 (.int .i64 (numberN s p).1)).of_eq rfl) g1 g2 g4 rfl rfl (by omega) ?_))
          rw [← Hl.out]
          exact lex_apart hp (by omega) (by omega) (by rw [Hw0.out, if_pos Hok.out])
        | false =>
          have Hok := Lib.hid hok
          clear hok
          go_wp2_with (go_at_call 64; refine (number_any s p _ hs' hple).mono ?_; rintro e w' ⟨rfl, rfl⟩; rw [Hok.out])
          change bodyPost Tryd.prog Tryd.f40 (Post s w) Exit.ret _ _
          go_ret2
          refine Or.inr ⟨l, (numberN s p).2.1, ?_, rfl, ((hst.setW 0 (.int .i64 2)).setW 3 (.int .i64 (numberN s p).1)).below⟩
          have hw1 := Hw0.out
          rw [if_neg (by rw [Hok.out]; decide)] at hw1
          rw [← Hl.out, lex_word hp (by omega) (by omega), hw1]; rfl
      · -- a rune with U+
        refine ⟨_, rfl, ?_⟩
        have hw0 := word_point hk
        obtain ⟨g1, g2, g3⟩ := pointN_spec hp hk
        have g4 := point_seg hp hk
        have Hk := Lib.hid hk
        have Hw0 := Lib.hid hw0
        clear hk hw0 g3
        cases hok : (pointN s p).2.2 with
        | true =>
          have Hok := Lib.hid hok
          clear hok
          go_wp2_with (go_at_call 65; refine (point_any s p _ hs' hp).mono ?_; rintro e w' ⟨r, rfl, hr, rfl⟩; rw [Hok.out]; rw [hr Hok.out])
          refine wp_goto (Less.mk (10 * (s.size - p) + 7) (by omega) (JS.apart p (pointN s p).2.1 a0 f l v2 ⟨3, p, (pointN s p).2.1, ByteArray.empty, (pointN s p).1, 0⟩ _ _ (by constructor) (((hst.setW 0 (.int .i64 3)).setW 2 (.int .i32 (pointN s p).1)).of_eq rfl) g1 g2 g4 rfl rfl (by omega) ?_))
          rw [← Hl.out]
          exact lex_apart hp (by have := Hk.out; omega) (by have := Hk.out; omega) (by rw [Hw0.out, if_pos Hok.out])
        | false =>
          have Hok := Lib.hid hok
          clear hok
          go_wp2_with (go_at_call 65; refine (point_any s p _ hs' hp).mono ?_; rintro e w' ⟨r, rfl, hr, rfl⟩; rw [Hok.out]; clear hr)
          change bodyPost Tryd.prog Tryd.f40 (Post s w) Exit.ret _ _
          go_ret2
          refine Or.inr ⟨l, (pointN s p).2.1, ?_, rfl, ((hst.setW 0 (.int .i64 3)).setW 2 (.int .i32 _)).below⟩
          have := Hk.out
          have hw1 := Hw0.out
          rw [if_neg (by rw [Hok.out]; decide)] at hw1
          rw [← Hl.out, lex_word hp (by omega) (by omega), hw1]; rfl
      · -- a rune between two '
        refine ⟨_, rfl, ?_⟩
        have hw0 := word_quoted hk
        have hsp := quotedN_spec hp hk
        have Hk := Lib.hid hk
        have Hw0 := Lib.hid hw0
        have hst1 := hst.setW 0 (.int .i64 3)
        have hTW1 := hst1.tabs hT
        clear hk hw0
        cases hok : (quotedN s p).2.2 with
        | true =>
          obtain ⟨g1, g2, g3⟩ := hsp hok
          have Hok := Lib.hid hok
          clear hok hsp
          go_wp2_with fail
          refine (quoted_any s p _ hs' hp hTW1).mono ?_
          rintro e w' ⟨rfl, hB2⟩
          rw [Hok.out]
          have st2 := hst1.later hB2
          have d2' : w'.cell? ⟨w.heap.size + 1, 2, none⟩ = some (.int .i32 0) := st2.word.cell 2
          have e2' := st2.word.frozen 2
          go_wp2_with fail
          refine wp_goto (Less.mk (10 * (s.size - p) + 6) (by omega) (JS.done p (quotedN s p).2.1 a0 f l v2 ⟨3, p, (quotedN s p).2.1, ByteArray.empty, (quotedN s p).1, 0⟩ _ _ (by constructor) ((st2.setW 2 (.int .i32 (quotedN s p).1)).of_eq rfl) g1 g2 g3 rfl rfl (by omega) ?_))
          have := Hk.out
          rw [← Hl.out, lex_word hp (by omega) (by omega), Hw0.out, Hok.out]; rfl
        | false =>
          have Hok := Lib.hid hok
          clear hok hsp
          go_wp2_with fail
          refine (quoted_any s p _ hs' hp hTW1).mono ?_
          rintro e w' ⟨rfl, hB2⟩
          rw [Hok.out]
          have st2 := hst1.later hB2
          have d2' : w'.cell? ⟨w.heap.size + 1, 2, none⟩ = some (.int .i32 0) := st2.word.cell 2
          have e2' := st2.word.frozen 2
          go_wp2_with fail
          change bodyPost Tryd.prog Tryd.f40 (Post s w) Exit.ret _ _
          go_ret2
          refine Or.inr ⟨l, (quotedN s p).2.1, ?_, rfl, (st2.setW 2 (.int .i32 _)).below⟩
          have := Hk.out
          rw [← Hl.out, lex_word hp (by omega) (by omega), Hw0.out, if_neg (by rw [Hok.out]; decide)]
    | apart p q a0 f l v2 wd _ _ hf hst hpq hq hsg hfr hen hfu hl =>
      cases hf with | mk u3 u8 u9 u10 u11 u12 u13 u14 u15 u16 u17 u18 u19 u20 u21 u22 u23 u24 u25 u26 u27 u28 u29 u30 u31 u32 u33 u34 u35 u36 u37 u38 u39 u40 u41 u42 u43 u44 u45 u46 u47 u48 u49 u50 u51 u52 u53 u54 u55 u56 u57 u58 u59 u60 u61 u62 u63 u64 u65 u66 u67 u68 u69 u70 u71 u72 u73 u74 u75 u76 u77 u78 u79 u80 u81 u82 u83 u84 u85 u86 u87 u88 u89 u90 u91 u92 u93 u94 u95 u96 u97 u98 u99 u100 u101 u102 u103 u104 u105 u106 u107 u108 u109 u110 u111 u112 u113 u114 u115 u116 u117 u118 u119 u120 u121 u122 u123 u124 u125 u126 u127 u128 u129 u130 u131 u132 u133 u134 u135 u136 u137 u138 u139 u140 u141 u142 u143 u144 u145 u146 u147 u148 u149 u150 u151 u152 u153 u154 =>
      have hple := hst.ple
      have Hl := Lib.hid hl
      have Hfr := Lib.hid hfr
      have Hen := Lib.hid hen
      clear hl hfr hen
      have hlc0 := lcN_le s a0 a0 0 1 1 (by omega) (by omega) (by omega) (by omega)
      have hlc := lcN_seg hst.seg0 p 1 1 hst.seg.le
      have hlp := lcN_le s p p 0 1 1 (by omega) (by omega) (by omega) (by omega)
      have hto := fun W hW => to_any s w.heap.size a0 p _ _ W hs' hW hple hst.seg hlc0.1 hlc0.2
      rw [← hlc] at hto
      generalize hL : (lcN s p 0 1 1).1 = L at *
      generalize hC : (lcN s p 0 1 1).2 = C at *
      have HL := Lib.hid hL.symm
      have HC := Lib.hid hC.symm
      have Hto := Lib.hid hto
      clear hL hC hlc hlc0 hto
      refine ⟨_, rfl, ?_⟩
      cases hgr : grownB (B s q) with
      | true =>
        have Hgr := Lib.hid hgr
        clear hgr
        go_wp2_with (first | (go_at_call 68; refine (next_any s q _ hs').mono ?_; rintro e w' ⟨rfl, rfl⟩) | (go_at_call 67; refine (grown_any _ _).mono ?_; rintro e w' ⟨rfl, rfl⟩; rw [Hgr.out]))
        change bodyPost Tryd.prog Tryd.f40 (Post s w) Exit.ret _ _
        go_ret2
        exact Or.inr ⟨l, q, by rw [Hl.out, if_pos Hgr.out], rfl, hst.below⟩
      | false =>
        have Hgr := Lib.hid hgr
        clear hgr
        go_wp2_with (first | (go_at_call 68; refine (next_any s q _ hs').mono ?_; rintro e w' ⟨rfl, rfl⟩) | (go_at_call 67; refine (grown_any _ _).mono ?_; rintro e w' ⟨rfl, rfl⟩; rw [Hgr.out]))
        go_step3
        go_wp2_with fail
        refine (Hto.out W hst.cur).mono ?_
        rintro e w2 ⟨rfl, hc2, hk2⟩
        have st2 := hst.turn hc2 hk2 HL.out HC.out
        have d0 : w2.cell? ⟨w.heap.size + 1, 0, none⟩ = some (.int .i64 wd.kind) := st2.word.cell 0
        have d1 : w2.cell? ⟨w.heap.size + 1, 1, none⟩ = some (.string wd.txt) := st2.word.cell 1
        have d2 : w2.cell? ⟨w.heap.size + 1, 2, none⟩ = some (.int .i32 wd.r) := st2.word.cell 2
        have d3 : w2.cell? ⟨w.heap.size + 1, 3, none⟩ = some (.int .i64 wd.n) := st2.word.cell 3
        have d4 : w2.cell? ⟨w.heap.size + 1, 4, none⟩ = some (.int .i64 0) := st2.word.cell 4
        have d5 : w2.cell? ⟨w.heap.size + 1, 5, none⟩ = some (.int .i64 0) := st2.word.cell 5
        have d6 : w2.cell? ⟨w.heap.size + 1, 6, none⟩ = some (.int .i64 0) := st2.word.cell 6
        have d7 : w2.cell? ⟨w.heap.size + 1, 7, none⟩ = some (.int .i64 0) := st2.word.cell 7
        have e4 := st2.word.frozen 4
        have e5 := st2.word.frozen 5
        have e6 := st2.word.frozen 6
        have e7 := st2.word.frozen 7
        have st3 := (((st2.setW 4 (.int .i64 p)).setW 5 (.int .i64 L)).setW 6 (.int .i64 C)).setW 7 (.int .i64 q)
        have hlen := hst.len
        obtain ⟨i0, hi, hz0, hz1, hz2⟩ := info_parts info_Word
        go_wp2_with (at_builtin; refine wpList_append_own _ rfl _ _ 36 rfl (w.heap.size + 2) 41 i0 _ 8 72 Tryd.underlying36 hi hz0 hz1 hz2 rfl (by decide) v2 l.length (l.flatMap (wcells s)) rfl (st3.row.alloc _) ⟨w2.heap.size, 0, none⟩ 1 1 [.int .i64 wd.kind, .string wd.txt, .int .i32 wd.r, .int .i64 wd.n, .int .i64 p, .int .i64 L, .int .i64 C, .int .i64 q] rfl rfl (cells_new _ _ (by simp [World.setCell]) _ _) (by simp [Value.oneCell']) (by unfold maxLen; omega) (by omega) (by have := st3.lt; simp at this ⊢; omega) ?_; intro v' w4 hown' hgrow _)
        have hn : [Value.int .i64 wd.kind, .string wd.txt, .int .i32 wd.r, .int .i64 wd.n, .int .i64 p, .int .i64 L, .int .i64 C, .int .i64 q] = wcells s wd := by rw [wcells, Hfr.out, Hen.out, ← HL.out, ← HC.out]
        rw [hn] at hown'
        have st4 := st3.next hown' hgrow hpq hq hsg
        exact wp_goto (Less.mk (10 * (s.size - q) + 9) (by omega) (JS.between q p f (l ++ [wd]) v' _ _ _ _ (by constructor) st4 hfu (by rw [Hl.out, if_neg (by rw [Hgr.out]; decide)])))
    | done p q a0 f l v2 wd _ _ hf hst hpq hq hsg hfr hen hfu hl =>
      cases hf with | mk u3 u8 u9 u10 u11 u12 u13 u14 u15 u16 u17 u18 u19 u20 u21 u22 u23 u24 u25 u26 u27 u28 u29 u30 u31 u32 u33 u34 u35 u36 u37 u38 u39 u40 u41 u42 u43 u44 u45 u46 u47 u48 u49 u50 u51 u52 u53 u54 u55 u56 u57 u58 u59 u60 u61 u62 u63 u64 u65 u66 u67 u68 u69 u70 u71 u72 u73 u74 u75 u76 u77 u78 u79 u80 u81 u82 u83 u84 u85 u86 u87 u88 u89 u90 u91 u92 u93 u94 u95 u96 u97 u98 u99 u100 u101 u102 u103 u104 u105 u106 u107 u108 u109 u110 u111 u112 u113 u114 u115 u116 u117 u118 u119 u120 u121 u122 u123 u124 u125 u126 u127 u128 u129 u130 u131 u132 u133 u134 u135 u136 u137 u138 u139 u140 u141 u142 u143 u144 u145 u146 u147 u148 u149 u150 u151 u152 u153 u154 =>
      have hple := hst.ple
      have Hl := Lib.hid hl
      have Hfr := Lib.hid hfr
      have Hen := Lib.hid hen
      clear hl hfr hen
      have hlc0 := lcN_le s a0 a0 0 1 1 (by omega) (by omega) (by omega) (by omega)
      have hlc := lcN_seg hst.seg0 p 1 1 hst.seg.le
      have hlp := lcN_le s p p 0 1 1 (by omega) (by omega) (by omega) (by omega)
      have hto := fun W hW => to_any s w.heap.size a0 p _ _ W hs' hW hple hst.seg hlc0.1 hlc0.2
      rw [← hlc] at hto
      generalize hL : (lcN s p 0 1 1).1 = L at *
      generalize hC : (lcN s p 0 1 1).2 = C at *
      have HL := Lib.hid hL.symm
      have HC := Lib.hid hC.symm
      have Hto := Lib.hid hto
      clear hL hC hlc hlc0 hto
      refine ⟨_, rfl, ?_⟩
      go_wp2_with fail
      refine (Hto.out W hst.cur).mono ?_
      rintro e w2 ⟨rfl, hc2, hk2⟩
      have st2 := hst.turn hc2 hk2 HL.out HC.out
      have d0 : w2.cell? ⟨w.heap.size + 1, 0, none⟩ = some (.int .i64 wd.kind) := st2.word.cell 0
      have d1 : w2.cell? ⟨w.heap.size + 1, 1, none⟩ = some (.string wd.txt) := st2.word.cell 1
      have d2 : w2.cell? ⟨w.heap.size + 1, 2, none⟩ = some (.int .i32 wd.r) := st2.word.cell 2
      have d3 : w2.cell? ⟨w.heap.size + 1, 3, none⟩ = some (.int .i64 wd.n) := st2.word.cell 3
      have d4 : w2.cell? ⟨w.heap.size + 1, 4, none⟩ = some (.int .i64 0) := st2.word.cell 4
      have d5 : w2.cell? ⟨w.heap.size + 1, 5, none⟩ = some (.int .i64 0) := st2.word.cell 5
      have d6 : w2.cell? ⟨w.heap.size + 1, 6, none⟩ = some (.int .i64 0) := st2.word.cell 6
      have d7 : w2.cell? ⟨w.heap.size + 1, 7, none⟩ = some (.int .i64 0) := st2.word.cell 7
      have e4 := st2.word.frozen 4
      have e5 := st2.word.frozen 5
      have e6 := st2.word.frozen 6
      have e7 := st2.word.frozen 7
      have st3 := (((st2.setW 4 (.int .i64 p)).setW 5 (.int .i64 L)).setW 6 (.int .i64 C)).setW 7 (.int .i64 q)
      have hlen := hst.len
      obtain ⟨i0, hi, hz0, hz1, hz2⟩ := info_parts info_Word
      go_wp2_with (at_builtin; refine wpList_append_own _ rfl _ _ 36 rfl (w.heap.size + 2) 41 i0 _ 8 72 Tryd.underlying36 hi hz0 hz1 hz2 rfl (by decide) v2 l.length (l.flatMap (wcells s)) rfl (st3.row.alloc _) ⟨w2.heap.size, 0, none⟩ 1 1 [.int .i64 wd.kind, .string wd.txt, .int .i32 wd.r, .int .i64 wd.n, .int .i64 p, .int .i64 L, .int .i64 C, .int .i64 q] rfl rfl (cells_new _ _ (by simp [World.setCell]) _ _) (by simp [Value.oneCell']) (by unfold maxLen; omega) (by omega) (by have := st3.lt; simp at this ⊢; omega) ?_; intro v' w4 hown' hgrow _)
      have hn : [Value.int .i64 wd.kind, .string wd.txt, .int .i32 wd.r, .int .i64 wd.n, .int .i64 p, .int .i64 L, .int .i64 C, .int .i64 q] = wcells s wd := by rw [wcells, Hfr.out, Hen.out, ← HL.out, ← HC.out]
      rw [hn] at hown'
      have st4 := st3.next hown' hgrow hpq hq hsg
      exact wp_goto (Less.mk (10 * (s.size - q) + 9) (by omega) (JS.between q p f (l ++ [wd]) v' _ _ _ _ (by constructor) st4 hfu Hl.out.symm))
end Go.Proofs.YtpdaciljdcfikaaDoor
