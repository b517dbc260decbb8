/- Plain: a text of at most 32 bytes is legal just if the document's Legal says so. -/
import Derived.Test.YtpdaciljdcfikaaDoorRefLegal
namespace Go.Proofs.YtpdaciljdcfikaaDoor
open Go
set_option linter.unusedVariables false
set_option linter.unusedSimpArgs false

theorem lexGo_app (s : ByteArray) : ∀ f p l, p ≤ s.size → ∃ t, (lexGo s f p l).1 = l ++ t ∧ ∀ w ∈ t, p ≤ w.fr := by
  intro f
  induction f with
  | zero => intro p l _; exact ⟨[], by simp [lexGo], by simp⟩
  | succ f ih =>
    intro p l hps
    rw [lexGo]
    split
    · rename_i hp
      split
      · obtain ⟨t, h1, h2⟩ := ih (p + 1) l (by omega)
        exact ⟨t, h1, fun w hw => by have := h2 w hw; omega⟩
      · split
        · have hr := remarkGo_le s (s.size - p) p (by omega)
          have hr2 : p ≤ (remarkN s p).1 := hr.2
          split
          · obtain ⟨t, h1, h2⟩ := ih (remarkN s p).1 l hr.1
            exact ⟨t, h1, fun w hw => by have := h2 w hw; omega⟩
          · exact ⟨[], by simp, by simp⟩
        · have hw := wordN_le hp
          split
          · rename_i hok
            obtain ⟨t, h1, h2⟩ := ih (wordN s p).2.1 (l ++ [(wordN s p).1]) hw.1
            refine ⟨(wordN s p).1 :: t, by rw [h1]; simp, fun w hw' => ?_⟩
            rcases List.mem_cons.1 hw' with rfl | hw'
            · rw [wordN_fr hok]; exact Nat.le_refl _
            · have := h2 w hw'; omega
          · exact ⟨[], by simp, by simp⟩
    · exact ⟨[], by simp, by simp⟩
theorem nameGo_all (s : ByteArray) (hs : s.size ≤ 32) (h : ∀ i, i < s.size → nameB (B s i) = true) : ∀ f i, i + f = s.size → nameGo s 0 f i = (s.size, true) := by
  intro f
  induction f with
  | zero => intro i hi; rw [nameGo, show i = s.size by omega]
  | succ f ih =>
    intro i hi
    rw [nameGo, if_pos (h i (by omega)), if_neg (by omega)]
    exact ih _ (by omega)
theorem legal_iff {s : ByteArray} (hs : s.size ≤ 32) : legalB s = rlegalB s := by
  rw [Bool.eq_iff_iff]
  constructor
  · intro h
    unfold legalB at h
    obtain ⟨h1, h2, h3, h4⟩ := of_decide_eq_true h
    have hn : nameN s 0 = (s.size, true) := by unfold nameN; exact nameGo_all s hs h4 _ _ (by omega)
    have hw : wordN s 0 = (⟨1, 0, s.size, s.extract 0 s.size, 0, 0⟩, s.size, true) := by
      rw [word_name h3, hn, if_pos rfl, apartN, B_out (s := s) (i := s.size) (Nat.le_refl _)]; rfl
    have hsm := (smallB_iff _).1 h3
    have hl : lexN s = ([⟨1, 0, s.size, s.extract 0 s.size, 0, 0⟩], none) := by
      unfold lexN
      obtain ⟨k, hk⟩ : ∃ k, s.size = k + 1 := ⟨s.size - 1, by omega⟩
      have e := lex_word (s := s) (f := k) (p := 0) (l := []) (by omega) (by omega) (by omega)
      rw [hw, if_pos rfl] at e
      rw [show lexGo s s.size 0 [] = lexGo s (k + 1) 0 [] by rw [hk], e]
      exact lex_end s k _ _ (Nat.le_refl _)
    obtain ⟨e1, e2, e3⟩ := good_spec (by omega) hl
    unfold rlegalB
    rw [e1, e3]
    simp
  · intro h
    unfold rlegalB at h
    rw [Bool.and_eq_true, beq_iff_eq] at h
    obtain ⟨he, hm⟩ := h
    cases hl : wdsN s with
    | nil => rw [hl] at hm; cases hm
    | cons wd t =>
      cases t with
      | cons _ _ => rw [hl] at hm; cases hm
      | nil =>
        rw [hl] at hm
        simp only [Bool.and_eq_true, beq_iff_eq] at hm
        obtain ⟨⟨m1, m2⟩, m3⟩ := hm
        cases hx : lexN s with
        | mk l o =>
          cases o with
          | some q =>
            obtain ⟨e1, e2, e3⟩ := bad_spec (by omega) hx
            rw [e3] at hl; cases hl
          | none =>
            obtain ⟨e1, e2, e3⟩ := good_spec (by omega) hx
            rw [e3] at hl
            subst hl
            unfold lexN at hx
            have h0 : 0 < s.size := by
              by_cases c : 0 < s.size
              · exact c
              · rw [show s.size = 0 by omega] at hx
                simp [lexGo] at hx
            obtain ⟨k, hk⟩ : ∃ k, s.size = k + 1 := ⟨s.size - 1, by omega⟩
            rw [show lexGo s s.size 0 [] = lexGo s (k + 1) 0 [] by rw [hk]] at hx
            by_cases hb : blankB (B s 0) = true
            · rw [lex_blank h0 hb] at hx
              obtain ⟨t, h1, h2⟩ := lexGo_app s k 1 [] (by omega)
              rw [hx] at h1
              have := h2 wd (by rw [← List.nil_append t, ← h1]; simp)
              omega
            · by_cases h35 : B s 0 = 35
              · rw [lex_remark h0 h35] at hx
                have hr := fun ok => remarkN_spec h0 h35 ok
                split at hx
                · rename_i hok
                  obtain ⟨t, h1, h2⟩ := lexGo_app s k (remarkN s 0).1 [] (hr hok).2.1
                  rw [hx] at h1
                  have := h2 wd (by rw [← List.nil_append t, ← h1]; simp)
                  have := (hr hok).1
                  omega
                · cases hx
              · rw [lex_word h0 (fun c => hb ((blankB_iff _).2 c)) h35] at hx
                have hwl := wordN_le h0
                split at hx
                · rename_i hok
                  obtain ⟨t, h1, h2⟩ := lexGo_app s k (wordN s 0).2.1 ([] ++ [(wordN s 0).1]) hwl.1
                  rw [hx] at h1
                  have hwd : wd = (wordN s 0).1 := by
                    simp only [List.nil_append, List.cons_append, List.cons.injEq] at h1
                    exact h1.1
                  have hkind : (wordN s 0).1.kind = 1 := by rw [← hwd]; exact m1
                  have hen : (wordN s 0).1.en = s.size := by rw [← hwd]; exact m3
                  have hsm : smallB (B s 0) = true := by
                    cases c : smallB (B s 0) with
                    | true => rfl
                    | false =>
                      exfalso
                      unfold wordN apartN at hkind
                      rw [c, if_neg (by decide)] at hkind
                      have hs0 : signN (B s 0) = 0 ∨ 4 ≤ signN (B s 0) := by
                        unfold signN; repeat' split
                        all_goals omega
                      repeat' split at hkind
                      all_goals (simp only [] at hkind; try omega)
                  rw [word_name hsm] at hen hok
                  split at hen
                  · simp only [apartN] at hen
                    obtain ⟨n1, n2, n3⟩ := nameN_spec h0 hsm
                    unfold legalB
                    exact decide_eq_true ⟨by omega, hs, hsm, fun i hi => n3 i (by omega) (by rw [hen]; exact hi)⟩
                  · rename_i c
                    rw [if_neg c] at hok; cases hok
                · cases hx
end Go.Proofs.YtpdaciljdcfikaaDoor
