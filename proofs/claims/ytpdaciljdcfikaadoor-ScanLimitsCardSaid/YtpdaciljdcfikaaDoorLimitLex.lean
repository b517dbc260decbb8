/- Plain: the words of a text that is one byte over and over: blanks, signs, a remark, line ends. -/
import Derived.Test.YtpdaciljdcfikaaDoorLexRef
import Derived.Test.YtpdaciljdcfikaaDoorLexBound
namespace Go.Proofs.YtpdaciljdcfikaaDoor
open Go
set_option linter.unusedVariables false
set_option linter.unusedSimpArgs false

theorem fill_blank {s : ByteArray} {c : Nat} (hc : c = 32 ∨ c = 10) (h : ∀ i, i < s.size → B s i = c) : ∀ f p l, lexGo s f p l = (l, none) := by
  intro f
  induction f with
  | zero => intro p l; rfl
  | succ f ih =>
    intro p l
    by_cases hp : p < s.size
    · rw [lex_blank hp ((blankB_iff _).2 (by have := h p hp; omega))]
      exact ih _ _
    · exact lex_end s _ l p (by omega)
theorem lex_fill_blank {s : ByteArray} {c : Nat} (hc : c = 32 ∨ c = 10) (h : ∀ i, i < s.size → B s i = c) : lexN s = ([], none) := fill_blank hc h _ _ _
/-- The signs ';' from place p on. -/
def semis : Nat → Nat → List Wd
  | 0, _ => []
  | n + 1, p => ⟨6, p, p + 1, ByteArray.empty, 0, 0⟩ :: semis n (p + 1)
theorem semis_len : ∀ n p, (semis n p).length = n := by
  intro n
  induction n with
  | zero => intro p; rfl
  | succ n ih => intro p; rw [semis, List.length_cons, ih]
theorem semis_at : ∀ n p i (h : i < (semis n p).length), (semis n p)[i] = ⟨6, p + i, p + i + 1, ByteArray.empty, 0, 0⟩ := by
  intro n
  induction n with
  | zero => intro p i h; simp [semis] at h
  | succ n ih =>
    intro p i h
    cases i with
    | zero => rfl
    | succ i =>
      show (semis n (p + 1))[i]'(by simpa [semis] using h) = _
      rw [ih, show p + 1 + i = p + (i + 1) by omega]
theorem fill_semi {s : ByteArray} (h : ∀ i, i < s.size → B s i = 59) : ∀ f p l, s.size - p ≤ f → lexGo s f p l = (l ++ semis (s.size - p) p, none) := by
  intro f
  induction f with
  | zero => intro p l hf; rw [show s.size - p = 0 by omega, semis, List.append_nil]; rfl
  | succ f ih =>
    intro p l hf
    by_cases hp : p < s.size
    · have hb := h p hp
      have hw : wordN s p = (⟨6, p, p + 1, ByteArray.empty, 0, 0⟩, p + 1, true) := by
        rw [word_sign (by rw [hb]; decide), hb]; rfl
      rw [lex_word hp (by omega) (by omega), hw, if_pos rfl, ih (p + 1) _ (by omega)]
      rw [show s.size - p = (s.size - (p + 1)) + 1 by omega, semis, List.append_assoc]; rfl
    · rw [lex_end s _ l p (by omega), show s.size - p = 0 by omega, semis, List.append_nil]
theorem lex_fill_semi {s : ByteArray} (h : ∀ i, i < s.size → B s i = 59) : lexN s = (semis s.size 0, none) := by
  have := fill_semi h s.size 0 [] (by omega)
  rw [Nat.sub_zero, List.nil_append] at this
  exact this
theorem fill_remark {s : ByteArray} (h : ∀ i, i < s.size → B s i = 35) : ∀ f i, s.size ≤ i + f → i ≤ s.size → remarkGo s f i = (s.size, true) := by
  intro f
  induction f with
  | zero => intro i h1 h2; rw [remarkGo, show i = s.size by omega]
  | succ f ih =>
    intro i h1 h2
    by_cases hi : i < s.size
    · have hb := h i hi
      rw [remarkGo, if_pos ⟨hi, by omega⟩, if_pos (good_ascii (by omega)), dec_ascii (by omega)]
      exact ih _ (by omega) (by omega)
    · rw [remarkGo, if_neg (by omega), show i = s.size by omega]
theorem lex_fill_remark {s : ByteArray} (h0 : 0 < s.size) (h : ∀ i, i < s.size → B s i = 35) : lexN s = ([], none) := by
  unfold lexN
  obtain ⟨k, hk⟩ : ∃ k, s.size = k + 1 := ⟨s.size - 1, by omega⟩
  rw [show lexGo s s.size 0 [] = lexGo s (k + 1) 0 [] by rw [hk], lex_remark h0 (h 0 h0)]
  have hr : remarkN s 0 = (s.size, true) := fill_remark h _ _ (by omega) (by omega)
  rw [hr, if_pos rfl]
  exact lex_end s k [] _ (Nat.le_refl _)
theorem lc_fill {s : ByteArray} (h : ∀ i, i < s.size → B s i = 59) : ∀ d i t l c, t - i = d → i ≤ t → t ≤ s.size → lcN s t i l c = (l, c + (t - i)) := by
  intro d
  induction d with
  | zero => intro i t l c hd h1 h2; rw [lcN_end s t i l c (by omega), show t - i = 0 by omega]; rfl
  | succ d ih =>
    intro i t l c hd h1 h2
    have hb := h i (by omega)
    have hdec := dec_ascii (s := s) (i := i) (by omega)
    rw [lcN_step l c (by omega) (by rw [hdec]; simp only []; omega), hdec, hb, if_neg (by decide)]
    rw [ih (i + 1) t l (c + 1) (by omega) (by omega) h2, show c + 1 + (t - (i + 1)) = c + (t - i) by omega]
/-- A text of one byte over and over. -/
def fillB (n c : Nat) : ByteArray := ⟨(List.replicate n (UInt8.ofNat c)).toArray⟩
theorem fillB_size (n c : Nat) : (fillB n c).size = n := by show (List.replicate n _).toArray.size = n; simp
theorem fillB_at (n c : Nat) (hc : c < 256) (i : Nat) (h : i < (fillB n c).size) : B (fillB n c) i = c := by
  rw [B_at h]
  show ((List.replicate n (UInt8.ofNat c)).toArray[i]'(by simpa [fillB, ByteArray.size] using h)).toNat = c
  simp [UInt8.toNat_ofNat']; omega
end Go.Proofs.YtpdaciljdcfikaaDoor
