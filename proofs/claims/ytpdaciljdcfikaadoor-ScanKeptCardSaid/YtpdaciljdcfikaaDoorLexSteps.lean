/- Plain: the words of a text, step by step. -/
import Derived.Test.YtpdaciljdcfikaaDoorLexSeg
namespace Go.Proofs.YtpdaciljdcfikaaDoor
open Go
set_option linter.unusedVariables false
set_option linter.unusedSimpArgs false

theorem lex_end (s : ByteArray) (f : Nat) (l : List Wd) (p : Nat) (hp : s.size ≤ p) : lexGo s f p l = (l, none) := by
  cases f with
  | zero => rfl
  | succ f => rw [lexGo, if_neg (by omega)]
theorem lex_blank {s : ByteArray} {f p : Nat} {l : List Wd} (hp : p < s.size) (h : blankB (B s p) = true) : lexGo s (f + 1) p l = lexGo s f (p + 1) l := by
  rw [lexGo, if_pos hp, if_pos h]
theorem lex_remark {s : ByteArray} {f p : Nat} {l : List Wd} (hp : p < s.size) (h : B s p = 35) : lexGo s (f + 1) p l = if (remarkN s p).2 then lexGo s f (remarkN s p).1 l else (l, some (remarkN s p).1) := by
  rw [lexGo, if_pos hp, if_neg (not_of (blankB_iff _) (by omega)), if_pos h]
theorem lex_word {s : ByteArray} {f p : Nat} {l : List Wd} (hp : p < s.size) (h : ¬ (B s p = 32 ∨ B s p = 9 ∨ B s p = 10 ∨ B s p = 13)) (h2 : ¬ B s p = 35) :
    lexGo s (f + 1) p l = if (wordN s p).2.2 then lexGo s f (wordN s p).2.1 (l ++ [(wordN s p).1]) else (l, some (wordN s p).2.1) := by
  rw [lexGo, if_pos hp, if_neg (not_of (blankB_iff _) h), if_neg h2]

theorem small_not {c : Nat} (h : ¬ (97 ≤ c ∧ c ≤ 122)) : ¬ smallB c = true := not_of (smallB_iff _) h
theorem digit_not {c : Nat} (h : ¬ (48 ≤ c ∧ c ≤ 57)) : ¬ digitB c = true := not_of (digitB_iff _) h
theorem word_name {s : ByteArray} {p : Nat} (h : smallB (B s p) = true) : wordN s p = if (nameN s p).2 then apartN s ⟨1, p, (nameN s p).1, s.extract p (nameN s p).1, 0, 0⟩ (nameN s p).1 else (⟨0, 0, 0, ByteArray.empty, 0, 0⟩, (nameN s p).1, false) := by
  rw [wordN, if_pos h]
theorem word_number {s : ByteArray} {p : Nat} (h : digitB (B s p) = true) : wordN s p = if (numberN s p).2.2 then apartN s ⟨2, p, (numberN s p).2.1, ByteArray.empty, 0, (numberN s p).1⟩ (numberN s p).2.1 else (⟨0, 0, 0, ByteArray.empty, 0, 0⟩, (numberN s p).2.1, false) := by
  have := (digitB_iff _).1 h
  rw [wordN, if_neg (small_not (by omega)), if_pos h]
theorem word_point {s : ByteArray} {p : Nat} (h : B s p = 85) : wordN s p = if (pointN s p).2.2 then apartN s ⟨3, p, (pointN s p).2.1, ByteArray.empty, (pointN s p).1, 0⟩ (pointN s p).2.1 else (⟨0, 0, 0, ByteArray.empty, 0, 0⟩, (pointN s p).2.1, false) := by
  rw [wordN, if_neg (small_not (by omega)), if_neg (digit_not (by omega)), if_pos h]
theorem word_quoted {s : ByteArray} {p : Nat} (h : B s p = 39) : wordN s p = (⟨3, p, (quotedN s p).2.1, ByteArray.empty, (quotedN s p).1, 0⟩, (quotedN s p).2.1, (quotedN s p).2.2) := by
  rw [wordN, if_neg (small_not (by omega)), if_neg (digit_not (by omega)), if_neg (by omega), if_pos h]
theorem word_dots {s : ByteArray} {p : Nat} (h : B s p = 46) : wordN s p = (⟨9, p, p + 2, ByteArray.empty, 0, 0⟩, if B s (p + 1) = 46 then p + 2 else p + 1, B s (p + 1) == 46) := by
  rw [wordN, if_neg (small_not (by omega)), if_neg (digit_not (by omega)), if_neg (by omega), if_neg (by omega), if_pos h]
theorem word_sign {s : ByteArray} {p : Nat} (h : ¬ signN (B s p) = 0) : wordN s p = (⟨signN (B s p), p, p + 1, ByteArray.empty, 0, 0⟩, p + 1, true) := by
  have hk : B s p = 123 ∨ B s p = 125 ∨ B s p = 59 ∨ B s p = 61 ∨ B s p = 43 := by
    unfold signN at h; repeat' split at h
    all_goals first | omega | exact absurd rfl h
  rw [wordN, if_neg (small_not (by omega)), if_neg (digit_not (by omega)), if_neg (by omega), if_neg (by omega), if_neg (by omega), if_neg h]
theorem word_none {s : ByteArray} {p : Nat} (h1 : ¬ smallB (B s p) = true) (h2 : ¬ digitB (B s p) = true) (h3 : ¬ B s p = 85) (h4 : ¬ B s p = 39) (h5 : ¬ B s p = 46) (h6 : signN (B s p) = 0) : wordN s p = (⟨0, 0, 0, ByteArray.empty, 0, 0⟩, p, false) := by
  rw [wordN, if_neg h1, if_neg h2, if_neg h3, if_neg h4, if_neg h5, if_pos h6]
theorem lex_apart {s : ByteArray} {f p : Nat} {l : List Wd} {w : Wd} {q : Nat} (hp : p < s.size) (h : ¬ (B s p = 32 ∨ B s p = 9 ∨ B s p = 10 ∨ B s p = 13)) (h2 : ¬ B s p = 35) (hw : wordN s p = apartN s w q) :
    lexGo s (f + 1) p l = if grownB (B s q) = true then (l, some q) else lexGo s f q (l ++ [w]) := by
  rw [lex_word hp h h2, hw, apartN]
  cases grownB (B s q) <;> simp
theorem tooLong_iff2 (s : ByteArray) (p i : Nat) : tooLong s p i = true ↔ (i - p - 2 = 6 ∨ (4 ≤ i - p - 2 ∧ B s (p + 2) = 48) ∨ (i - p - 2 = 5 ∧ ¬ (B s (p + 2) = 49 ∧ B s (p + 3) = 48))) := by
  simp [tooLong, or_assoc]; omega
end Go.Proofs.YtpdaciljdcfikaaDoor
