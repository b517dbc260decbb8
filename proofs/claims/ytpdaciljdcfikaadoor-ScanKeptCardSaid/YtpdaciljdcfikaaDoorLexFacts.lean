/- Small facts about the plain functions of LexSpec. -/
import Derived.Test.YtpdaciljdcfikaaDoorLexSpec
import Derived.Shelf.Unicode.DecodeSlow
namespace Go.Proofs.YtpdaciljdcfikaaDoor
open Go
set_option linter.unusedVariables false
set_option linter.unusedSimpArgs false
theorem smallB_iff (c : Nat) : smallB c = true ↔ 97 ≤ c ∧ c ≤ 122 := by simp [smallB]
theorem digitB_iff (c : Nat) : digitB c = true ↔ 48 ≤ c ∧ c ≤ 57 := by simp [digitB]
theorem hexB_iff (c : Nat) : hexB c = true ↔ (48 ≤ c ∧ c ≤ 57) ∨ (65 ≤ c ∧ c ≤ 70) := by simp [hexB, digitB]
theorem nameB_iff (c : Nat) : nameB c = true ↔ (97 ≤ c ∧ c ≤ 122) ∨ (48 ≤ c ∧ c ≤ 57) ∨ c = 45 := by simp [nameB, smallB, digitB, or_assoc]
theorem grownB_iff (c : Nat) : grownB c = true ↔ (97 ≤ c ∧ c ≤ 122) ∨ (48 ≤ c ∧ c ≤ 57) ∨ (65 ≤ c ∧ c ≤ 90) ∨ c = 45 ∨ c = 95 := by simp [grownB, smallB, digitB, or_assoc]
theorem blankB_iff (c : Nat) : blankB c = true ↔ c = 32 ∨ c = 9 ∨ c = 10 ∨ c = 13 := by simp [blankB, or_assoc]
theorem scalarB_iff (c : Nat) : scalarB c = true ↔ c ≤ 1114111 ∧ (c < 55296 ∨ 57343 < c) := by simp [scalarB]
theorem not_of {b : Bool} {p : Prop} (h : b = true ↔ p) (hp : ¬ p) : ¬ b = true := fun e => hp (h.1 e)
theorem false_of {b : Bool} {p : Prop} (h : b = true ↔ p) (hp : ¬ p) : b = false := Bool.eq_false_iff.2 (not_of h hp)

theorem get_B (s : ByteArray) (i : Nat) : (s.get! i).toNat = B s i := by
  unfold B
  split
  · rename_i h
    have := Go.get_at s i h
    rw [Nat.add_zero] at this
    rw [this]
  · rename_i h
    simp [ByteArray.get!, h]; rfl
theorem dec_eq (s : ByteArray) (i : Nat) : Utf8.decode s i = Lib.decodeN (s.size - i) (B s i) (B s (i + 1)) (B s (i + 2)) (B s (i + 3)) := by
  rw [Lib.decode_at, get_B, get_B, get_B, get_B]
theorem dec_width (s : ByteArray) (i : Nat) : 1 ≤ (Utf8.decode s i).2 ∧ (Utf8.decode s i).2 ≤ 4 := by
  rw [dec_eq]; unfold Lib.decodeN; repeat' split
  all_goals simp
theorem dec_fits {s : ByteArray} {i : Nat} (h : i < s.size) : i + (Utf8.decode s i).2 ≤ s.size := by
  rw [dec_eq]; unfold Lib.decodeN; repeat' split
  all_goals (simp; omega)
theorem dec_rune (s : ByteArray) (i : Nat) : (Utf8.decode s i).1 ≤ 1114111 := by
  rw [dec_eq]; unfold Lib.decodeN
  have := B_lt s i
  repeat' split
  all_goals (simp only []; omega)
theorem B_extract (s : ByteArray) (p q i : Nat) (h : p + i < q) (hq : q ≤ s.size) : B (s.extract p q) i = B s (p + i) := by
  rw [B_at (by simp; omega), B_at (by omega)]
  simp [ByteArray.getElem_extract]
theorem B_tail (s : ByteArray) (p i : Nat) (hp : p ≤ s.size) : B (s.extract p s.size) i = B s (p + i) := by
  by_cases h : p + i < s.size
  · exact B_extract s p s.size i h (Nat.le_refl _)
  · rw [B_out (by simp; omega), B_out (by omega)]
theorem dec_tail {s : ByteArray} {p : Nat} (hp : p ≤ s.size) : Utf8.decode (s.extract p s.size) 0 = Utf8.decode s p := by
  rw [dec_eq, dec_eq, B_tail _ _ _ hp, B_tail _ _ _ hp, B_tail _ _ _ hp, B_tail _ _ _ hp]
  simp
theorem decodeGo_tail {s : ByteArray} {p : Nat} (hp : p < s.size) : Lib.decodeGo (s.extract p s.size) = Utf8.decode s p := by
  rw [Lib.decodeGo, if_neg (by simp; omega), dec_tail (by omega)]
end Go.Proofs.YtpdaciljdcfikaaDoor
