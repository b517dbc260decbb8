/- Plain: what scan.broken tells is the first byte at which a sequence goes wrong. -/
import Derived.Test.YtpdaciljdcfikaaDoorLexFacts
namespace Go.Proofs.YtpdaciljdcfikaaDoor
open Go
set_option linter.unusedVariables false
set_option linter.unusedSimpArgs false

/-- n bytes that are one whole sequence. -/
def Seq (n b0 b1 b2 b3 : Nat) : Prop :=
  (n = 1 ∧ b0 < 128) ∨
  (n = 2 ∧ 194 ≤ b0 ∧ b0 ≤ 223 ∧ 128 ≤ b1 ∧ b1 ≤ 191) ∨
  (n = 3 ∧ 128 ≤ b2 ∧ b2 ≤ 191 ∧ ((b0 = 224 ∧ 160 ≤ b1 ∧ b1 ≤ 191) ∨ (b0 = 237 ∧ 128 ≤ b1 ∧ b1 ≤ 159) ∨ (225 ≤ b0 ∧ b0 ≤ 239 ∧ b0 ≠ 237 ∧ 128 ≤ b1 ∧ b1 ≤ 191))) ∨
  (n = 4 ∧ 128 ≤ b2 ∧ b2 ≤ 191 ∧ 128 ≤ b3 ∧ b3 ≤ 191 ∧ ((b0 = 240 ∧ 144 ≤ b1 ∧ b1 ≤ 191) ∨ (b0 = 244 ∧ 128 ≤ b1 ∧ b1 ≤ 143) ∨ (241 ≤ b0 ∧ b0 ≤ 243 ∧ 128 ≤ b1 ∧ b1 ≤ 191)))

theorem decodeN_cases (n b0 b1 b2 b3 : Nat) (h0 : b0 < 256) (h1 : b1 < 256) (h2 : b2 < 256) (h3 : b3 < 256) :
    (b0 < 128 ∧ Lib.decodeN n b0 b1 b2 b3 = (b0, 1)) ∨
    (2 ≤ n ∧ Seq 2 b0 b1 b2 b3 ∧ Lib.decodeN n b0 b1 b2 b3 = (b0 % 32 * 64 + b1 % 64, 2)) ∨
    (3 ≤ n ∧ Seq 3 b0 b1 b2 b3 ∧ Lib.decodeN n b0 b1 b2 b3 = (b0 % 16 * 4096 + b1 % 64 * 64 + b2 % 64, 3)) ∨
    (4 ≤ n ∧ Seq 4 b0 b1 b2 b3 ∧ Lib.decodeN n b0 b1 b2 b3 = (b0 % 8 * 262144 + b1 % 64 * 4096 + b2 % 64 * 64 + b3 % 64, 4)) ∨
    (128 ≤ b0 ∧ ¬ (2 ≤ n ∧ Seq 2 b0 b1 b2 b3) ∧ ¬ (3 ≤ n ∧ Seq 3 b0 b1 b2 b3) ∧ ¬ (4 ≤ n ∧ Seq 4 b0 b1 b2 b3) ∧ Lib.decodeN n b0 b1 b2 b3 = (65533, 1)) := by
  unfold Lib.decodeN Seq
  by_cases c0 : b0 < 128
  · rw [if_pos c0]; left; exact ⟨c0, rfl⟩
  · rw [if_neg c0]
    right
    by_cases c1 : b0 / 32 = 6 ∧ (1 < n ∧ b1 / 64 = 2)
    · rw [if_pos c1]
      by_cases d1 : b0 % 32 * 64 + b1 % 64 ≥ 128
      · rw [if_pos d1]; left; exact ⟨by omega, by omega, rfl⟩
      · rw [if_neg d1]; right; right; right; exact ⟨by omega, by omega, by omega, by omega, rfl⟩
    · rw [if_neg c1]
      by_cases c2 : b0 / 16 = 14 ∧ (1 < n ∧ b1 / 64 = 2) ∧ (2 < n ∧ b2 / 64 = 2)
      · rw [if_pos c2]
        right
        by_cases d2 : b0 % 16 * 4096 + b1 % 64 * 64 + b2 % 64 ≥ 2048 ∧ (b0 % 16 * 4096 + b1 % 64 * 64 + b2 % 64 < 55296 ∨ (57344 ≤ b0 % 16 * 4096 + b1 % 64 * 64 + b2 % 64 ∧ b0 % 16 * 4096 + b1 % 64 * 64 + b2 % 64 ≤ 1114111))
        · rw [if_pos d2]; left; exact ⟨by omega, by omega, rfl⟩
        · rw [if_neg d2]; right; right; exact ⟨by omega, by omega, by omega, by omega, rfl⟩
      · rw [if_neg c2]
        by_cases c3 : b0 / 8 = 30 ∧ (1 < n ∧ b1 / 64 = 2) ∧ (2 < n ∧ b2 / 64 = 2) ∧ (3 < n ∧ b3 / 64 = 2)
        · rw [if_pos c3]
          right; right
          by_cases d3 : b0 % 8 * 262144 + b1 % 64 * 4096 + b2 % 64 * 64 + b3 % 64 ≥ 65536 ∧ (b0 % 8 * 262144 + b1 % 64 * 4096 + b2 % 64 * 64 + b3 % 64 < 55296 ∨ (57344 ≤ b0 % 8 * 262144 + b1 % 64 * 4096 + b2 % 64 * 64 + b3 % 64 ∧ b0 % 8 * 262144 + b1 % 64 * 4096 + b2 % 64 * 64 + b3 % 64 ≤ 1114111))
          · rw [if_pos d3]; left; exact ⟨by omega, by omega, rfl⟩
          · rw [if_neg d3]; right; exact ⟨by omega, by omega, by omega, by omega, rfl⟩
        · rw [if_neg c3]; right; right; right; exact ⟨by omega, by omega, by omega, by omega, rfl⟩
end Go.Proofs.YtpdaciljdcfikaaDoor
