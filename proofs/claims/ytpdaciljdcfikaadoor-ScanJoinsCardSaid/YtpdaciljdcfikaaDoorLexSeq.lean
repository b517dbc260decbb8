/- What guiseref4.sequence computes, and that it is the decoder's and wrongAt's answer. -/
import Derived.Test.YtpdaciljdcfikaaDoorLexBroken
import Derived.Test.YtpdaciljdcfikaaDoorLexWhere
import Derived.Test.YtpdaciljdcfikaaDoorLexSeg
namespace Go.Proofs.YtpdaciljdcfikaaDoor
open Go
set_option linter.unusedVariables false
set_option linter.unusedSimpArgs false

def seqGo (s : ByteArray) (p : Nat) : Nat → Nat → Nat → Nat → Nat → Nat × Nat × Bool
  | 0, k, _, _, r => (r, p + k, true)
  | f + 1, k, lo, hi, r => if p + k < s.size ∧ lo ≤ B s (p + k) ∧ B s (p + k) ≤ hi then seqGo s p f (k + 1) 128 191 (r * 64 + B s (p + k) % 64) else (0, p + k, false)
def maskN (n c : Nat) : Nat := if n = 1 then c % 32 else if n = 2 then c % 16 else if n = 3 then c % 8 else c
def seqT (s : ByteArray) (p : Nat) : Nat × Nat × Bool :=
  if s.size ≤ p then (0, p, false) else
  match needN (B s p) with
  | none => (0, p, false)
  | some (n, lo, hi) => seqGo s p n 1 lo hi (maskN n (B s p))

theorem seqGo_wrong (s : ByteArray) (p : Nat) : ∀ f k lo hi r, (seqGo s p f k lo hi r).2.2 = false → seqGo s p f k lo hi r = (0, wrongGo s p f k lo hi, false) := by
  intro f
  induction f with
  | zero => intro k lo hi r h; cases h
  | succ f ih =>
    intro k lo hi r h
    rw [seqGo] at h ⊢
    rw [wrongGo]
    split
    · rename_i c
      rw [if_pos c] at h
      exact ih _ _ _ _ h
    · rfl
theorem lead2 {b0 b1 b2 b3 : Nat} (h : Seq 2 b0 b1 b2 b3) : 194 ≤ b0 ∧ b0 ≤ 223 ∧ 128 ≤ b1 ∧ b1 ≤ 191 := by
  rcases h with ⟨h, _⟩ | ⟨_, h⟩ | ⟨h, _⟩ | ⟨h, _⟩
  · cases h
  · exact h
  · cases h
  · cases h
theorem lead3 {b0 b1 b2 b3 : Nat} (h : Seq 3 b0 b1 b2 b3) : 128 ≤ b2 ∧ b2 ≤ 191 ∧ ((b0 = 224 ∧ 160 ≤ b1 ∧ b1 ≤ 191) ∨ (b0 = 237 ∧ 128 ≤ b1 ∧ b1 ≤ 159) ∨ (225 ≤ b0 ∧ b0 ≤ 239 ∧ b0 ≠ 237 ∧ 128 ≤ b1 ∧ b1 ≤ 191)) := by
  rcases h with ⟨h, _⟩ | ⟨h, _⟩ | ⟨_, h⟩ | ⟨h, _⟩
  · cases h
  · cases h
  · exact h
  · cases h
theorem lead4 {b0 b1 b2 b3 : Nat} (h : Seq 4 b0 b1 b2 b3) : 128 ≤ b2 ∧ b2 ≤ 191 ∧ 128 ≤ b3 ∧ b3 ≤ 191 ∧ ((b0 = 240 ∧ 144 ≤ b1 ∧ b1 ≤ 191) ∨ (b0 = 244 ∧ 128 ≤ b1 ∧ b1 ≤ 143) ∨ (241 ≤ b0 ∧ b0 ≤ 243 ∧ 128 ≤ b1 ∧ b1 ≤ 191)) := by
  rcases h with ⟨h, _⟩ | ⟨h, _⟩ | ⟨h, _⟩ | ⟨_, h⟩
  · cases h
  · cases h
  · cases h
  · exact h
theorem m3 (a b c : Nat) : (a * 64 + b) * 64 + c = a * 4096 + b * 64 + c := by omega
theorem m4 (a b c d : Nat) : ((a * 64 + b) * 64 + c) * 64 + d = a * 262144 + b * 4096 + c * 64 + d := by omega
theorem l3 {b0 b1 b2 b3 : Nat} (h : Seq 3 b0 b1 b2 b3) : 224 ≤ b0 ∧ b0 ≤ 239 := by
  rcases (lead3 h).2.2 with h | h | h <;> omega
theorem l4 {b0 b1 b2 b3 : Nat} (h : Seq 4 b0 b1 b2 b3) : 240 ≤ b0 ∧ b0 ≤ 244 := by
  rcases (lead4 h).2.2.2.2 with h | h | h <;> omega
def Key (s : ByteArray) (p : Nat) : Prop := (goodAt s p = true → seqT s p = ((Utf8.decode s p).1, p + (Utf8.decode s p).2, true)) ∧ (goodAt s p = false → (seqT s p).2.2 = false)
theorem good_or {s : ByteArray} {p : Nat} : goodAt s p = true ↔ ¬ (Utf8.decode s p).2 = 1 ∨ B s p < 128 := by simp [goodAt]
theorem key_good {s : ByteArray} {p r w : Nat} (h : seqT s p = (r, p + w, true)) (hd : Utf8.decode s p = (r, w)) (hw : ¬ w = 1 ∨ B s p < 128) : Key s p :=
  ⟨fun _ => by rw [h, hd], fun hb => by have : goodAt s p = true := good_or.2 (by rw [hd]; exact hw)
                                        rw [this] at hb; cases hb⟩
theorem key_bad {s : ByteArray} {p : Nat} (h : (seqT s p).2.2 = false) (hd : (Utf8.decode s p).2 = 1) (hb : 128 ≤ B s p) : Key s p :=
  ⟨fun hg => by have := good_or.1 hg; omega, fun _ => h⟩
theorem seqT_none {s : ByteArray} {p : Nat} (hp : p < s.size) (h : needN (B s p) = none) : seqT s p = (0, p, false) := by
  unfold seqT; rw [if_neg (by omega), h]
theorem seqT_some {s : ByteArray} {p n lo hi : Nat} (hp : p < s.size) (h : needN (B s p) = some (n, lo, hi)) : seqT s p = seqGo s p n 1 lo hi (maskN n (B s p)) := by
  unfold seqT; rw [if_neg (by omega), h]
def Hc (s : ByteArray) (p : Nat) : Prop := (B s p < 128 ∧ Utf8.decode s p = (B s p, 1)) ∨
    (2 ≤ s.size - p ∧ Seq 2 (B s p) (B s (p + 1)) (B s (p + 2)) (B s (p + 3)) ∧ Utf8.decode s p = (B s p % 32 * 64 + B s (p + 1) % 64, 2)) ∨
    (3 ≤ s.size - p ∧ Seq 3 (B s p) (B s (p + 1)) (B s (p + 2)) (B s (p + 3)) ∧ Utf8.decode s p = (B s p % 16 * 4096 + B s (p + 1) % 64 * 64 + B s (p + 2) % 64, 3)) ∨
    (4 ≤ s.size - p ∧ Seq 4 (B s p) (B s (p + 1)) (B s (p + 2)) (B s (p + 3)) ∧ Utf8.decode s p = (B s p % 8 * 262144 + B s (p + 1) % 64 * 4096 + B s (p + 2) % 64 * 64 + B s (p + 3) % 64, 4)) ∨
    (128 ≤ B s p ∧ ¬ (2 ≤ s.size - p ∧ Seq 2 (B s p) (B s (p + 1)) (B s (p + 2)) (B s (p + 3))) ∧ ¬ (3 ≤ s.size - p ∧ Seq 3 (B s p) (B s (p + 1)) (B s (p + 2)) (B s (p + 3))) ∧ ¬ (4 ≤ s.size - p ∧ Seq 4 (B s p) (B s (p + 1)) (B s (p + 2)) (B s (p + 3))) ∧ Utf8.decode s p = (65533, 1))
theorem hc_of (s : ByteArray) (p : Nat) : Hc s p := by
  have hc := decodeN_cases (s.size - p) (B s p) (B s (p + 1)) (B s (p + 2)) (B s (p + 3)) (B_lt s p) (B_lt s (p + 1)) (B_lt s (p + 2)) (B_lt s (p + 3))
  rw [← dec_eq] at hc
  exact hc
theorem key0 {s : ByteArray} {p : Nat} (hp : p < s.size) (h : B s p < 128) : Key s p := by
  refine key_good (r := B s p) (w := 1) ?_ (dec_ascii h) (Or.inr h)
  rw [seqT_some (n := 0) (lo := 0) (hi := 0) hp (by unfold needN; rw [if_pos h])]
  rfl
theorem key_none {s : ByteArray} {p : Nat} (hp : p < s.size) (h : 128 ≤ B s p) (hn : ¬ (194 ≤ B s p ∧ B s p ≤ 244)) : Key s p := by
  have e : needN (B s p) = none := by unfold needN; repeat (first | rw [if_neg (by omega)])
  refine key_bad (by rw [seqT_none hp e]) ?_ h
  rcases hc_of s p with ⟨a, b⟩ | ⟨a, b, c⟩ | ⟨a, b, c⟩ | ⟨a, b, c⟩ | ⟨a, b, c, d, e⟩
  · omega
  · have q := lead2 b; omega
  · have q := l3 b; omega
  · have q := l4 b; omega
  · rw [e]
theorem key1 {s : ByteArray} {p : Nat} (hp : p < s.size) (h : 194 ≤ B s p ∧ B s p ≤ 223) : Key s p := by
  have e : needN (B s p) = some (1, 128, 191) := by unfold needN; rw [if_neg (by omega), if_pos (by omega)]
  have es := seqT_some hp e
  rw [seqGo] at es
  by_cases c1 : p + 1 < s.size ∧ 128 ≤ B s (p + 1) ∧ B s (p + 1) ≤ 191
  · rw [if_pos c1] at es
    refine key_good (r := B s p % 32 * 64 + B s (p + 1) % 64) (w := 2) es ?_ (Or.inl (by omega))
    rcases hc_of s p with ⟨a, b⟩ | ⟨a, b, c⟩ | ⟨a, b, c⟩ | ⟨a, b, c⟩ | ⟨a, b, c, d, e⟩
    · omega
    · exact c
    · have q := l3 b; omega
    · have q := l4 b; omega
    · exact absurd ⟨by omega, Or.inr (Or.inl ⟨rfl, h.1, h.2, c1.2.1, c1.2.2⟩)⟩ b
  · rw [if_neg c1] at es
    refine key_bad (by rw [es]) ?_ (by omega)
    rcases hc_of s p with ⟨a, b⟩ | ⟨a, b, c⟩ | ⟨a, b, c⟩ | ⟨a, b, c⟩ | ⟨a, b, c, d, e⟩
    · omega
    · have q := lead2 b; omega
    · have q := l3 b; omega
    · have q := l4 b; omega
    · rw [e]
theorem key2 {s : ByteArray} {p lo hi : Nat} (hp : p < s.size) (h : 224 ≤ B s p ∧ B s p ≤ 239) (e : needN (B s p) = some (2, lo, hi))
    (hl : ∀ c, (lo ≤ c ∧ c ≤ hi) ↔ ((B s p = 224 ∧ 160 ≤ c ∧ c ≤ 191) ∨ (B s p = 237 ∧ 128 ≤ c ∧ c ≤ 159) ∨ (225 ≤ B s p ∧ B s p ≤ 239 ∧ B s p ≠ 237 ∧ 128 ≤ c ∧ c ≤ 191))) : Key s p := by
  have es := seqT_some hp e
  rw [seqGo, seqGo] at es
  by_cases c1 : p + 1 < s.size ∧ lo ≤ B s (p + 1) ∧ B s (p + 1) ≤ hi
  · rw [if_pos c1] at es
    have hl1 := (hl _).1 c1.2
    by_cases c2 : p + (1 + 1) < s.size ∧ 128 ≤ B s (p + (1 + 1)) ∧ B s (p + (1 + 1)) ≤ 191
    · rw [if_pos c2] at es
      refine key_good (r := B s p % 16 * 4096 + B s (p + 1) % 64 * 64 + B s (p + 2) % 64) (w := 3) ?_ ?_ (Or.inl (by omega))
      · rw [es]
        show ((B s p % 16 * 64 + B s (p + 1) % 64) * 64 + B s (p + 2) % 64, p + 3, true) = _
        rw [m3]
      · rcases hc_of s p with ⟨a, b⟩ | ⟨a, b, c⟩ | ⟨a, b, c⟩ | ⟨a, b, c⟩ | ⟨a, b, c, d, e⟩
        · omega
        · have q := lead2 b; clear hl hl1; omega
        · exact c
        · exact absurd (Nat.le_trans (l4 b).1 h.2) (by decide)
        · exact absurd ⟨by clear hl hl1; omega, (Seq3 _ _ _ _).2 ⟨c2.2.1, c2.2.2, hl1⟩⟩ c
    · rw [if_neg c2] at es
      refine key_bad (by rw [es]) ?_ (by omega)
      rcases hc_of s p with ⟨a, b⟩ | ⟨a, b, c⟩ | ⟨a, b, c⟩ | ⟨a, b, c⟩ | ⟨a, b, c, d, e⟩
      · omega
      · have q := lead2 b; clear hl; omega
      · exact absurd ⟨by omega, (lead3 b).1, (lead3 b).2.1⟩ c2
      · have q := l4 b; clear hl; omega
      · rw [e]
  · rw [if_neg c1] at es
    refine key_bad (by rw [es]) ?_ (by omega)
    rcases hc_of s p with ⟨a, b⟩ | ⟨a, b, c⟩ | ⟨a, b, c⟩ | ⟨a, b, c⟩ | ⟨a, b, c, d, e⟩
    · omega
    · have q := lead2 b; clear hl; omega
    · have : lo ≤ B s (p + 1) ∧ B s (p + 1) ≤ hi := (hl _).2 (lead3 b).2.2
      exact absurd ⟨by omega, this⟩ c1
    · have q := l4 b; clear hl; omega
    · rw [e]
theorem key3 {s : ByteArray} {p lo hi : Nat} (hp : p < s.size) (h : 240 ≤ B s p ∧ B s p ≤ 244) (e : needN (B s p) = some (3, lo, hi))
    (hl : ∀ c, (lo ≤ c ∧ c ≤ hi) ↔ ((B s p = 240 ∧ 144 ≤ c ∧ c ≤ 191) ∨ (B s p = 244 ∧ 128 ≤ c ∧ c ≤ 143) ∨ (241 ≤ B s p ∧ B s p ≤ 243 ∧ 128 ≤ c ∧ c ≤ 191))) : Key s p := by
  have es := seqT_some hp e
  rw [seqGo, seqGo, seqGo] at es
  by_cases c1 : p + 1 < s.size ∧ lo ≤ B s (p + 1) ∧ B s (p + 1) ≤ hi
  · rw [if_pos c1] at es
    have hl1 := (hl _).1 c1.2
    by_cases c2 : p + (1 + 1) < s.size ∧ 128 ≤ B s (p + (1 + 1)) ∧ B s (p + (1 + 1)) ≤ 191
    · rw [if_pos c2] at es
      by_cases c3 : p + (1 + 1 + 1) < s.size ∧ 128 ≤ B s (p + (1 + 1 + 1)) ∧ B s (p + (1 + 1 + 1)) ≤ 191
      · rw [if_pos c3] at es
        refine key_good (r := B s p % 8 * 262144 + B s (p + 1) % 64 * 4096 + B s (p + 2) % 64 * 64 + B s (p + 3) % 64) (w := 4) ?_ ?_ (Or.inl (by omega))
        · rw [es]
          show (((B s p % 8 * 64 + B s (p + 1) % 64) * 64 + B s (p + 2) % 64) * 64 + B s (p + 3) % 64, p + 4, true) = _
          rw [m4]
        · rcases hc_of s p with ⟨a, b⟩ | ⟨a, b, c⟩ | ⟨a, b, c⟩ | ⟨a, b, c⟩ | ⟨a, b, c, d, e⟩
          · omega
          · have q := lead2 b; clear hl hl1; omega
          · exact absurd (Nat.le_trans h.1 (l3 b).2) (by decide)
          · exact c
          · exact absurd ⟨by omega, (Seq4 _ _ _ _).2 ⟨c2.2.1, c2.2.2, c3.2.1, c3.2.2, hl1⟩⟩ d
      · rw [if_neg c3] at es
        refine key_bad (by rw [es]) ?_ (by omega)
        rcases hc_of s p with ⟨a, b⟩ | ⟨a, b, c⟩ | ⟨a, b, c⟩ | ⟨a, b, c⟩ | ⟨a, b, c, d, e⟩
        · omega
        · have q := lead2 b; clear hl; omega
        · have q := l3 b; clear hl; omega
        · exact absurd ⟨by omega, (lead4 b).2.2.1, (lead4 b).2.2.2.1⟩ c3
        · rw [e]
    · rw [if_neg c2] at es
      refine key_bad (by rw [es]) ?_ (by omega)
      rcases hc_of s p with ⟨a, b⟩ | ⟨a, b, c⟩ | ⟨a, b, c⟩ | ⟨a, b, c⟩ | ⟨a, b, c, d, e⟩
      · omega
      · have q := lead2 b; clear hl; omega
      · have q := l3 b; clear hl; omega
      · exact absurd ⟨by omega, (lead4 b).1, (lead4 b).2.1⟩ c2
      · rw [e]
  · rw [if_neg c1] at es
    refine key_bad (by rw [es]) ?_ (by omega)
    rcases hc_of s p with ⟨a, b⟩ | ⟨a, b, c⟩ | ⟨a, b, c⟩ | ⟨a, b, c⟩ | ⟨a, b, c, d, e⟩
    · omega
    · have q := lead2 b; clear hl; omega
    · have q := l3 b; clear hl; omega
    · have : lo ≤ B s (p + 1) ∧ B s (p + 1) ≤ hi := (hl _).2 (lead4 b).2.2.2.2
      exact absurd ⟨by omega, this⟩ c1
    · rw [e]
theorem key_all {s : ByteArray} {p : Nat} (hp : p < s.size) : Key s p := by
  by_cases h0 : B s p < 128
  · exact key0 hp h0
  by_cases h1 : 194 ≤ B s p ∧ B s p ≤ 223
  · exact key1 hp h1
  by_cases hn : 194 ≤ B s p ∧ B s p ≤ 244
  · by_cases h3 : B s p ≤ 239
    · by_cases a : B s p = 224
      · exact key2 hp (by omega) (by unfold needN; repeat (first | rw [if_pos (by omega)] | rw [if_neg (by omega)])) (fun c => by omega)
      by_cases b : B s p = 237
      · exact key2 hp (by omega) (by unfold needN; repeat (first | rw [if_pos (by omega)] | rw [if_neg (by omega)])) (fun c => by omega)
      · exact key2 hp (by omega) (by unfold needN; repeat (first | rw [if_pos (by omega)] | rw [if_neg (by omega)])) (fun c => by omega)
    · by_cases a : B s p = 240
      · exact key3 hp (by omega) (by unfold needN; repeat (first | rw [if_pos (by omega)] | rw [if_neg (by omega)])) (fun c => by omega)
      by_cases b : B s p = 244
      · exact key3 hp (by omega) (by unfold needN; repeat (first | rw [if_pos (by omega)] | rw [if_neg (by omega)])) (fun c => by omega)
      · exact key3 hp (by omega) (by unfold needN; repeat (first | rw [if_pos (by omega)] | rw [if_neg (by omega)])) (fun c => by omega)
  · exact key_none hp (by omega) hn
/-- The sequence is whole just if the decoder says so. -/
theorem seqT_eq {s : ByteArray} {p : Nat} (hp : p < s.size) : seqT s p = if goodAt s p then ((Utf8.decode s p).1, p + (Utf8.decode s p).2, true) else (0, wrongAt s p, false) := by
  have key := key_all hp
  by_cases h : goodAt s p = true
  · rw [if_pos h, key.1 h]
  · have h' : goodAt s p = false := by simpa using h
    have hk := key.2 h'
    rw [if_neg h]
    unfold wrongAt
    cases e : needN (B s p) with
    | none => rw [seqT_none hp e]
    | some x =>
      obtain ⟨n, lo, hi⟩ := x
      rw [seqT_some hp e] at hk ⊢
      exact seqGo_wrong s p n 1 lo hi _ hk
end Go.Proofs.YtpdaciljdcfikaaDoor
