/- Plain: words lie in the text, and are made of runes. -/
import Derived.Test.YtpdaciljdcfikaaDoorLexWhere
namespace Go.Proofs.YtpdaciljdcfikaaDoor
open Go
set_option linter.unusedVariables false
set_option linter.unusedSimpArgs false

theorem dec_ascii {s : ByteArray} {i : Nat} (h : B s i < 128) : Utf8.decode s i = (B s i, 1) := by
  rw [dec_eq]; unfold Lib.decodeN; rw [if_pos h]
theorem good_ascii {s : ByteArray} {i : Nat} (h : B s i < 128) : goodAt s i = true := good_iff.2 (Or.inr h)
theorem seg_one {s : ByteArray} {a b : Nat} (ha : a < s.size) (h : B s a < 128) (t : Seg s (a + 1) b) : Seg s a b :=
  .cons ha (good_ascii h) (by rw [dec_ascii h]; exact t)
theorem ascii_seg {s : ByteArray} : ∀ (d a b : Nat), b - a = d → a ≤ b → b ≤ s.size → (∀ i, a ≤ i → i < b → B s i < 128) → Seg s a b := by
  intro d
  induction d with
  | zero => intro a b h1 h2 h3 h4; obtain rfl : a = b := by omega
            exact .nil a
  | succ d ih => intro a b h1 h2 h3 h4; exact seg_one (by omega) (h4 a (Nat.le_refl _) (by omega)) (ih (a + 1) b (by omega) (by omega) h3 (fun i hi hb => h4 i (by omega) hb))

theorem nameGo_spec (s : ByteArray) (p : Nat) : ∀ f i, i + f = s.size → i ≤ (nameGo s p f i).1 ∧ (nameGo s p f i).1 ≤ s.size ∧ ∀ j, i ≤ j → j < (nameGo s p f i).1 → nameB (B s j) = true := by
  intro f
  induction f with
  | zero => intro i h; exact ⟨Nat.le_refl _, by simp only [nameGo]; omega, fun j h1 h2 => by simp only [nameGo] at h2; omega⟩
  | succ f ih =>
    intro i h
    rw [nameGo]
    by_cases hb : nameB (B s i) = true
    · rw [if_pos hb]
      by_cases h32 : i - p = 32
      · rw [if_pos h32]; exact ⟨Nat.le_refl _, by simp only []; omega, fun j h1 h2 => by simp only [] at h2; omega⟩
      · rw [if_neg h32]
        obtain ⟨a, b, c⟩ := ih (i + 1) (by omega)
        refine ⟨by omega, b, fun j h1 h2 => ?_⟩
        by_cases e : j = i
        · rw [e]; exact hb
        · exact c j (by omega) h2
    · rw [if_neg hb]; exact ⟨Nat.le_refl _, by simp only []; omega, fun j h1 h2 => by simp only [] at h2; omega⟩
theorem nameN_spec {s : ByteArray} {p : Nat} (hp : p < s.size) (h : smallB (B s p) = true) : p < (nameN s p).1 ∧ (nameN s p).1 ≤ s.size ∧ ∀ j, p ≤ j → j < (nameN s p).1 → nameB (B s j) = true := by
  obtain ⟨a, b, c⟩ := nameGo_spec s p (s.size - p) p (by omega)
  refine ⟨?_, b, c⟩
  unfold nameN
  have hs := (smallB_iff _).1 h
  rw [show s.size - p = (s.size - p - 1) + 1 by omega, nameGo, if_pos ((nameB_iff _).2 (by omega)), if_neg (by omega)]
  exact (nameGo_spec s p (s.size - p - 1) (p + 1) (by omega)).1
theorem numberGo_spec (s : ByteArray) (p : Nat) : ∀ f i n, i + f = s.size → i ≤ (numberGo s p f i n).2.1 ∧ (numberGo s p f i n).2.1 ≤ s.size ∧ ∀ j, i ≤ j → j < (numberGo s p f i n).2.1 → digitB (B s j) = true := by
  intro f
  induction f with
  | zero => intro i n h; exact ⟨Nat.le_refl _, by simp only [numberGo]; omega, fun j h1 h2 => by simp only [numberGo] at h2; omega⟩
  | succ f ih =>
    intro i n h
    rw [numberGo]
    by_cases hb : digitB (B s i) = true
    · rw [if_pos hb]
      by_cases h32 : (p < i ∧ n = 0) ∨ 65535 < n * 10 + (B s i - 48)
      · rw [if_pos h32]; exact ⟨Nat.le_refl _, by simp only []; omega, fun j h1 h2 => by simp only [] at h2; omega⟩
      · rw [if_neg h32]
        obtain ⟨a, b, c⟩ := ih (i + 1) (n * 10 + (B s i - 48)) (by omega)
        refine ⟨by omega, b, fun j h1 h2 => ?_⟩
        by_cases e : j = i
        · rw [e]; exact hb
        · exact c j (by omega) h2
    · rw [if_neg hb]; exact ⟨Nat.le_refl _, by simp only []; omega, fun j h1 h2 => by simp only [] at h2; omega⟩
theorem numberN_spec {s : ByteArray} {p : Nat} (hp : p < s.size) (h : digitB (B s p) = true) : p < (numberN s p).2.1 ∧ (numberN s p).2.1 ≤ s.size ∧ ∀ j, p ≤ j → j < (numberN s p).2.1 → digitB (B s j) = true := by
  obtain ⟨a, b, c⟩ := numberGo_spec s p (s.size - p) p 0 (by omega)
  refine ⟨?_, b, c⟩
  unfold numberN
  have hs := (digitB_iff _).1 h
  rw [show s.size - p = (s.size - p - 1) + 1 by omega, numberGo, if_pos h, if_neg (by omega)]
  exact (numberGo_spec s p (s.size - p - 1) (p + 1) _ (by omega)).1
theorem pointGo_spec (s : ByteArray) (p : Nat) : ∀ f i r, i + f = s.size → i ≤ (pointGo s p f i r).2.1 ∧ (pointGo s p f i r).2.1 ≤ s.size ∧ ∀ j, i ≤ j → j < (pointGo s p f i r).2.1 → hexB (B s j) = true := by
  intro f
  induction f with
  | zero => intro i n h; exact ⟨Nat.le_refl _, by simp only [pointGo, pointEnd]; omega, fun j h1 h2 => by simp only [pointGo, pointEnd] at h2; omega⟩
  | succ f ih =>
    intro i n h
    rw [pointGo]
    by_cases hb : hexB (B s i) = true
    · rw [if_pos hb]
      by_cases h32 : tooLong s p i = true
      · rw [if_pos h32]; exact ⟨Nat.le_refl _, by simp only []; omega, fun j h1 h2 => by simp only [] at h2; omega⟩
      · rw [if_neg h32]
        obtain ⟨a, b, c⟩ := ih (i + 1) (n * 16 + hexV (B s i)) (by omega)
        refine ⟨by omega, b, fun j h1 h2 => ?_⟩
        by_cases e : j = i
        · rw [e]; exact hb
        · exact c j (by omega) h2
    · rw [if_neg hb]; exact ⟨Nat.le_refl _, by simp only [pointEnd]; omega, fun j h1 h2 => by simp only [pointEnd] at h2; omega⟩
theorem pointN_spec {s : ByteArray} {p : Nat} (hp : p < s.size) (h : B s p = 85) : p < (pointN s p).2.1 ∧ (pointN s p).2.1 ≤ s.size ∧ ∀ j, p ≤ j → j < (pointN s p).2.1 → B s j < 128 := by
  unfold pointN
  by_cases h43 : B s (p + 1) = 43
  · have hlt : p + 1 < s.size := by
      by_cases c : p + 1 < s.size
      · exact c
      · rw [B_out (by omega)] at h43; omega
    rw [if_pos h43]
    obtain ⟨a, b, c⟩ := pointGo_spec s p (s.size - (p + 2)) (p + 2) 0 (by omega)
    refine ⟨by omega, b, fun j h1 h2 => ?_⟩
    by_cases e : j = p
    · rw [e, h]; omega
    · by_cases e2 : j = p + 1
      · rw [e2, h43]; omega
      · have := (hexB_iff _).1 (c j (by omega) h2); omega
  · rw [if_neg h43]
    refine ⟨by simp only []; omega, by simp only []; omega, fun j h1 h2 => ?_⟩
    simp only [] at h2
    obtain rfl : j = p := by omega
    rw [h]; omega
theorem quotedN_spec {s : ByteArray} {p : Nat} (hp : p < s.size) (h : B s p = 39) (hok : (quotedN s p).2.2 = true) : p < (quotedN s p).2.1 ∧ (quotedN s p).2.1 ≤ s.size ∧ Seg s p (quotedN s p).2.1 := by
  unfold quotedN at *
  by_cases c1 : s.size ≤ p + 1
  · rw [if_pos c1] at hok; cases hok
  · rw [if_neg c1] at hok ⊢
    by_cases c2 : goodAt s (p + 1) = false
    · rw [if_pos c2] at hok; cases hok
    · rw [if_neg c2] at hok ⊢
      by_cases c3 : (Utf8.decode s (p + 1)).1 < 32 ∨ (Utf8.decode s (p + 1)).1 = 39 ∨ (Utf8.decode s (p + 1)).1 = 127
      · rw [if_pos c3] at hok; cases hok
      · rw [if_neg c3] at hok ⊢
        by_cases c4 : B s (p + 1 + (Utf8.decode s (p + 1)).2) = 39
        · rw [if_pos c4] at hok ⊢
          have hw := dec_width s (p + 1)
          have hlt : p + 1 + (Utf8.decode s (p + 1)).2 < s.size := by
            by_cases c : p + 1 + (Utf8.decode s (p + 1)).2 < s.size
            · exact c
            · rw [B_out (by omega)] at c4; omega
          refine ⟨by simp only []; omega, by simp only []; omega, ?_⟩
          refine seg_one hp (by omega) (.cons (by omega) (by simpa using c2) (seg_one hlt (by omega) (.nil _)))
        · rw [if_neg c4] at hok; cases hok
theorem remarkGo_spec (s : ByteArray) : ∀ f i, s.size ≤ i + f → i ≤ s.size → (remarkGo s f i).2 = true → i ≤ (remarkGo s f i).1 ∧ (remarkGo s f i).1 ≤ s.size ∧ Seg s i (remarkGo s f i).1 := by
  intro f
  induction f with
  | zero => intro i h h2 _; exact ⟨Nat.le_refl _, h2, .nil i⟩
  | succ f ih =>
    intro i h h2 hok
    rw [remarkGo] at hok ⊢
    by_cases c : i < s.size ∧ ¬ B s i = 10
    · rw [if_pos c] at hok ⊢
      by_cases g : goodAt s i = true
      · rw [if_pos g] at hok ⊢
        have hw := dec_width s i
        obtain ⟨a, b, d⟩ := ih (i + (Utf8.decode s i).2) (by omega) (dec_fits c.1) hok
        exact ⟨by omega, b, .cons c.1 g d⟩
      · rw [if_neg g] at hok; cases hok
    · rw [if_neg c]; exact ⟨Nat.le_refl _, h2, .nil i⟩
theorem remarkN_spec {s : ByteArray} {p : Nat} (hp : p < s.size) (h : B s p = 35) (hok : (remarkN s p).2 = true) : p < (remarkN s p).1 ∧ (remarkN s p).1 ≤ s.size ∧ Seg s p (remarkN s p).1 := by
  obtain ⟨a, b, c⟩ := remarkGo_spec s (s.size - p) p (by omega) (by omega) hok
  refine ⟨?_, b, c⟩
  unfold remarkN at *
  rw [show s.size - p = (s.size - p - 1) + 1 by omega, remarkGo, if_pos ⟨hp, by omega⟩] at hok ⊢
  have g : goodAt s p = true := good_ascii (by omega)
  rw [if_pos g] at hok ⊢
  have hd := dec_ascii (s := s) (i := p) (by omega)
  rw [hd] at hok ⊢
  have := (remarkGo_spec s (s.size - p - 1) (p + 1) (by omega) (by omega) hok).1
  exact this
end Go.Proofs.YtpdaciljdcfikaaDoor
