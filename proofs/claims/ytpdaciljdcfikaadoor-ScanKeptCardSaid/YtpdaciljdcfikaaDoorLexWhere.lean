/- Plain: lines and columns; runes one behind the other. -/
import Derived.Test.YtpdaciljdcfikaaDoorLexBroken
namespace Go.Proofs.YtpdaciljdcfikaaDoor
open Go
set_option linter.unusedVariables false
set_option linter.unusedSimpArgs false

theorem false_iff_of {b : Bool} {p : Prop} (h : b = false) (k : b = true ↔ p) : ¬ p := fun hp => by rw [k.2 hp] at h; cases h
theorem good_iff {s : ByteArray} {p : Nat} : goodAt s p = true ↔ ((Utf8.decode s p).2 ≠ 1 ∨ B s p < 128) := by
  simp [goodAt]

/-- Runes, one behind the other, from a to b. -/
inductive Seg (s : ByteArray) : Nat → Nat → Prop where
  | nil (a : Nat) : Seg s a a
  | cons {a b : Nat} (h : a < s.size) (hg : goodAt s a = true) (t : Seg s (a + (Utf8.decode s a).2) b) : Seg s a b
theorem Seg.le {s : ByteArray} {a b : Nat} (h : Seg s a b) : a ≤ b := by
  induction h with
  | nil => exact Nat.le_refl _
  | cons _ _ _ ih => omega
theorem Seg.trans {s : ByteArray} {a b c : Nat} (h : Seg s a b) (k : Seg s b c) : Seg s a c := by
  induction h with
  | nil => exact k
  | cons h1 h2 _ ih => exact .cons h1 h2 (ih k)
theorem Seg.first {s : ByteArray} {a b : Nat} (h : Seg s a b) (hlt : a < b) : a < s.size ∧ goodAt s a = true ∧ Seg s (a + (Utf8.decode s a).2) b := by
  cases h with
  | nil => omega
  | cons h1 h2 t => exact ⟨h1, h2, t⟩
theorem Seq_lead {n b0 b1 b2 b3 : Nat} (h : Seq n b0 b1 b2 b3) : (n = 1 ∧ b0 < 128) ∨ (n = 2 ∧ 194 ≤ b0 ∧ b0 ≤ 223) ∨ (n = 3 ∧ 224 ≤ b0 ∧ b0 ≤ 239) ∨ (n = 4 ∧ 240 ≤ b0 ∧ b0 ≤ 244) := by
  rcases h with ⟨h, h1⟩ | ⟨h, h1⟩ | ⟨h, h1⟩ | ⟨h, h1⟩
  · exact Or.inl ⟨h, h1⟩
  · exact Or.inr (Or.inl ⟨h, by omega, by omega⟩)
  · exact Or.inr (Or.inr (Or.inl ⟨h, by omega, by omega⟩))
  · exact Or.inr (Or.inr (Or.inr ⟨h, by omega, by omega⟩))
theorem Seq2 (b0 b1 b2 b3 : Nat) : Seq 2 b0 b1 b2 b3 ↔ (194 ≤ b0 ∧ b0 ≤ 223 ∧ 128 ≤ b1 ∧ b1 ≤ 191) := by simp [Seq]
theorem Seq3 (b0 b1 b2 b3 : Nat) : Seq 3 b0 b1 b2 b3 ↔ (128 ≤ b2 ∧ b2 ≤ 191 ∧ ((b0 = 224 ∧ 160 ≤ b1 ∧ b1 ≤ 191) ∨ (b0 = 237 ∧ 128 ≤ b1 ∧ b1 ≤ 159) ∨ (225 ≤ b0 ∧ b0 ≤ 239 ∧ b0 ≠ 237 ∧ 128 ≤ b1 ∧ b1 ≤ 191))) := by simp [Seq]
theorem Seq4 (b0 b1 b2 b3 : Nat) : Seq 4 b0 b1 b2 b3 ↔ (128 ≤ b2 ∧ b2 ≤ 191 ∧ 128 ≤ b3 ∧ b3 ≤ 191 ∧ ((b0 = 240 ∧ 144 ≤ b1 ∧ b1 ≤ 191) ∨ (b0 = 244 ∧ 128 ≤ b1 ∧ b1 ≤ 143) ∨ (241 ≤ b0 ∧ b0 ≤ 243 ∧ 128 ≤ b1 ∧ b1 ≤ 191))) := by simp [Seq]

/-- decodeN looks at its first bytes alone, if they are a sequence. -/
theorem decodeN_congr {n m b0 b1 b2 b3 c1 c2 c3 : Nat} (hb0 : b0 < 256) (hb1 : b1 < 256) (hb2 : b2 < 256) (hb3 : b3 < 256) (hc1 : c1 < 256) (hc2 : c2 < 256) (hc3 : c3 < 256)
    (hg : (Lib.decodeN n b0 b1 b2 b3).2 ≠ 1 ∨ b0 < 128) (hm : (Lib.decodeN n b0 b1 b2 b3).2 ≤ m)
    (h1 : 2 ≤ (Lib.decodeN n b0 b1 b2 b3).2 → c1 = b1) (h2 : 3 ≤ (Lib.decodeN n b0 b1 b2 b3).2 → c2 = b2) (h3 : 4 ≤ (Lib.decodeN n b0 b1 b2 b3).2 → c3 = b3) :
    Lib.decodeN m b0 c1 c2 c3 = Lib.decodeN n b0 b1 b2 b3 := by
  have c := decodeN_cases n b0 b1 b2 b3 hb0 hb1 hb2 hb3
  have d := decodeN_cases m b0 c1 c2 c3 hb0 hc1 hc2 hc3
  rcases c with ⟨a, b⟩ | ⟨_, a, b⟩ | ⟨_, a, b⟩ | ⟨_, a, b⟩ | ⟨a, a2, a3, a4, b⟩
  · rw [b]
    rcases d with ⟨x, y⟩ | ⟨_, x, y⟩ | ⟨_, x, y⟩ | ⟨_, x, y⟩ | ⟨x, x2, x3, x4, y⟩
    · exact y
    · have hx := Seq_lead x; exfalso; clear y b h1 h2 h3 hm hg x; omega
    · have hx := Seq_lead x; exfalso; clear y b h1 h2 h3 hm hg x; omega
    · have hx := Seq_lead x; exfalso; clear y b h1 h2 h3 hm hg x; omega
    · omega
  · rw [b] at hm h1 h2 h3 ⊢
    dsimp only at *
    have e1 := h1 (by omega)
    subst e1
    have hl := Seq_lead a
    rcases d with ⟨x, y⟩ | ⟨_, x, y⟩ | ⟨_, x, y⟩ | ⟨_, x, y⟩ | ⟨x, x2, x3, x4, y⟩
    · omega
    · exact y
    · have hx := Seq_lead x; exfalso; clear y b h1 h2 h3 hm hg a x; omega
    · have hx := Seq_lead x; exfalso; clear y b h1 h2 h3 hm hg a x; omega
    · exact absurd ⟨hm, (Seq2 _ _ _ _).2 ((Seq2 _ _ _ _).1 a)⟩ x2
  · rw [b] at hm h1 h2 h3 ⊢
    dsimp only at *
    have e1 := h1 (by omega)
    have e2 := h2 (by omega)
    subst e1 e2
    have hl := Seq_lead a
    rcases d with ⟨x, y⟩ | ⟨_, x, y⟩ | ⟨_, x, y⟩ | ⟨_, x, y⟩ | ⟨x, x2, x3, x4, y⟩
    · omega
    · have hx := Seq_lead x; exfalso; clear y b h1 h2 h3 hm hg a x; omega
    · exact y
    · have hx := Seq_lead x; exfalso; clear y b h1 h2 h3 hm hg a x; omega
    · exact absurd ⟨hm, (Seq3 _ _ _ _).2 ((Seq3 _ _ _ _).1 a)⟩ x3
  · rw [b] at hm h1 h2 h3 ⊢
    dsimp only at *
    have e1 := h1 (by omega)
    have e2 := h2 (by omega)
    have e3 := h3 (by omega)
    subst e1 e2 e3
    have hl := Seq_lead a
    rcases d with ⟨x, y⟩ | ⟨_, x, y⟩ | ⟨_, x, y⟩ | ⟨_, x, y⟩ | ⟨x, x2, x3, x4, y⟩
    · omega
    · have hx := Seq_lead x; exfalso; clear y b h1 h2 h3 hm hg a x; omega
    · have hx := Seq_lead x; exfalso; clear y b h1 h2 h3 hm hg a x; omega
    · exact y
    · exact absurd ⟨hm, (Seq4 _ _ _ _).2 ((Seq4 _ _ _ _).1 a)⟩ x4
  · rw [b] at hg; simp at hg; omega

/-- A piece of a text decodes as the text, where a whole rune lies in it. -/
theorem dec_extract {s : ByteArray} {a b i : Nat} (hb : b ≤ s.size) (hai : a ≤ i) (hg : goodAt s i = true) (hfit : i + (Utf8.decode s i).2 ≤ b) : Utf8.decode (s.extract a b) (i - a) = Utf8.decode s i := by
  have hg := good_iff.1 hg
  have hw := dec_width s i
  have e : ∀ k, k < (Utf8.decode s i).2 → B (s.extract a b) (i - a + k) = B s (i + k) := fun k hk => by
    rw [B_extract s a b _ (by omega) hb]; congr 1; omega
  have e0 := e 0 (by omega)
  rw [Nat.add_zero, Nat.add_zero] at e0
  rw [dec_eq s i] at hg hfit hw e ⊢
  rw [dec_eq (s.extract a b), e0]
  have hz : (s.extract a b).size = b - a := by simp; omega
  rw [hz]
  exact decodeN_congr (B_lt _ _) (B_lt _ _) (B_lt _ _) (B_lt _ _) (B_lt _ _) (B_lt _ _) (B_lt _ _) hg (by omega) (fun h => e 1 (by omega)) (fun h => e 2 (by omega)) (fun h => e 3 (by omega))

/-- Lines and columns, with as many rounds as there are bytes. -/
def lcN (s : ByteArray) (t i l c : Nat) : Nat × Nat := whereGo s t (t - i) i l c
theorem where_fuel (s : ByteArray) (t : Nat) : ∀ d i l c f, t - i = d → d ≤ f → whereGo s t f i l c = whereGo s t d i l c := by
  intro d
  induction d using Nat.strongRecOn with
  | _ d ih =>
    intro i l c f hd hf
    cases d with
    | zero =>
      cases f with
      | zero => rfl
      | succ f =>
        show whereGo s t (f + 1) i l c = (l, c)
        rw [whereGo, if_neg (by omega)]
    | succ d =>
      obtain ⟨f, rfl⟩ : ∃ g, f = g + 1 := ⟨f - 1, by omega⟩
      have hw := dec_width s i
      rw [whereGo, whereGo]
      by_cases h : t < i + (Utf8.decode s i).2
      · rw [if_pos h, if_pos h]
      · rw [if_neg h, if_neg h]
        have e : ∀ l c, whereGo s t f (i + (Utf8.decode s i).2) l c = whereGo s t d (i + (Utf8.decode s i).2) l c := fun l c => by
          rw [ih (t - (i + (Utf8.decode s i).2)) (by omega) _ l c f rfl (by omega), ih (t - (i + (Utf8.decode s i).2)) (by omega) _ l c d rfl (by omega)]
        rw [e, e]
theorem lcN_end (s : ByteArray) (t i l c : Nat) (h : t ≤ i) : lcN s t i l c = (l, c) := by
  rw [lcN, show t - i = 0 by omega]; rfl
theorem lcN_mid {s : ByteArray} {t i : Nat} (l c : Nat) (h : i < t) (h2 : t < i + (Utf8.decode s i).2) : lcN s t i l c = (l, c) := by
  rw [lcN, show t - i = (t - i - 1) + 1 by omega, whereGo, if_pos h, if_pos h2]
theorem lcN_step {s : ByteArray} {t i : Nat} (l c : Nat) (h : i < t) (h2 : i + (Utf8.decode s i).2 ≤ t) :
    lcN s t i l c = if (Utf8.decode s i).1 = 10 then lcN s t (i + (Utf8.decode s i).2) (l + 1) 1 else lcN s t (i + (Utf8.decode s i).2) l (c + 1) := by
  have hw := dec_width s i
  rw [lcN, show t - i = (t - i - 1) + 1 by omega, whereGo, if_pos h, if_neg (by omega)]
  rw [where_fuel s t (t - (i + (Utf8.decode s i).2)) _ _ _ (t - i - 1) rfl (by omega), where_fuel s t (t - (i + (Utf8.decode s i).2)) _ _ _ (t - i - 1) rfl (by omega)]
  rfl
theorem lcN_le (s : ByteArray) (t : Nat) : ∀ d i l c, t - i = d → i ≤ t → l ≤ i + 1 → c ≤ i + 1 → (lcN s t i l c).1 ≤ t + 1 ∧ (lcN s t i l c).2 ≤ t + 1 := by
  intro d
  induction d using Nat.strongRecOn with
  | _ d ih =>
    intro i l c hd hi hl hc
    by_cases h : i < t
    · have hw := dec_width s i
      by_cases h2 : i + (Utf8.decode s i).2 ≤ t
      · rw [lcN_step l c h h2]
        split
        · exact ih _ (by omega) _ _ _ rfl h2 (by omega) (by omega)
        · exact ih _ (by omega) _ _ _ rfl h2 (by omega) (by omega)
      · rw [lcN_mid l c h (by omega)]; exact ⟨by simp only []; omega, by simp only []; omega⟩
    · rw [lcN_end s t i l c (by omega)]; exact ⟨by simp only []; omega, by simp only []; omega⟩
/-- Going on from a place in the middle. -/
theorem lcN_seg {s : ByteArray} {a b : Nat} (h : Seg s a b) : ∀ (t l c : Nat), b ≤ t → lcN s t a l c = lcN s t b (lcN s b a l c).1 (lcN s b a l c).2 := by
  induction h with
  | nil a => intro t l c _; rw [lcN_end s a a l c (Nat.le_refl _)]
  | @cons a b h hg r ih =>
    intro t l c hbt
    have hw := dec_width s a
    have := r.le
    rw [lcN_step l c (by omega) (by omega), lcN_step (t := b) l c (by omega) (by omega)]
    split
    · exact ih t _ _ hbt
    · exact ih t _ _ hbt
end Go.Proofs.YtpdaciljdcfikaaDoor
