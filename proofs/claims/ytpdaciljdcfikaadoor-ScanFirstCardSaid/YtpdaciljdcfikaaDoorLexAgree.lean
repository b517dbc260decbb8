/- Plain: what is told of a text up to a byte depends on the bytes up to there alone: names, numbers, runes with U+. -/
import Derived.Test.YtpdaciljdcfikaaDoorLexRef
import Derived.Test.YtpdaciljdcfikaaDoorLexBound
import Derived.Test.YtpdaciljdcfikaaDoorLexSeq
namespace Go.Proofs.YtpdaciljdcfikaaDoor
open Go
set_option linter.unusedVariables false
set_option linter.unusedSimpArgs false

/-- Two texts that are alike up to byte q, which both have. -/
structure Agree (s s' : ByteArray) (q : Nat) : Prop where
  lt : q < s.size
  lt' : q < s'.size
  b : ∀ i, i ≤ q → B s' i = B s i
theorem agree_extract {s t : ByteArray} {q : Nat} (h : q < s.size) : Agree s (s.extract 0 (q + 1) ++ t) q where
  lt := h
  lt' := by rw [ByteArray.size_append]; simp; omega
  b := fun i hi => by
    have hz : (s.extract 0 (q + 1)).size = q + 1 := by simp; omega
    have h1 : i < (s.extract 0 (q + 1) ++ t).size := by rw [ByteArray.size_append]; omega
    rw [B_at h1, B_at (by omega : i < s.size), ByteArray.getElem_append_left (by omega)]
    simp [ByteArray.getElem_extract]
theorem name_agree {s s' : ByteArray} {p q : Nat} (h : Agree s s' q) : ∀ f i f', i + f = s.size → i + f' = s'.size → (nameGo s p f i).1 ≤ q → nameGo s' p f' i = nameGo s p f i := by
  intro f
  induction f with
  | zero => intro i f' h1 h2 h3; have := h.lt; simp only [nameGo] at h3; omega
  | succ f ih =>
    intro i f' h1 h2 h3
    have hi := (nameGo_spec s p (f + 1) i h1).1
    have hlt := h.lt'
    obtain ⟨g, rfl⟩ : ∃ g, f' = g + 1 := ⟨f' - 1, by omega⟩
    have hb := h.b i (by omega)
    rw [nameGo] at h3 ⊢
    rw [nameGo, hb]
    split
    · rename_i c
      rw [if_pos c] at h3
      split
      · rfl
      · rename_i c2
        rw [if_neg c2] at h3
        exact ih _ _ (by omega) (by omega) h3
    · rfl
theorem number_agree {s s' : ByteArray} {p q : Nat} (h : Agree s s' q) : ∀ f i f' n, i + f = s.size → i + f' = s'.size → (numberGo s p f i n).2.1 ≤ q → numberGo s' p f' i n = numberGo s p f i n := by
  intro f
  induction f with
  | zero => intro i f' n h1 h2 h3; have := h.lt; simp only [numberGo] at h3; omega
  | succ f ih =>
    intro i f' n h1 h2 h3
    have hi := (numberGo_spec s p (f + 1) i n h1).1
    have hlt := h.lt'
    obtain ⟨g, rfl⟩ : ∃ g, f' = g + 1 := ⟨f' - 1, by omega⟩
    have hb := h.b i (by omega)
    rw [numberGo] at h3 ⊢
    rw [numberGo, hb]
    split
    · rename_i c
      rw [if_pos c] at h3
      split
      · rfl
      · rename_i c2
        rw [if_neg c2] at h3
        exact ih _ _ _ (by omega) (by omega) h3
    · rfl
theorem seqGo_ge (s : ByteArray) (p : Nat) : ∀ f k lo hi r, p + k ≤ (seqGo s p f k lo hi r).2.1 := by
  intro f
  induction f with
  | zero => intro k lo hi r; exact Nat.le_refl _
  | succ f ih =>
    intro k lo hi r
    rw [seqGo]
    split
    · have := ih (k + 1) 128 191 (r * 64 + B s (p + k) % 64); omega
    · exact Nat.le_refl _
theorem seqGo_end (s : ByteArray) (p : Nat) : ∀ f k lo hi r, (seqGo s p f k lo hi r).2.2 = true → (seqGo s p f k lo hi r).2.1 = p + k + f := by
  intro f
  induction f with
  | zero => intro k lo hi r _; rfl
  | succ f ih =>
    intro k lo hi r h
    rw [seqGo] at h ⊢
    split
    · rename_i c
      rw [if_pos c] at h
      rw [ih _ _ _ _ h]; omega
    · rename_i c
      rw [if_neg c] at h; cases h
theorem seqGo_agree {s s' : ByteArray} {p q : Nat} (h : Agree s s' q) : ∀ f k lo hi r, ((seqGo s p f k lo hi r).2.2 = false ∧ (seqGo s p f k lo hi r).2.1 ≤ q) ∨ ((seqGo s p f k lo hi r).2.2 = true ∧ (seqGo s p f k lo hi r).2.1 ≤ q + 1) → seqGo s' p f k lo hi r = seqGo s p f k lo hi r := by
  intro f
  induction f with
  | zero => intro k lo hi r _; rfl
  | succ f ih =>
    intro k lo hi r hc
    have hlt := h.lt
    have hlt' := h.lt'
    by_cases c : p + k < s.size ∧ lo ≤ B s (p + k) ∧ B s (p + k) ≤ hi
    · have hge := seqGo_ge s p f (k + 1) 128 191 (r * 64 + B s (p + k) % 64)
      have hen := seqGo_end s p f (k + 1) 128 191 (r * 64 + B s (p + k) % 64)
      rw [seqGo, if_pos c] at hc
      have hk : p + k ≤ q := by
        rcases hc with ⟨_, h2⟩ | ⟨h1, h2⟩
        · omega
        · have := hen h1; omega
      have hb := h.b (p + k) hk
      rw [seqGo, hb, if_pos ⟨by omega, c.2⟩, ih _ _ _ _ hc]
      rw [seqGo, if_pos c]
    · rw [seqGo, if_neg c] at hc
      have hk : p + k ≤ q := by
        rcases hc with ⟨_, h2⟩ | ⟨h1, _⟩
        · exact h2
        · cases h1
      have hb := h.b (p + k) hk
      rw [seqGo, hb, if_neg (fun e => c ⟨by omega, e.2⟩)]
      rw [seqGo, if_neg c]
theorem seq_agree {s s' : ByteArray} {p q : Nat} (h : Agree s s' q) (hp : p ≤ q) (hc : ((seqT s p).2.2 = false ∧ (seqT s p).2.1 ≤ q) ∨ ((seqT s p).2.2 = true ∧ (seqT s p).2.1 ≤ q + 1)) : seqT s' p = seqT s p := by
  have hlt := h.lt
  have hlt' := h.lt'
  have hb := h.b p hp
  cases e : needN (B s p) with
  | none => rw [seqT_none (by omega) e, seqT_none (by omega) (by rw [hb]; exact e)]
  | some x =>
    obtain ⟨n, lo, hi⟩ := x
    rw [seqT_some (by omega) e] at hc ⊢
    rw [seqT_some (by omega) (by rw [hb]; exact e), hb]
    exact seqGo_agree h _ _ _ _ _ hc
theorem good_agree {s s' : ByteArray} {p q : Nat} (h : Agree s s' q) (hp : p ≤ q) (hg : goodAt s p = true) (hw : p + (Utf8.decode s p).2 ≤ q + 1) : goodAt s' p = true ∧ Utf8.decode s' p = Utf8.decode s p := by
  have hlt := h.lt
  have hlt' := h.lt'
  have e := seqT_eq (s := s) (p := p) (by omega)
  rw [if_pos hg] at e
  have a := seq_agree h hp (Or.inr (by rw [e]; exact ⟨rfl, hw⟩))
  have e' := seqT_eq (s := s') (p := p) (by omega)
  rw [a, e] at e'
  cases hg' : goodAt s' p with
  | false => rw [hg', if_neg (by decide)] at e'; simp at e'
  | true =>
    rw [hg', if_pos rfl] at e'
    simp only [Prod.mk.injEq, and_true] at e'
    exact ⟨rfl, Prod.ext e'.1.symm (by omega)⟩
theorem bad_agree {s s' : ByteArray} {p q : Nat} (h : Agree s s' q) (hp : p ≤ q) (hg : goodAt s p = false) (hw : wrongAt s p ≤ q) : goodAt s' p = false ∧ wrongAt s' p = wrongAt s p := by
  have hlt := h.lt
  have hlt' := h.lt'
  have e := seqT_eq (s := s) (p := p) (by omega)
  rw [hg, if_neg (by decide)] at e
  have a := seq_agree h hp (Or.inl (by rw [e]; exact ⟨rfl, hw⟩))
  have e' := seqT_eq (s := s') (p := p) (by omega)
  rw [a, e] at e'
  cases hg' : goodAt s' p with
  | true => rw [hg', if_pos rfl] at e'; simp at e'
  | false =>
    rw [hg', if_neg (by decide)] at e'
    simp only [Prod.mk.injEq, and_true] at e'
    exact ⟨rfl, e'.2.symm⟩
theorem remark_agree {s s' : ByteArray} {q : Nat} (h : Agree s s' q) : ∀ f i f', s.size ≤ i + f → s'.size ≤ i + f' → i ≤ s.size → (remarkGo s f i).1 ≤ q → remarkGo s' f' i = remarkGo s f i := by
  intro f
  have hlt := h.lt
  have hlt' := h.lt'
  induction f with
  | zero => intro i f' h1 h2 hi h3; simp only [remarkGo] at h3; omega
  | succ f ih =>
    intro i f' h1 h2 hi h3
    have hge := (remarkGo_le s (f + 1) i hi).2
    have hiq : i ≤ q := by omega
    clear hge
    obtain ⟨g, rfl⟩ : ∃ g, f' = g + 1 := ⟨f' - 1, by omega⟩
    have hb := h.b i hiq
    have hw := dec_width s i
    by_cases c : i < s.size ∧ ¬ B s i = 10
    · rw [remarkGo, if_pos c] at h3
      rw [remarkGo, hb, if_pos ⟨by omega, c.2⟩]
      have hfit := dec_fits c.1
      cases hg : goodAt s i with
      | true =>
        rw [hg, if_pos rfl] at h3
        have hge2 := (remarkGo_le s f (i + (Utf8.decode s i).2) hfit).2
        obtain ⟨g1, g2⟩ := good_agree h (by omega) hg (by omega)
        rw [g1, if_pos rfl, g2, ih _ _ (by omega) (by omega) hfit h3]
        rw [remarkGo, if_pos c, hg, if_pos rfl]
      | false =>
        rw [hg, if_neg (by decide)] at h3
        obtain ⟨g1, g2⟩ := bad_agree h (by omega) hg h3
        rw [g1, if_neg (by decide), g2]
        rw [remarkGo, if_pos c, hg, if_neg (by decide)]
    · rw [remarkGo, hb, if_neg (fun e => c ⟨by omega, e.2⟩)]
      rw [remarkGo, if_neg c]
theorem tl_agree {s s' : ByteArray} {p q i : Nat} (h : Agree s s' q) (hi : i ≤ q) : tooLong s' p i = tooLong s p i := by
  by_cases c : p + 3 ≤ i
  · unfold tooLong
    rw [h.b (p + 2) (by omega), h.b (p + 3) (by omega)]
  · unfold tooLong
    rw [decide_eq_false (by omega : ¬ i - p - 2 = 6), decide_eq_false (by omega : ¬ 4 ≤ i - p - 2), decide_eq_false (by omega : ¬ i - p - 2 = 5)]
    simp
theorem point_agree {s s' : ByteArray} {p q : Nat} (h : Agree s s' q) : ∀ f i f' r, i + f = s.size → i + f' = s'.size → (pointGo s p f i r).2.1 ≤ q → pointGo s' p f' i r = pointGo s p f i r := by
  intro f
  have hlt := h.lt
  have hlt' := h.lt'
  induction f with
  | zero => intro i f' r h1 h2 h3; simp only [pointGo, pointEnd] at h3; omega
  | succ f ih =>
    intro i f' r h1 h2 h3
    have hge := (pointGo_spec s p (f + 1) i r h1).1
    have hiq : i ≤ q := by omega
    clear hge
    obtain ⟨g, rfl⟩ : ∃ g, f' = g + 1 := ⟨f' - 1, by omega⟩
    have hb := h.b i hiq
    rw [pointGo] at h3 ⊢
    rw [pointGo, hb, tl_agree h hiq]
    split
    · rename_i c
      rw [if_pos c] at h3
      split
      · rfl
      · rename_i c2
        rw [if_neg c2] at h3
        exact ih _ _ _ (by omega) (by omega) h3
    · rfl
theorem dec_small {s : ByteArray} {i : Nat} (h : (Utf8.decode s i).1 < 128) : (Utf8.decode s i).2 = 1 ∧ B s i < 128 := by
  rcases hc_of s i with ⟨a, b⟩ | ⟨a, b, c⟩ | ⟨a, b, c⟩ | ⟨a, b, c⟩ | ⟨a, b, c, d, e⟩
  · rw [b]; exact ⟨rfl, a⟩
  · have q := lead2 b; rw [c] at h; simp only [] at h; omega
  · have q := lead3 b; rw [c] at h; simp only [] at h; omega
  · have q := lead4 b; rw [c] at h; simp only [] at h; omega
  · rw [e] at h; simp at h
theorem quoted_agree {s s' : ByteArray} {p q : Nat} (h : Agree s s' q) (hq : (quotedN s p).2.1 ≤ q) : quotedN s' p = quotedN s p := by
  have hlt := h.lt
  have hlt' := h.lt'
  unfold quotedN at hq ⊢
  by_cases c1 : s.size ≤ p + 1
  · rw [if_pos c1] at hq; simp only [] at hq; omega
  rw [if_neg c1] at hq
  rw [if_neg c1]
  cases hg : goodAt s (p + 1) with
  | false =>
    rw [hg, if_pos rfl] at hq
    have hw := (wrongAt_le (s := s) (p := p + 1) (by omega)).2
    simp only [] at hq
    obtain ⟨g1, g2⟩ := bad_agree h (by omega) hg hq
    rw [if_neg (by omega), g1, if_pos rfl, if_pos rfl, g2]
  | true =>
    rw [hg, if_neg (by decide)] at hq
    have hw := dec_width s (p + 1)
    have hpq : p + 1 ≤ q ∧ p + 1 + (Utf8.decode s (p + 1)).2 ≤ q + 1 := by
      split at hq
      · rename_i c
        have := dec_small (s := s) (i := p + 1) (by omega)
        simp only [] at hq
        omega
      · split at hq
        · simp only [] at hq; omega
        · simp only [] at hq; omega
    obtain ⟨g1, g2⟩ := good_agree h hpq.1 hg hpq.2
    rw [if_neg (show ¬ s'.size ≤ p + 1 by omega), g1, g2]
    simp only [Bool.true_eq_false, if_false]
    split
    · rfl
    · rename_i c
      rw [if_neg c] at hq
      have hk : p + 1 + (Utf8.decode s (p + 1)).2 ≤ q := by
        split at hq
        · simp only [] at hq; omega
        · simp only [] at hq; omega
      rw [h.b _ hk]
theorem extract_agree {s s' : ByteArray} {p e q : Nat} (h : Agree s s' q) (he : e ≤ q) : s'.extract p e = s.extract p e := by
  have hlt := h.lt
  have hlt' := h.lt'
  refine ByteArray.ext_getElem (by simp; omega) fun i h1 h2 => ?_
  have hi : i < e - p := by simp at h2; omega
  rw [ByteArray.getElem_extract, ByteArray.getElem_extract]
  have hb := h.b (p + i) (by omega)
  rw [B_at (by omega), B_at (by omega)] at hb
  exact UInt8.toNat_inj.1 hb
theorem word_agree {s s' : ByteArray} {p q : Nat} (h : Agree s s' q) (hpq : p ≤ q) (hq : (wordN s p).2.1 ≤ q) : wordN s' p = wordN s p := by
  have hlt := h.lt
  have hlt' := h.lt'
  have hb := h.b p hpq
  by_cases c1 : smallB (B s p) = true
  · rw [word_name c1] at hq ⊢
    rw [word_name (by rw [hb]; exact c1)]
    have he : (nameN s p).1 ≤ q := by
      split at hq
      · exact hq
      · exact hq
    have en : nameN s' p = nameN s p := name_agree h _ _ _ (by omega) (by omega) he
    rw [en, extract_agree h he, apartN, apartN, h.b _ he]
  by_cases c2 : digitB (B s p) = true
  · rw [word_number c2] at hq ⊢
    rw [word_number (by rw [hb]; exact c2)]
    have he : (numberN s p).2.1 ≤ q := by
      split at hq
      · exact hq
      · exact hq
    have en : numberN s' p = numberN s p := number_agree h _ _ _ _ (by omega) (by omega) he
    rw [en, apartN, apartN, h.b _ he]
  by_cases c3 : B s p = 85
  · rw [word_point c3] at hq ⊢
    rw [word_point (by rw [hb]; exact c3)]
    have he : (pointN s p).2.1 ≤ q := by
      split at hq
      · exact hq
      · exact hq
    have hsp := (pointN_spec (s := s) (p := p) (by omega) c3).1
    have en : pointN s' p = pointN s p := by
      have hb1 := h.b (p + 1) (by omega)
      unfold pointN at he ⊢
      rw [hb1]
      split
      · rename_i c
        rw [if_pos c] at he
        have c' : B s (p + 1) = 43 := c
        have hin : p + 1 < s.size := by
          by_cases d : p + 1 < s.size
          · exact d
          · rw [B_out (by omega)] at c'; omega
        have hge := (pointGo_spec s p (s.size - (p + 2)) (p + 2) 0 (by omega)).1
        have hle : p + 2 ≤ q := Nat.le_trans hge he
        exact point_agree h _ _ _ _ (by omega) (by omega) he
      · rfl
    rw [en, apartN, apartN, h.b _ he]
  by_cases c4 : B s p = 39
  · rw [word_quoted c4] at hq ⊢
    rw [word_quoted (by rw [hb]; exact c4), quoted_agree h hq]
  by_cases c5 : B s p = 46
  · rw [word_dots c5] at hq ⊢
    rw [word_dots (by rw [hb]; exact c5)]
    have h1 : p + 1 ≤ q := by
      simp only [] at hq
      split at hq <;> omega
    rw [h.b _ h1]
  by_cases c6 : signN (B s p) = 0
  · rw [word_none c1 c2 c3 c4 c5 c6, word_none (by rw [hb]; exact c1) (by rw [hb]; exact c2) (by rw [hb]; exact c3) (by rw [hb]; exact c4) (by rw [hb]; exact c5) (by rw [hb]; exact c6)]
  · rw [word_sign c6, word_sign (by rw [hb]; exact c6), hb]
theorem lexGo_agree {s s' : ByteArray} {q : Nat} (h : Agree s s' q) : ∀ f p l f' l', s.size - p ≤ f → s'.size - p ≤ f' → p ≤ s.size → (lexGo s f p l).2 = some q → (lexGo s' f' p l').2 = some q := by
  intro f
  have hlt := h.lt
  have hlt' := h.lt'
  induction f with
  | zero => intro p l f' l' _ _ _ e; cases e
  | succ f ih =>
    intro p l f' l' hf hf' hps e
    have hpq := (lexGo_le s (f + 1) p l q hps e).1
    obtain ⟨g, rfl⟩ : ∃ g, f' = g + 1 := ⟨f' - 1, by omega⟩
    have hb := h.b p hpq
    have hp : p < s.size := by omega
    have hp' : p < s'.size := by omega
    by_cases c1 : blankB (B s p) = true
    · rw [lex_blank hp c1] at e
      rw [lex_blank hp' (by rw [hb]; exact c1)]
      exact ih _ _ _ _ (by omega) (by omega) (by omega) e
    by_cases c2 : B s p = 35
    · rw [lex_remark hp c2] at e
      rw [lex_remark hp' (by rw [hb]; exact c2)]
      have hr := remarkGo_le s (s.size - p) p hps
      have hr1 : (remarkN s p).1 ≤ s.size := hr.1
      have hle : (remarkN s p).1 ≤ q := by
        split at e
        · exact (lexGo_le s f _ l q hr1 e).1
        · simp only [Option.some.injEq] at e; omega
      have er : remarkN s' p = remarkN s p := remark_agree h _ _ _ (by omega) (by omega) hps hle
      rw [er]
      split
      · rename_i c
        rw [if_pos c] at e
        have hgt := (remarkN_spec hp c2 c).1
        exact ih _ _ _ _ (by omega) (by omega) hr1 e
      · rename_i c
        rw [if_neg c] at e
        exact e
    have n1 : ¬ (B s p = 32 ∨ B s p = 9 ∨ B s p = 10 ∨ B s p = 13) := fun x => c1 ((blankB_iff _).2 x)
    rw [lex_word hp n1 c2] at e
    rw [lex_word hp' (by rw [hb]; exact n1) (by rw [hb]; exact c2)]
    have hw := wordN_le hp
    have hle : (wordN s p).2.1 ≤ q := by
      split at e
      · exact (lexGo_le s f _ _ q hw.1 e).1
      · simp only [Option.some.injEq] at e; omega
    rw [word_agree h hpq hle]
    split
    · rename_i c
      rw [if_pos c] at e
      have hgt := hw.2.2 c
      exact ih _ _ _ _ (by omega) (by omega) hw.1 e
    · rename_i c
      rw [if_neg c] at e
      exact e
/-- With the first wrong byte nothing helps, whatever follows. -/
theorem lex_agree {s s' : ByteArray} {q : Nat} (h : Agree s s' q) (e : (lexN s).2 = some q) : (lexN s').2 = some q :=
  lexGo_agree h _ _ _ _ _ (by omega) (by omega) (Nat.zero_le _) e
end Go.Proofs.YtpdaciljdcfikaaDoor
