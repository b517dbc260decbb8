/- scan.broken tells the first byte at which a sequence goes wrong. -/
import Derived.Test.YtpdaciljdcfikaaDoorScanBroken
import Derived.Test.YtpdaciljdcfikaaDoorLexWhere
namespace Go.Proofs.YtpdaciljdcfikaaDoor
open Go.RowKit Go.Shelf
set_option linter.unusedVariables false
set_option linter.unusedSimpArgs false

theorem B_append (x t : ByteArray) (i : Nat) : B (x ++ t) i = if i < x.size then B x i else B t (i - x.size) := by
  unfold B
  by_cases h : i < x.size
  · rw [if_pos h, dif_pos (by rw [ByteArray.size_append]; omega), dif_pos h]
    rw [ByteArray.getElem_append_left h]
  · rw [if_neg h]
    by_cases h2 : i < x.size + t.size
    · rw [dif_pos (by rw [ByteArray.size_append]; omega), dif_pos (by omega)]
      rw [ByteArray.getElem_append_right (by omega)]
    · rw [dif_neg (by rw [ByteArray.size_append]; omega), dif_neg (by omega)]

theorem seq_core (n b0 b1 b2 b3 r w : Nat) (hw : w = n ∧ (r ≠ 65533 ∨ w = 3)) (h : (b0 < 128 ∧ (r, w) = (b0, 1)) ∨
    (2 ≤ n ∧ Seq 2 b0 b1 b2 b3 ∧ (r, w) = (b0 % 32 * 64 + b1 % 64, 2)) ∨
    (3 ≤ n ∧ Seq 3 b0 b1 b2 b3 ∧ (r, w) = (b0 % 16 * 4096 + b1 % 64 * 64 + b2 % 64, 3)) ∨
    (4 ≤ n ∧ Seq 4 b0 b1 b2 b3 ∧ (r, w) = (b0 % 8 * 262144 + b1 % 64 * 4096 + b2 % 64 * 64 + b3 % 64, 4)) ∨
    (128 ≤ b0 ∧ ¬ (2 ≤ n ∧ Seq 2 b0 b1 b2 b3) ∧ ¬ (3 ≤ n ∧ Seq 3 b0 b1 b2 b3) ∧ ¬ (4 ≤ n ∧ Seq 4 b0 b1 b2 b3) ∧ (r, w) = (65533, 1))) : Seq n b0 b1 b2 b3 := by
  obtain ⟨rfl, hr⟩ := hw
  simp only [Prod.mk.injEq] at h
  rcases h with ⟨h1, rfl, rfl⟩ | ⟨h0, h1, rfl, rfl⟩ | ⟨h0, h1, rfl, rfl⟩ | ⟨h0, h1, rfl, rfl⟩ | ⟨h0, h1, h2, h3, rfl, rfl⟩
  · exact Or.inl ⟨rfl, h1⟩
  · exact h1
  · exact h1
  · exact h1
  · omega
theorem core_seq (n b0 b1 b2 b3 r w : Nat) (hs : Seq n b0 b1 b2 b3) (h : (b0 < 128 ∧ (r, w) = (b0, 1)) ∨
    (2 ≤ n ∧ Seq 2 b0 b1 b2 b3 ∧ (r, w) = (b0 % 32 * 64 + b1 % 64, 2)) ∨
    (3 ≤ n ∧ Seq 3 b0 b1 b2 b3 ∧ (r, w) = (b0 % 16 * 4096 + b1 % 64 * 64 + b2 % 64, 3)) ∨
    (4 ≤ n ∧ Seq 4 b0 b1 b2 b3 ∧ (r, w) = (b0 % 8 * 262144 + b1 % 64 * 4096 + b2 % 64 * 64 + b3 % 64, 4)) ∨
    (128 ≤ b0 ∧ ¬ (2 ≤ n ∧ Seq 2 b0 b1 b2 b3) ∧ ¬ (3 ≤ n ∧ Seq 3 b0 b1 b2 b3) ∧ ¬ (4 ≤ n ∧ Seq 4 b0 b1 b2 b3) ∧ (r, w) = (65533, 1))) : w = n ∧ (r ≠ 65533 ∨ w = 3) := by
  simp only [Prod.mk.injEq] at h
  have hl := Seq_lead hs
  rcases h with ⟨h1, rfl, rfl⟩ | ⟨h0, h1, rfl, rfl⟩ | ⟨h0, h1, rfl, rfl⟩ | ⟨h0, h1, rfl, rfl⟩ | ⟨h0, h1, h2, h3, rfl, rfl⟩
  · omega
  · have := Seq_lead h1; omega
  · have := Seq_lead h1; omega
  · have := Seq_lead h1
    have := (Seq4 _ _ _ _).1 h1
    refine ⟨by omega, Or.inl ?_⟩
    obtain ⟨_, _, _, _, h | h | h⟩ := this <;> omega
  · rcases hl with ⟨rfl, hl⟩ | ⟨rfl, hl⟩ | ⟨rfl, hl⟩ | ⟨rfl, hl⟩
    · omega
    · exact absurd ⟨by omega, hs⟩ h1
    · exact absurd ⟨by omega, hs⟩ h2
    · exact absurd ⟨by omega, hs⟩ h3
theorem whole_seq (x : ByteArray) : whole x = true ↔ Seq x.size (B x 0) (B x 1) (B x 2) (B x 3) := by
  rw [whole_iff, Lib.decodeGo]
  by_cases h : x.size = 0
  · rw [if_pos h, h]
    unfold Seq
    simp
  · rw [if_neg h, dec_eq, Nat.sub_zero]
    have e : ∀ i, B x (0 + i) = B x i := fun i => by rw [Nat.zero_add]
    have c := decodeN_cases x.size (B x 0) (B x 1) (B x 2) (B x 3) (B_lt _ _) (B_lt _ _) (B_lt _ _) (B_lt _ _)
    rw [e, e, e]
    exact ⟨fun k => seq_core _ _ _ _ _ _ _ k c, fun k => core_seq _ _ _ _ _ _ _ k c⟩

/-- n bytes with which a whole sequence begins. -/
def Pre (n b0 b1 b2 b3 : Nat) : Prop :=
  (n = 1 ∧ (b0 < 128 ∨ (194 ≤ b0 ∧ b0 ≤ 244))) ∨
  (n = 2 ∧ ((194 ≤ b0 ∧ b0 ≤ 223 ∧ 128 ≤ b1 ∧ b1 ≤ 191) ∨ (b0 = 224 ∧ 160 ≤ b1 ∧ b1 ≤ 191) ∨ (b0 = 237 ∧ 128 ≤ b1 ∧ b1 ≤ 159) ∨ (225 ≤ b0 ∧ b0 ≤ 239 ∧ b0 ≠ 237 ∧ 128 ≤ b1 ∧ b1 ≤ 191)
    ∨ (b0 = 240 ∧ 144 ≤ b1 ∧ b1 ≤ 191) ∨ (b0 = 244 ∧ 128 ≤ b1 ∧ b1 ≤ 143) ∨ (241 ≤ b0 ∧ b0 ≤ 243 ∧ 128 ≤ b1 ∧ b1 ≤ 191))) ∨
  (n = 3 ∧ 128 ≤ b2 ∧ b2 ≤ 191 ∧ ((b0 = 224 ∧ 160 ≤ b1 ∧ b1 ≤ 191) ∨ (b0 = 237 ∧ 128 ≤ b1 ∧ b1 ≤ 159) ∨ (225 ≤ b0 ∧ b0 ≤ 239 ∧ b0 ≠ 237 ∧ 128 ≤ b1 ∧ b1 ≤ 191)
    ∨ (b0 = 240 ∧ 144 ≤ b1 ∧ b1 ≤ 191) ∨ (b0 = 244 ∧ 128 ≤ b1 ∧ b1 ≤ 143) ∨ (241 ≤ b0 ∧ b0 ≤ 243 ∧ 128 ≤ b1 ∧ b1 ≤ 191))) ∨
  (n = 4 ∧ 128 ≤ b2 ∧ b2 ≤ 191 ∧ 128 ≤ b3 ∧ b3 ≤ 191 ∧ ((b0 = 240 ∧ 144 ≤ b1 ∧ b1 ≤ 191) ∨ (b0 = 244 ∧ 128 ≤ b1 ∧ b1 ≤ 143) ∨ (241 ≤ b0 ∧ b0 ≤ 243 ∧ 128 ≤ b1 ∧ b1 ≤ 191)))

theorem begun_of (x t : ByteArray) (ht : t ∈ tails) (h : Seq (x.size + t.size) (B (x ++ t) 0) (B (x ++ t) 1) (B (x ++ t) 2) (B (x ++ t) 3)) : begunB x = true := by
  rw [begunB, List.any_eq_true]
  exact ⟨t, ht, (whole_seq _).2 (by rw [ByteArray.size_append]; exact h)⟩
theorem pre_of_seq {n m b0 b1 b2 b3 c1 c2 c3 : Nat} (hn : 1 ≤ n) (h : Seq (n + m) b0 c1 c2 c3) (h1 : 2 ≤ n → c1 = b1) (h2 : 3 ≤ n → c2 = b2) (h3 : 4 ≤ n → c3 = b3) : Pre n b0 b1 b2 b3 := by
  have hl := Seq_lead h
  by_cases n1 : n = 1
  · subst n1
    exact Or.inl ⟨rfl, by omega⟩
  · have e1 := h1 (by omega)
    subst e1
    by_cases n2 : n = 2
    · subst n2
      refine Or.inr (Or.inl ⟨rfl, ?_⟩)
      rcases h with ⟨h, k⟩ | ⟨h, k⟩ | ⟨h, _, _, k⟩ | ⟨h, _, _, _, _, k⟩
      · omega
      · exact Or.inl k
      · rcases k with k | k | k
        · exact Or.inr (Or.inl k)
        · exact Or.inr (Or.inr (Or.inl k))
        · exact Or.inr (Or.inr (Or.inr (Or.inl k)))
      · rcases k with k | k | k
        · exact Or.inr (Or.inr (Or.inr (Or.inr (Or.inl k))))
        · exact Or.inr (Or.inr (Or.inr (Or.inr (Or.inr (Or.inl k)))))
        · exact Or.inr (Or.inr (Or.inr (Or.inr (Or.inr (Or.inr k)))))
    · have e2 := h2 (by omega)
      subst e2
      by_cases n3 : n = 3
      · subst n3
        refine Or.inr (Or.inr (Or.inl ⟨rfl, ?_⟩))
        rcases h with ⟨h, k⟩ | ⟨h, k⟩ | ⟨h, k1, k2, k⟩ | ⟨h, k1, k2, _, _, k⟩
        · omega
        · omega
        · refine ⟨k1, k2, ?_⟩
          rcases k with k | k | k
          · exact Or.inl k
          · exact Or.inr (Or.inl k)
          · exact Or.inr (Or.inr (Or.inl k))
        · refine ⟨k1, k2, ?_⟩
          rcases k with k | k | k
          · exact Or.inr (Or.inr (Or.inr (Or.inl k)))
          · exact Or.inr (Or.inr (Or.inr (Or.inr (Or.inl k))))
          · exact Or.inr (Or.inr (Or.inr (Or.inr (Or.inr k))))
      · have e3 := h3 (by omega)
        subst e3
        have n4 : n = 4 ∧ m = 0 := by omega
        obtain ⟨rfl, rfl⟩ := n4
        refine Or.inr (Or.inr (Or.inr ⟨rfl, ?_⟩))
        exact (Seq4 _ _ _ _).1 h
theorem pre_of_begun (x : ByteArray) (hx : 1 ≤ x.size) (h : begunB x = true) : Pre x.size (B x 0) (B x 1) (B x 2) (B x 3) := by
  rw [begunB, List.any_eq_true] at h
  obtain ⟨t, _, h⟩ := h
  have h := (whole_seq _).1 h
  rw [ByteArray.size_append] at h
  rw [B_append x t 0, if_pos (by omega)] at h
  exact pre_of_seq hx h (fun k => by rw [B_append, if_pos (by omega)]) (fun k => by rw [B_append, if_pos (by omega)]) (fun k => by rw [B_append, if_pos (by omega)])
theorem begun_of_pre (x : ByteArray) (h : Pre x.size (B x 0) (B x 1) (B x 2) (B x 3)) : begunB x = true := by
  have a0 : B (ByteArray.mk #[128]) 0 = 128 := rfl
  have a2 : B (ByteArray.mk #[128, 128]) 0 = 128 := rfl
  have a3 : B (ByteArray.mk #[128, 128]) 1 = 128 := rfl
  have a4 : B (ByteArray.mk #[128, 128, 128]) 0 = 128 := rfl
  have a5 : B (ByteArray.mk #[128, 128, 128]) 1 = 128 := rfl
  have a6 : B (ByteArray.mk #[128, 128, 128]) 2 = 128 := rfl
  have a8 : B (ByteArray.mk #[191, 128]) 0 = 191 := rfl
  have a9 : B (ByteArray.mk #[191, 128]) 1 = 128 := rfl
  have a10 : B (ByteArray.mk #[191, 128, 128]) 0 = 191 := rfl
  have a11 : B (ByteArray.mk #[191, 128, 128]) 1 = 128 := rfl
  have a12 : B (ByteArray.mk #[191, 128, 128]) 2 = 128 := rfl
  have s0 : (ByteArray.mk #[]).size = 0 := rfl
  have s1 : (ByteArray.mk #[128]).size = 1 := rfl
  have s2 : (ByteArray.mk #[128, 128]).size = 2 := rfl
  have s3 : (ByteArray.mk #[128, 128, 128]).size = 3 := rfl
  have s5 : (ByteArray.mk #[191, 128]).size = 2 := rfl
  have s6 : (ByteArray.mk #[191, 128, 128]).size = 3 := rfl
  generalize hn : x.size = n at *
  have k0 : begunB x = true ∨ ¬ Seq n (B x 0) (B x 1) (B x 2) (B x 3) := by
    by_cases hq : Seq n (B x 0) (B x 1) (B x 2) (B x 3)
    · left
      refine begun_of x ⟨#[]⟩ (by simp [tails]) ?_
      have e : x ++ (⟨#[]⟩ : ByteArray) = x := by apply ByteArray.ext; simp
      rw [e, hn, s0]; exact hq
    · exact Or.inr hq
  rcases k0 with k0 | k0
  · exact k0
  · rcases h with ⟨rfl, h⟩ | ⟨rfl, h⟩ | ⟨rfl, h⟩ | ⟨rfl, h⟩
    · have k1 : ¬ B x 0 < 128 := fun h => k0 (Or.inl ⟨rfl, h⟩)
      by_cases c2 : B x 0 ≤ 223
      · refine begun_of x ⟨#[128]⟩ (by simp [tails]) ?_
        simp only [B_append, hn, s1, a0, Nat.lt_irrefl, if_false, if_true, Nat.sub_self, Nat.lt_one_iff, Nat.zero_lt_one]
        show Seq 2 _ _ _ _; rw [Seq2]; omega
      · by_cases c3 : B x 0 = 224
        · refine begun_of x ⟨#[191, 128]⟩ (by simp [tails]) ?_
          simp only [B_append, hn, s5, a8, a9, Nat.lt_irrefl, if_false, if_true, Nat.sub_self, Nat.zero_lt_one, show ¬ 2 < 1 by omega, show 2 - 1 = 1 from rfl]
          show Seq 3 _ _ _ _; rw [Seq3]; omega
        · by_cases c4 : B x 0 ≤ 239
          · refine begun_of x ⟨#[128, 128]⟩ (by simp [tails]) ?_
            simp only [B_append, hn, s2, a2, a3, Nat.lt_irrefl, if_false, if_true, Nat.sub_self, Nat.zero_lt_one, show ¬ 2 < 1 by omega, show 2 - 1 = 1 from rfl]
            show Seq 3 _ _ _ _; rw [Seq3]; omega
          · by_cases c5 : B x 0 = 240
            · refine begun_of x ⟨#[191, 128, 128]⟩ (by simp [tails]) ?_
              simp only [B_append, hn, s6, a10, a11, a12, Nat.lt_irrefl, if_false, if_true, Nat.sub_self, Nat.zero_lt_one, show ¬ 2 < 1 by omega, show ¬ 3 < 1 by omega, show 2 - 1 = 1 from rfl, show 3 - 1 = 2 from rfl]
              show Seq 4 _ _ _ _; rw [Seq4]; omega
            · refine begun_of x ⟨#[128, 128, 128]⟩ (by simp [tails]) ?_
              simp only [B_append, hn, s3, a4, a5, a6, Nat.lt_irrefl, if_false, if_true, Nat.sub_self, Nat.zero_lt_one, show ¬ 2 < 1 by omega, show ¬ 3 < 1 by omega, show 2 - 1 = 1 from rfl, show 3 - 1 = 2 from rfl]
              show Seq 4 _ _ _ _; rw [Seq4]; omega
    · rw [Seq2] at k0
      by_cases c4 : B x 0 ≤ 239
      · refine begun_of x ⟨#[128]⟩ (by simp [tails]) ?_
        simp only [B_append, hn, s1, a0, Nat.lt_irrefl, if_false, if_true, Nat.sub_self, show 0 < 2 by omega, show 1 < 2 by omega]
        show Seq 3 _ _ _ _; rw [Seq3]; omega
      · refine begun_of x ⟨#[128, 128]⟩ (by simp [tails]) ?_
        simp only [B_append, hn, s2, a2, a3, Nat.lt_irrefl, if_false, if_true, Nat.sub_self, show 0 < 2 by omega, show 1 < 2 by omega, show ¬ 3 < 2 by omega, show 3 - 2 = 1 from rfl]
        show Seq 4 _ _ _ _; rw [Seq4]; omega
    · refine begun_of x ⟨#[128]⟩ (by simp [tails]) ?_
      simp only [B_append, hn, s1, a0, Nat.lt_irrefl, if_false, if_true, Nat.sub_self, show 0 < 3 by omega, show 1 < 3 by omega, show 2 < 3 by omega]
      show Seq 4 _ _ _ _; rw [Seq4]; rw [Seq3] at k0; omega
    · exact absurd ((Seq4 _ _ _ _).2 h) k0
theorem begun_pre (x : ByteArray) (hx : 1 ≤ x.size) : begunB x = true ↔ Pre x.size (B x 0) (B x 1) (B x 2) (B x 3) :=
  ⟨pre_of_begun x hx, begun_of_pre x⟩

/-- The second byte fits the first one of a sequence of at least three bytes. -/
def Two (b0 b1 : Nat) : Prop := (b0 = 224 ∧ 160 ≤ b1 ∧ b1 ≤ 191) ∨ (b0 = 237 ∧ 128 ≤ b1 ∧ b1 ≤ 159) ∨ (225 ≤ b0 ∧ b0 ≤ 239 ∧ b0 ≠ 237 ∧ 128 ≤ b1 ∧ b1 ≤ 191)
def Four (b0 b1 : Nat) : Prop := (b0 = 240 ∧ 144 ≤ b1 ∧ b1 ≤ 191) ∨ (b0 = 244 ∧ 128 ≤ b1 ∧ b1 ≤ 143) ∨ (241 ≤ b0 ∧ b0 ≤ 243 ∧ 128 ≤ b1 ∧ b1 ≤ 191)
instance (a b : Nat) : Decidable (Two a b) := inferInstanceAs (Decidable (_ ∨ _ ∨ _))
instance (a b : Nat) : Decidable (Four a b) := inferInstanceAs (Decidable (_ ∨ _ ∨ _))
theorem ext1 {s : ByteArray} {p : Nat} (h : p + 1 ≤ s.size) : begunB (s.extract p (p + 1)) = true ↔ (B s p < 128 ∨ (194 ≤ B s p ∧ B s p ≤ 244)) := by
  have hz : (s.extract p (p + 1)).size = 1 := by simp; omega
  rw [begun_pre _ (by omega), hz, B_extract s p (p + 1) 0 (by omega) h]
  unfold Pre; simp
theorem ext2 {s : ByteArray} {p : Nat} (h : p + 2 ≤ s.size) : begunB (s.extract p (p + 2)) = true ↔ ((194 ≤ B s p ∧ B s p ≤ 223 ∧ 128 ≤ B s (p + 1) ∧ B s (p + 1) ≤ 191) ∨ Two (B s p) (B s (p + 1)) ∨ Four (B s p) (B s (p + 1))) := by
  have hz : (s.extract p (p + 2)).size = 2 := by simp; omega
  rw [begun_pre _ (by omega), hz, B_extract s p (p + 2) 0 (by omega) h, B_extract s p (p + 2) 1 (by omega) h]
  unfold Pre Two Four; simp [or_assoc]
theorem ext3 {s : ByteArray} {p : Nat} (h : p + 3 ≤ s.size) : begunB (s.extract p (p + 3)) = true ↔ (128 ≤ B s (p + 2) ∧ B s (p + 2) ≤ 191 ∧ (Two (B s p) (B s (p + 1)) ∨ Four (B s p) (B s (p + 1)))) := by
  have hz : (s.extract p (p + 3)).size = 3 := by simp; omega
  rw [begun_pre _ (by omega), hz, B_extract s p (p + 3) 0 (by omega) h, B_extract s p (p + 3) 1 (by omega) h, B_extract s p (p + 3) 2 (by omega) h]
  unfold Pre Two Four; simp [or_assoc]
theorem ext4 {s : ByteArray} {p : Nat} (h : p + 4 ≤ s.size) : begunB (s.extract p (p + 4)) = true ↔ (128 ≤ B s (p + 2) ∧ B s (p + 2) ≤ 191 ∧ 128 ≤ B s (p + 3) ∧ B s (p + 3) ≤ 191 ∧ Four (B s p) (B s (p + 1))) := by
  have hz : (s.extract p (p + 4)).size = 4 := by simp; omega
  rw [begun_pre _ (by omega), hz, B_extract s p (p + 4) 0 (by omega) h, B_extract s p (p + 4) 1 (by omega) h, B_extract s p (p + 4) 2 (by omega) h, B_extract s p (p + 4) 3 (by omega) h]
  unfold Pre Four; simp
theorem wrong1 {s : ByteArray} {p : Nat} (h : 194 ≤ B s p ∧ B s p ≤ 223) : wrongAt s p = if p + 1 < s.size ∧ 128 ≤ B s (p + 1) ∧ B s (p + 1) ≤ 191 then p + 2 else p + 1 := by
  have e : needN (B s p) = some (1, 128, 191) := by unfold needN; rw [if_neg (by omega), if_pos h]
  simp only [wrongAt, e, wrongGo]
theorem need3 {b : Nat} (h : 224 ≤ b ∧ b ≤ 239) : ∃ lo hi, needN b = some (2, lo, hi) ∧ ∀ c, (lo ≤ c ∧ c ≤ hi) ↔ Two b c := by
  unfold needN Two
  rw [if_neg (by omega), if_neg (by omega)]
  by_cases h1 : b = 224
  · rw [if_pos h1]; exact ⟨_, _, rfl, fun c => by omega⟩
  · rw [if_neg h1]
    by_cases h2 : b = 237
    · rw [if_pos h2]; exact ⟨_, _, rfl, fun c => by omega⟩
    · rw [if_neg h2, if_pos (by omega)]; exact ⟨_, _, rfl, fun c => by omega⟩
theorem need4 {b : Nat} (h : 240 ≤ b ∧ b ≤ 244) : ∃ lo hi, needN b = some (3, lo, hi) ∧ ∀ c, (lo ≤ c ∧ c ≤ hi) ↔ Four b c := by
  unfold needN Four
  rw [if_neg (by omega), if_neg (by omega), if_neg (by omega), if_neg (by omega), if_neg (by omega)]
  by_cases h1 : b = 240
  · rw [if_pos h1]; exact ⟨_, _, rfl, fun c => by omega⟩
  · rw [if_neg h1]
    by_cases h2 : 241 ≤ b ∧ b ≤ 243
    · rw [if_pos h2]; exact ⟨_, _, rfl, fun c => by omega⟩
    · rw [if_neg h2, if_pos (by omega)]; exact ⟨_, _, rfl, fun c => by omega⟩
theorem wrong3 {s : ByteArray} {p : Nat} (h : 224 ≤ B s p ∧ B s p ≤ 239) :
    wrongAt s p = if p + 1 < s.size ∧ Two (B s p) (B s (p + 1)) then (if p + 2 < s.size ∧ 128 ≤ B s (p + 2) ∧ B s (p + 2) ≤ 191 then p + 3 else p + 2) else p + 1 := by
  obtain ⟨lo, hi, e, k⟩ := need3 h
  simp only [wrongAt, e, wrongGo, Nat.reduceAdd]
  by_cases c : p + 1 < s.size ∧ Two (B s p) (B s (p + 1))
  · rw [if_pos ⟨c.1, (k _).2 c.2⟩, if_pos c]
  · rw [if_neg (fun q => c ⟨q.1, (k _).1 q.2⟩), if_neg c]
theorem wrong4 {s : ByteArray} {p : Nat} (h : 240 ≤ B s p ∧ B s p ≤ 244) :
    wrongAt s p = if p + 1 < s.size ∧ Four (B s p) (B s (p + 1)) then (if p + 2 < s.size ∧ 128 ≤ B s (p + 2) ∧ B s (p + 2) ≤ 191 then (if p + 3 < s.size ∧ 128 ≤ B s (p + 3) ∧ B s (p + 3) ≤ 191 then p + 4 else p + 3) else p + 2) else p + 1 := by
  obtain ⟨lo, hi, e, k⟩ := need4 h
  simp only [wrongAt, e, wrongGo, Nat.reduceAdd]
  by_cases c : p + 1 < s.size ∧ Four (B s p) (B s (p + 1))
  · rw [if_pos ⟨c.1, (k _).2 c.2⟩, if_pos c]
  · rw [if_neg (fun q => c ⟨q.1, (k _).1 q.2⟩), if_neg c]
theorem wrong0 {s : ByteArray} {p : Nat} (h : ¬ (194 ≤ B s p ∧ B s p ≤ 244)) (h2 : 128 ≤ B s p) : wrongAt s p = p := by
  unfold wrongAt
  have e : needN (B s p) = none := by
    unfold needN
    rw [if_neg (by omega), if_neg (by omega), if_neg (by omega), if_neg (by omega), if_neg (by omega), if_neg (by omega), if_neg (by omega), if_neg (by omega)]
  rw [e]

theorem bad_iff {s : ByteArray} {p : Nat} (hp : p < s.size) (h : goodAt s p = false) :
    128 ≤ B s p ∧ ¬ (p + 2 ≤ s.size ∧ 194 ≤ B s p ∧ B s p ≤ 223 ∧ 128 ≤ B s (p + 1) ∧ B s (p + 1) ≤ 191) ∧
    ¬ (p + 3 ≤ s.size ∧ Two (B s p) (B s (p + 1)) ∧ 128 ≤ B s (p + 2) ∧ B s (p + 2) ≤ 191) ∧
    ¬ (p + 4 ≤ s.size ∧ Four (B s p) (B s (p + 1)) ∧ 128 ≤ B s (p + 2) ∧ B s (p + 2) ≤ 191 ∧ 128 ≤ B s (p + 3) ∧ B s (p + 3) ≤ 191) := by
  have c := decodeN_cases (s.size - p) (B s p) (B s (p + 1)) (B s (p + 2)) (B s (p + 3)) (B_lt _ _) (B_lt _ _) (B_lt _ _) (B_lt _ _)
  rw [← dec_eq] at c
  simp only [goodAt, Bool.or_eq_false_iff, Bool.not_eq_false', beq_iff_eq, decide_eq_false_iff_not] at h
  obtain ⟨h1, h2⟩ := h
  rcases c with ⟨a, b⟩ | ⟨_, a, b⟩ | ⟨_, a, b⟩ | ⟨_, a, b⟩ | ⟨a, a2, a3, a4, b⟩
  · omega
  · rw [b] at h1; simp at h1
  · rw [b] at h1; simp at h1
  · rw [b] at h1; simp at h1
  · refine ⟨a, fun k => a2 ⟨by omega, (Seq2 _ _ _ _).2 k.2⟩, fun k => a3 ⟨by omega, (Seq3 _ _ _ _).2 ⟨k.2.2.1, k.2.2.2, k.2.1⟩⟩, fun k => a4 ⟨by omega, (Seq4 _ _ _ _).2 ⟨k.2.2.1, k.2.2.2.1, k.2.2.2.2.1, k.2.2.2.2.2, k.2.1⟩⟩⟩

theorem runeLen_dec {s : ByteArray} {p : Nat} (hp : p < s.size) (h : goodAt s p = true) : Lib.runeLen (Utf8.decode s p).1 = (Utf8.decode s p).2 := by
  have c := decodeN_cases (s.size - p) (B s p) (B s (p + 1)) (B s (p + 2)) (B s (p + 3)) (B_lt _ _) (B_lt _ _) (B_lt _ _) (B_lt _ _)
  rw [← dec_eq] at c
  rw [good_iff] at h
  rcases c with ⟨a, b⟩ | ⟨_, a, b⟩ | ⟨_, a, b⟩ | ⟨_, a, b⟩ | ⟨a, a2, a3, a4, b⟩
  · rw [b]; unfold Lib.runeLen; simp only []; rw [if_neg (by omega), if_pos (by omega)]; rfl
  · rw [Seq2] at a; rw [b]; unfold Lib.runeLen; simp only []; rw [if_neg (by omega), if_neg (by omega), if_pos (by omega)]; rfl
  · rw [Seq3] at a; rw [b]; unfold Lib.runeLen; simp only []; rw [if_neg (by omega), if_neg (by omega), if_neg (by omega), if_neg (by omega), if_pos (by omega)]; rfl
  · rw [Seq4] at a; rw [b]; unfold Lib.runeLen; simp only []; rw [if_neg (by omega), if_neg (by omega), if_neg (by omega), if_neg (by omega), if_neg (by omega), if_pos (by omega)]; rfl
  · rw [b] at h; simp at h; omega
theorem bad_rune {s : ByteArray} {p : Nat} (hp : p < s.size) (h : goodAt s p = false) : (Utf8.decode s p).1 = 65533 := by
  have c := decodeN_cases (s.size - p) (B s p) (B s (p + 1)) (B s (p + 2)) (B s (p + 3)) (B_lt _ _) (B_lt _ _) (B_lt _ _) (B_lt _ _)
  rw [← dec_eq] at c
  have h := false_iff_of h good_iff
  rcases c with ⟨a, b⟩ | ⟨_, a, b⟩ | ⟨_, a, b⟩ | ⟨_, a, b⟩ | ⟨a, a2, a3, a4, b⟩
  · omega
  · rw [b] at h; simp at h
  · rw [b] at h; simp at h
  · rw [b] at h; simp at h
  · rw [b]
theorem B_list (s : ByteArray) (i : Nat) : B s i = (s.data.toList.getD i 0).toNat := by
  unfold B
  by_cases h : i < s.size
  · rw [dif_pos h, List.getD_eq_getElem?_getD, List.getElem?_eq_getElem (by simpa using h)]; simp; rfl
  · rw [dif_neg h, List.getD_eq_getElem?_getD, List.getElem?_eq_none (by simpa using h)]; rfl
theorem prefix2 (x : ByteArray) (a b : UInt8) : Lib.hasPrefix x.data.toList [a, b] = true ↔ 2 ≤ x.size ∧ B x 0 = a.toNat ∧ B x 1 = b.toNat := by
  rw [B_list, B_list]
  have hz : x.size = x.data.toList.length := by simp
  rw [hz]
  generalize x.data.toList = l
  match l with
  | [] => simp [Lib.hasPrefix, List.isPrefixOf]
  | [_] => simp [Lib.hasPrefix, List.isPrefixOf]
  | x0 :: x1 :: r =>
    simp only [Lib.hasPrefix, List.isPrefixOf, Bool.and_eq_true, beq_iff_eq, and_true, List.getD_cons_zero, List.getD_cons_succ, UInt8.toNat_inj, List.length_cons]
    constructor
    · rintro ⟨h1, h2⟩; exact ⟨by omega, h1.symm, h2.symm⟩
    · rintro ⟨_, h1, h2⟩; exact ⟨h1.symm, h2.symm⟩
theorem prefix3 (x : ByteArray) (a b c : UInt8) : Lib.hasPrefix x.data.toList [a, b, c] = true ↔ 3 ≤ x.size ∧ B x 0 = a.toNat ∧ B x 1 = b.toNat ∧ B x 2 = c.toNat := by
  rw [B_list, B_list, B_list]
  have hz : x.size = x.data.toList.length := by simp
  rw [hz]
  generalize x.data.toList = l
  match l with
  | [] => simp [Lib.hasPrefix, List.isPrefixOf]
  | [_] => simp [Lib.hasPrefix, List.isPrefixOf]
  | [_, _] => simp [Lib.hasPrefix, List.isPrefixOf]
  | x0 :: x1 :: x2 :: r =>
    simp only [Lib.hasPrefix, List.isPrefixOf, Bool.and_eq_true, beq_iff_eq, and_true, List.getD_cons_zero, List.getD_cons_succ, UInt8.toNat_inj, List.length_cons]
    constructor
    · rintro ⟨h1, h2, h3⟩; exact ⟨by omega, h1.symm, h2.symm, h3.symm⟩
    · rintro ⟨_, h1, h2, h3⟩; exact ⟨h1.symm, h2.symm, h3.symm⟩
theorem fffd_prefix {s : ByteArray} {p : Nat} (hp : p < s.size) (h : (Utf8.decode s p).1 = 65533) : Lib.hasPrefix (s.extract p s.size).data.toList [239, 191, 189] = goodAt s p := by
  rw [Bool.eq_iff_iff, prefix3, B_tail _ _ _ (by omega), B_tail _ _ _ (by omega), B_tail _ _ _ (by omega), good_iff]
  have hz : (s.extract p s.size).size = s.size - p := by simp
  rw [hz]
  show 3 ≤ s.size - p ∧ B s (p + 0) = 239 ∧ B s (p + 1) = 191 ∧ B s (p + 2) = 189 ↔ _
  rw [Nat.add_zero]
  have c := decodeN_cases (s.size - p) (B s p) (B s (p + 1)) (B s (p + 2)) (B s (p + 3)) (B_lt _ _) (B_lt _ _) (B_lt _ _) (B_lt _ _)
  rw [← dec_eq] at c
  rcases c with ⟨a, b⟩ | ⟨_, a, b⟩ | ⟨_, a, b⟩ | ⟨_, a, b⟩ | ⟨a, a2, a3, a4, b⟩
  · rw [b] at h; simp at h; omega
  · rw [b] at h; simp only [] at h; rw [Seq2] at a; omega
  · rw [b] at h ⊢; simp only [] at h; rw [Seq3] at a; simp; omega
  · rw [b] at h; simp only [] at h; rw [Seq4] at a; omega
  · rw [b]; rw [Seq3] at a3; simp; omega

theorem two_lead {a b : Nat} (h : Two a b) : 224 ≤ a ∧ a ≤ 239 := by unfold Two at h; omega
theorem four_lead {a b : Nat} (h : Four a b) : 240 ≤ a ∧ a ≤ 244 := by unfold Four at h; omega
theorem eb {b : Bool} {p : Prop} (h : b = true ↔ p) (hp : ¬ p) : b = false := Bool.eq_false_iff.2 fun e => hp (h.1 e)

theorem broken_end {s : ByteArray} {p n : Nat} (hn : s.size = p + n) (h : begunB (s.extract p (p + n)) = true) : brokenEnd s p = ((p + n : Nat) : Int) := by
  rw [brokenEnd, hn, if_pos h]

theorem broken_wrong {s : ByteArray} {p : Nat} (hp : p < s.size) (h : goodAt s p = false) : brokenN s p = (wrongAt s p : Int) := by
  obtain ⟨h0, h2, h3, h4⟩ := bad_iff hp h
  unfold brokenN
  by_cases l : 194 ≤ B s p ∧ B s p ≤ 244
  · have e1 : begunB (s.extract p (p + 1)) = true := (ext1 (by omega)).2 (Or.inr l)
    by_cases g1 : p + 1 < s.size
    · have st1 : brokenLoop s p 3 (p + 1) = if begunB (s.extract p (p + 2)) = false then ((p + 1 : Nat) : Int) else brokenLoop s p 2 (p + 2) := by
        rw [brokenLoop, if_pos g1, if_neg (by rw [e1]; decide)]
      rw [st1]
      by_cases q2 : (194 ≤ B s p ∧ B s p ≤ 223 ∧ 128 ≤ B s (p + 1) ∧ B s (p + 1) ≤ 191) ∨ Two (B s p) (B s (p + 1)) ∨ Four (B s p) (B s (p + 1))
      · have e2 : begunB (s.extract p (p + 2)) = true := (ext2 (by omega)).2 q2
        rw [if_neg (by rw [e2]; decide)]
        by_cases g2 : p + 2 < s.size
        · have st2 : brokenLoop s p 2 (p + 2) = if begunB (s.extract p (p + 3)) = false then ((p + 2 : Nat) : Int) else brokenLoop s p 1 (p + 3) := by
            rw [brokenLoop, if_pos g2, if_neg (by rw [e2]; decide)]
          rw [st2]
          by_cases q3 : 128 ≤ B s (p + 2) ∧ B s (p + 2) ≤ 191 ∧ (Two (B s p) (B s (p + 1)) ∨ Four (B s p) (B s (p + 1)))
          · have e3 : begunB (s.extract p (p + 3)) = true := (ext3 (by omega)).2 q3
            rw [if_neg (by rw [e3]; decide)]
            have q4 : Four (B s p) (B s (p + 1)) := by
              obtain ⟨a, b, c | c⟩ := q3
              · exact absurd ⟨by omega, c, a, b⟩ h3
              · exact c
            have hl := four_lead q4
            rw [wrong4 hl, if_pos ⟨g1, q4⟩, if_pos ⟨g2, q3.1, q3.2.1⟩]
            by_cases g3 : p + 3 < s.size
            · have e4 : begunB (s.extract p (p + 4)) = false := eb (ext4 (by omega)) fun k => h4 ⟨by omega, k.2.2.2.2, k.1, k.2.1, k.2.2.1, k.2.2.2.1⟩
              rw [brokenLoop, if_pos g3, if_neg (by rw [e3]; decide), if_pos e4, if_neg (fun k => h4 ⟨by omega, q4, q3.1, q3.2.1, k.2.1, k.2.2⟩)]
            · rw [brokenLoop, if_neg g3, broken_end (n := 3) (by omega) e3, if_neg (by omega)]
          · rw [if_pos (eb (ext3 (by omega)) q3)]
            rcases q2 with q2 | q2 | q2
            · exact absurd ⟨by omega, q2⟩ h2
            · rw [wrong3 (two_lead q2), if_pos ⟨g1, q2⟩, if_neg (fun k => q3 ⟨k.2.1, k.2.2, Or.inl q2⟩)]
            · rw [wrong4 (four_lead q2), if_pos ⟨g1, q2⟩, if_neg (fun k => q3 ⟨k.2.1, k.2.2, Or.inr q2⟩)]
        · rw [brokenLoop, if_neg g2, broken_end (n := 2) (by omega) e2]
          rcases q2 with q2 | q2 | q2
          · exact absurd ⟨by omega, q2⟩ h2
          · rw [wrong3 (two_lead q2), if_pos ⟨g1, q2⟩, if_neg (by omega)]
          · rw [wrong4 (four_lead q2), if_pos ⟨g1, q2⟩, if_neg (by omega)]
      · rw [if_pos (eb (ext2 (by omega)) q2)]
        by_cases l2 : B s p ≤ 223
        · rw [wrong1 ⟨l.1, l2⟩, if_neg (fun k => q2 (Or.inl ⟨l.1, l2, k.2⟩))]
        · by_cases l3 : B s p ≤ 239
          · rw [wrong3 ⟨by omega, l3⟩, if_neg (fun k => q2 (Or.inr (Or.inl k.2)))]
          · rw [wrong4 ⟨by omega, l.2⟩, if_neg (fun k => q2 (Or.inr (Or.inr k.2)))]
    · rw [brokenLoop, if_neg g1, broken_end (n := 1) (by omega) e1]
      by_cases l2 : B s p ≤ 223
      · rw [wrong1 ⟨l.1, l2⟩, if_neg (by omega)]
      · by_cases l3 : B s p ≤ 239
        · rw [wrong3 ⟨by omega, l3⟩, if_neg (by omega)]
        · rw [wrong4 ⟨by omega, l.2⟩, if_neg (by omega)]
  · have e1 : begunB (s.extract p (p + 1)) = false := eb (ext1 (by omega)) (by omega)
    rw [wrong0 l h0, brokenLoop]
    by_cases g1 : p + 1 < s.size
    · rw [if_pos g1, if_pos e1]; omega
    · rw [if_neg g1, brokenEnd]
      have : s.size = p + 1 := by omega
      rw [this, if_neg (by rw [e1]; decide)]
end Go.Proofs.YtpdaciljdcfikaaDoor
