/- Plain: a rune as it is written is one word, that rune alone. -/
import Derived.Test.YtpdaciljdcfikaaDoorLexText
import Derived.Test.YtpdaciljdcfikaaDoorLexRef
import Derived.Test.YtpdaciljdcfikaaDoorLexBound
import Derived.Test.YtpdaciljdcfikaaDoorLexSeq
namespace Go.Proofs.YtpdaciljdcfikaaDoor
open Go
set_option linter.unusedVariables false
set_option linter.unusedSimpArgs false

theorem bl_at (l : List UInt8) (i : Nat) (h : i < l.length) : B ⟨l.toArray⟩ i = (l[i]).toNat := by
  have hs : i < (⟨l.toArray⟩ : ByteArray).size := by show i < l.toArray.size; simpa using h
  rw [B_at hs]
  congr 1
theorem size_l (l : List UInt8) : (⟨l.toArray⟩ : ByteArray).size = l.length := by show l.toArray.size = _; simp
theorem digU_h (d : Nat) (h : d < 16) : hexB (digU d).toNat = true ∧ hexV (digU d).toNat = d ∧ ((digU d).toNat = 48 ↔ d = 0) ∧ ((digU d).toNat = 49 ↔ d = 1) := by
  have key : ∀ d : Fin 16, hexB (digU d.1).toNat = true ∧ hexV (digU d.1).toNat = d.1 ∧ ((digU d.1).toNat = 48 ↔ d.1 = 0) ∧ ((digU d.1).toNat = 49 ↔ d.1 = 1) := by decide +kernel
  exact key ⟨d, h⟩
/-- One word from the first byte to the last: that is all. -/
theorem lex_one1 {s : ByteArray} {wd : Wd} (h0 : 0 < s.size) (h1 : ¬ (B s 0 = 32 ∨ B s 0 = 9 ∨ B s 0 = 10 ∨ B s 0 = 13)) (h2 : ¬ B s 0 = 35) (hw : wordN s 0 = (wd, s.size, true)) : lexN s = ([wd], none) := by
  unfold lexN
  obtain ⟨k, hk⟩ : ∃ k, s.size = k + 1 := ⟨s.size - 1, by omega⟩
  have e := lex_word (s := s) (f := k) (p := 0) (l := []) h0 h1 h2
  rw [hw, if_pos rfl] at e
  rw [show lexGo s s.size 0 [] = lexGo s (k + 1) 0 [] by rw [hk], e]
  exact lex_end s k _ _ (Nat.le_refl _)
theorem ref4 {n : Nat} (h : n < 65536) : refGo 12 n [] = [digU (n / 4096), digU (n / 256 % 16), digU (n / 16 % 16), digU (n % 16)] := by
  have e : ∀ f m acc, refGo (f + 1) m acc = if 0 < m ∨ acc.length < 4 then refGo f (m / 16) (digU (m % 16) :: acc) else acc := fun _ _ _ => rfl
  rw [e, if_pos (by simp), e, if_pos (by simp), e, if_pos (by simp), e, if_pos (by simp), e, if_neg (by simp; omega)]
  rw [show n / 16 / 16 / 16 % 16 = n / 4096 by omega, show n / 16 / 16 % 16 = n / 256 % 16 by omega]
theorem ref5 {n : Nat} (h : n < 1048576) (h' : 65536 ≤ n) : refGo 12 n [] = [digU (n / 65536), digU (n / 4096 % 16), digU (n / 256 % 16), digU (n / 16 % 16), digU (n % 16)] := by
  have e : ∀ f m acc, refGo (f + 1) m acc = if 0 < m ∨ acc.length < 4 then refGo f (m / 16) (digU (m % 16) :: acc) else acc := fun _ _ _ => rfl
  rw [e, if_pos (by simp), e, if_pos (by simp), e, if_pos (by simp), e, if_pos (by simp), e, if_pos (by left; omega), e, if_neg (by simp; omega)]
  rw [show n / 16 / 16 / 16 / 16 % 16 = n / 65536 by omega, show n / 16 / 16 / 16 % 16 = n / 4096 % 16 by omega, show n / 16 / 16 % 16 = n / 256 % 16 by omega]
theorem ref6 {n : Nat} (h : n < 1114112) (h' : 1048576 ≤ n) : refGo 12 n [] = [digU 1, digU 0, digU (n / 4096 % 16), digU (n / 256 % 16), digU (n / 16 % 16), digU (n % 16)] := by
  have e : ∀ f m acc, refGo (f + 1) m acc = if 0 < m ∨ acc.length < 4 then refGo f (m / 16) (digU (m % 16) :: acc) else acc := fun _ _ _ => rfl
  rw [e, if_pos (by simp), e, if_pos (by simp), e, if_pos (by simp), e, if_pos (by simp), e, if_pos (by left; omega), e, if_pos (by left; omega), e, if_neg (by simp; omega)]
  rw [show n / 16 / 16 / 16 / 16 / 16 % 16 = 1 by omega, show n / 16 / 16 / 16 / 16 % 16 = 0 by omega, show n / 16 / 16 / 16 % 16 = n / 4096 % 16 by omega, show n / 16 / 16 % 16 = n / 256 % 16 by omega]
/-- The digits from place i on (behind 'U+'), gone over. -/
theorem point_step {s : ByteArray} {f i r d : Nat} (hd : d < 16) (hb : B s i = (digU d).toNat) (ht : tooLong s 0 i = false) : pointGo s 0 (f + 1) i r = pointGo s 0 f (i + 1) (r * 16 + d) := by
  obtain ⟨h1, h2, _, _⟩ := digU_h d hd
  rw [pointGo, hb, if_pos h1, if_neg (by rw [ht]; decide), h2]
theorem tooLong_iff2 (s : ByteArray) (p i : Nat) : tooLong s p i = true ↔ (i - p - 2 = 6 ∨ (4 ≤ i - p - 2 ∧ B s (p + 2) = 48) ∨ (i - p - 2 = 5 ∧ ¬ (B s (p + 2) = 49 ∧ B s (p + 3) = 48))) := by
  simp [tooLong, or_assoc]; omega
theorem words_of_point {s : ByteArray} {n : Nat} (h6 : 6 ≤ s.size) (h0 : B s 0 = 85) (hp : pointN s 0 = (n, s.size, true)) : lexN s = ([⟨3, 0, s.size, ByteArray.empty, n, 0⟩], none) := by
  refine lex_one1 (by omega) (by omega) (by omega) ?_
  rw [word_point h0, hp, if_pos rfl, apartN, B_out (s := s) (i := s.size) (Nat.le_refl _)]; rfl
theorem point4 {n : Nat} (h : n < 65536) (hs : scalarB n = true) : ∀ s : ByteArray, s = ⟨([85, 43] ++ refGo 12 n []).toArray⟩ → lexN s = ([⟨3, 0, s.size, ByteArray.empty, n, 0⟩], none) := by
  intro s es
  rw [ref4 h] at es
  have hz : s.size = 6 := by rw [es, size_l]; rfl
  have b : ∀ i (hi : i < 6), B s i = ([85, 43, digU (n / 4096), digU (n / 256 % 16), digU (n / 16 % 16), digU (n % 16)][i]'hi).toNat := fun i hi => by rw [es]; exact bl_at ([85, 43] ++ [digU (n / 4096), digU (n / 256 % 16), digU (n / 16 % 16), digU (n % 16)]) i (by simpa using hi)
  refine words_of_point (by omega) (b 0 (by omega)) ?_
  have nt : ∀ i, i ≤ 5 → tooLong s 0 i = false := fun i hi => Bool.eq_false_iff.2 (fun h => by have := (tooLong_iff2 s 0 i).1 h; omega)
  have e0 : pointGo s 0 4 (2) (0) = pointGo s 0 3 (3) ((0) * 16 + (n / 4096)) := point_step (d := (n / 4096)) (by omega) (b 2 (by omega)) (nt 2 (by omega))
  have e1 : pointGo s 0 3 (3) ((0) * 16 + (n / 4096)) = pointGo s 0 2 (4) (((0) * 16 + (n / 4096)) * 16 + (n / 256 % 16)) := point_step (d := (n / 256 % 16)) (by omega) (b 3 (by omega)) (nt 3 (by omega))
  have e2 : pointGo s 0 2 (4) (((0) * 16 + (n / 4096)) * 16 + (n / 256 % 16)) = pointGo s 0 1 (5) ((((0) * 16 + (n / 4096)) * 16 + (n / 256 % 16)) * 16 + (n / 16 % 16)) := point_step (d := (n / 16 % 16)) (by omega) (b 4 (by omega)) (nt 4 (by omega))
  have e3 : pointGo s 0 1 (5) ((((0) * 16 + (n / 4096)) * 16 + (n / 256 % 16)) * 16 + (n / 16 % 16)) = pointGo s 0 0 (6) (((((0) * 16 + (n / 4096)) * 16 + (n / 256 % 16)) * 16 + (n / 16 % 16)) * 16 + (n % 16)) := point_step (d := (n % 16)) (by omega) (b 5 (by omega)) (nt 5 (by omega))
  have hn : ((((0) * 16 + (n / 4096)) * 16 + (n / 256 % 16)) * 16 + (n / 16 % 16)) * 16 + (n % 16) = n := by omega
  have ep : pointN s 0 = pointGo s 0 4 2 0 := by rw [pointN, if_pos (show B s (0 + 1) = 43 from b 1 (by omega)), hz]
  rw [ep, e0, e1, e2, e3, pointGo, hn, pointEnd, hs, hz]; rfl
theorem point5 {n : Nat} (h : n < 1048576) (h' : 65536 ≤ n) (hs : scalarB n = true) : ∀ s : ByteArray, s = ⟨([85, 43] ++ refGo 12 n []).toArray⟩ → lexN s = ([⟨3, 0, s.size, ByteArray.empty, n, 0⟩], none) := by
  intro s es
  rw [ref5 h h'] at es
  have hz : s.size = 7 := by rw [es, size_l]; rfl
  have b : ∀ i (hi : i < 7), B s i = ([85, 43, digU (n / 65536), digU (n / 4096 % 16), digU (n / 256 % 16), digU (n / 16 % 16), digU (n % 16)][i]'hi).toNat := fun i hi => by rw [es]; exact bl_at ([85, 43] ++ [digU (n / 65536), digU (n / 4096 % 16), digU (n / 256 % 16), digU (n / 16 % 16), digU (n % 16)]) i (by simpa using hi)
  refine words_of_point (by omega) (b 0 (by omega)) ?_
  have n48 : ¬ B s 2 = 48 := fun e => by
    rw [b 2 (by omega)] at e
    have := (digU_h (n / 65536) (by omega)).2.2.1.1 e
    omega
  have nt : ∀ i, i ≤ 6 → tooLong s 0 i = false := fun i hi => Bool.eq_false_iff.2 (fun h => by have := (tooLong_iff2 s 0 i).1 h; simp only [Nat.zero_add] at this; omega)
  have e0 : pointGo s 0 5 (2) (0) = pointGo s 0 4 (3) ((0) * 16 + (n / 65536)) := point_step (d := (n / 65536)) (by omega) (b 2 (by omega)) (nt 2 (by omega))
  have e1 : pointGo s 0 4 (3) ((0) * 16 + (n / 65536)) = pointGo s 0 3 (4) (((0) * 16 + (n / 65536)) * 16 + (n / 4096 % 16)) := point_step (d := (n / 4096 % 16)) (by omega) (b 3 (by omega)) (nt 3 (by omega))
  have e2 : pointGo s 0 3 (4) (((0) * 16 + (n / 65536)) * 16 + (n / 4096 % 16)) = pointGo s 0 2 (5) ((((0) * 16 + (n / 65536)) * 16 + (n / 4096 % 16)) * 16 + (n / 256 % 16)) := point_step (d := (n / 256 % 16)) (by omega) (b 4 (by omega)) (nt 4 (by omega))
  have e3 : pointGo s 0 2 (5) ((((0) * 16 + (n / 65536)) * 16 + (n / 4096 % 16)) * 16 + (n / 256 % 16)) = pointGo s 0 1 (6) (((((0) * 16 + (n / 65536)) * 16 + (n / 4096 % 16)) * 16 + (n / 256 % 16)) * 16 + (n / 16 % 16)) := point_step (d := (n / 16 % 16)) (by omega) (b 5 (by omega)) (nt 5 (by omega))
  have e4 : pointGo s 0 1 (6) (((((0) * 16 + (n / 65536)) * 16 + (n / 4096 % 16)) * 16 + (n / 256 % 16)) * 16 + (n / 16 % 16)) = pointGo s 0 0 (7) ((((((0) * 16 + (n / 65536)) * 16 + (n / 4096 % 16)) * 16 + (n / 256 % 16)) * 16 + (n / 16 % 16)) * 16 + (n % 16)) := point_step (d := (n % 16)) (by omega) (b 6 (by omega)) (nt 6 (by omega))
  have hn : (((((0) * 16 + (n / 65536)) * 16 + (n / 4096 % 16)) * 16 + (n / 256 % 16)) * 16 + (n / 16 % 16)) * 16 + (n % 16) = n := by omega
  have ep : pointN s 0 = pointGo s 0 5 2 0 := by rw [pointN, if_pos (show B s (0 + 1) = 43 from b 1 (by omega)), hz]
  rw [ep, e0, e1, e2, e3, e4, pointGo, hn, pointEnd, hs, hz]; rfl
theorem point6 {n : Nat} (h : n < 1114112) (h' : 1048576 ≤ n) (hs : scalarB n = true) : ∀ s : ByteArray, s = ⟨([85, 43] ++ refGo 12 n []).toArray⟩ → lexN s = ([⟨3, 0, s.size, ByteArray.empty, n, 0⟩], none) := by
  intro s es
  rw [ref6 h h'] at es
  have hz : s.size = 8 := by rw [es, size_l]; rfl
  have b : ∀ i (hi : i < 8), B s i = ([85, 43, digU 1, digU 0, digU (n / 4096 % 16), digU (n / 256 % 16), digU (n / 16 % 16), digU (n % 16)][i]'hi).toNat := fun i hi => by rw [es]; exact bl_at ([85, 43] ++ [digU 1, digU 0, digU (n / 4096 % 16), digU (n / 256 % 16), digU (n / 16 % 16), digU (n % 16)]) i (by simpa using hi)
  refine words_of_point (by omega) (b 0 (by omega)) ?_
  have b2 : B s 2 = 49 := b 2 (by omega)
  have b3 : B s 3 = 48 := b 3 (by omega)
  have nt : ∀ i, i ≤ 7 → tooLong s 0 i = false := fun i hi => Bool.eq_false_iff.2 (fun h => by have := (tooLong_iff2 s 0 i).1 h; simp only [Nat.zero_add] at this; omega)
  have e0 : pointGo s 0 6 (2) (0) = pointGo s 0 5 (3) ((0) * 16 + (1)) := point_step (d := (1)) (by omega) (b 2 (by omega)) (nt 2 (by omega))
  have e1 : pointGo s 0 5 (3) ((0) * 16 + (1)) = pointGo s 0 4 (4) (((0) * 16 + (1)) * 16 + (0)) := point_step (d := (0)) (by omega) (b 3 (by omega)) (nt 3 (by omega))
  have e2 : pointGo s 0 4 (4) (((0) * 16 + (1)) * 16 + (0)) = pointGo s 0 3 (5) ((((0) * 16 + (1)) * 16 + (0)) * 16 + (n / 4096 % 16)) := point_step (d := (n / 4096 % 16)) (by omega) (b 4 (by omega)) (nt 4 (by omega))
  have e3 : pointGo s 0 3 (5) ((((0) * 16 + (1)) * 16 + (0)) * 16 + (n / 4096 % 16)) = pointGo s 0 2 (6) (((((0) * 16 + (1)) * 16 + (0)) * 16 + (n / 4096 % 16)) * 16 + (n / 256 % 16)) := point_step (d := (n / 256 % 16)) (by omega) (b 5 (by omega)) (nt 5 (by omega))
  have e4 : pointGo s 0 2 (6) (((((0) * 16 + (1)) * 16 + (0)) * 16 + (n / 4096 % 16)) * 16 + (n / 256 % 16)) = pointGo s 0 1 (7) ((((((0) * 16 + (1)) * 16 + (0)) * 16 + (n / 4096 % 16)) * 16 + (n / 256 % 16)) * 16 + (n / 16 % 16)) := point_step (d := (n / 16 % 16)) (by omega) (b 6 (by omega)) (nt 6 (by omega))
  have e5 : pointGo s 0 1 (7) ((((((0) * 16 + (1)) * 16 + (0)) * 16 + (n / 4096 % 16)) * 16 + (n / 256 % 16)) * 16 + (n / 16 % 16)) = pointGo s 0 0 (8) (((((((0) * 16 + (1)) * 16 + (0)) * 16 + (n / 4096 % 16)) * 16 + (n / 256 % 16)) * 16 + (n / 16 % 16)) * 16 + (n % 16)) := point_step (d := (n % 16)) (by omega) (b 7 (by omega)) (nt 7 (by omega))
  have hn : ((((((0) * 16 + (1)) * 16 + (0)) * 16 + (n / 4096 % 16)) * 16 + (n / 256 % 16)) * 16 + (n / 16 % 16)) * 16 + (n % 16) = n := by omega
  have ep : pointN s 0 = pointGo s 0 6 2 0 := by rw [pointN, if_pos (show B s (0 + 1) = 43 from b 1 (by omega)), hz]
  rw [ep, e0, e1, e2, e3, e4, e5, pointGo, hn, pointEnd, hs, hz]; rfl
/-- A rune between two '. -/
theorem words_of_quote {s : ByteArray} {n w : Nat} (hz : s.size = w + 2) (h0 : B s 0 = 39) (hd : Utf8.decode s 1 = (n, w)) (hg : goodAt s 1 = true) (hw : 1 ≤ w) (hn : 32 ≤ n ∧ ¬ n = 39 ∧ ¬ n = 127) (hl : B s (1 + w) = 39) : lexN s = ([⟨3, 0, s.size, ByteArray.empty, n, 0⟩], none) := by
  refine lex_one1 (by omega) (by omega) (by omega) ?_
  have hq : quotedN s 0 = (n, s.size, true) := by
    rw [quotedN, if_neg (by omega), if_neg (by rw [Nat.zero_add, hg]; decide), Nat.zero_add, hd, if_neg (by simp only []; omega), if_pos hl]
    simp only []
    rw [show 1 + w + 1 = s.size by omega]
  rw [word_quoted h0, hq]
theorem text_lex {r : Int} (h : okRune r = true) : lexN ⟨(textL r).toArray⟩ = ([⟨3, 0, (⟨(textL r).toArray⟩ : ByteArray).size, ByteArray.empty, r.toNat, 0⟩], none) := by
  have hr : 0 ≤ r ∧ r ≤ 1114111 ∧ (r < 55296 ∨ 57343 < r) := by simp [okRune] at h; omega
  obtain ⟨n, rfl⟩ : ∃ n : Nat, r = n := ⟨r.toNat, by omega⟩
  have hs : scalarB n = true := (scalarB_iff n).2 (by omega)
  rw [Int.toNat_natCast]
  by_cases hq : 32 < (n : Int) ∧ (n : Int) < 127 ∧ ¬ (n : Int) = 39
  · have et : textL n = [39, UInt8.ofNat n, 39] := by rw [textL, if_pos h, if_pos hq]; rfl
    rw [et]
    have hb1 : B ⟨[39, UInt8.ofNat n, 39].toArray⟩ 1 = n := by
      rw [bl_at _ 1 (by simp)]
      simp [UInt8.toNat_ofNat']; omega
    exact words_of_quote (w := 1) rfl rfl (by rw [dec_ascii (by omega), hb1]) (good_ascii (by omega)) (by omega) (by omega) rfl
  · have et : textL n = [85, 43] ++ refGo 12 n [] := by rw [textL, if_pos h, if_neg hq]; rfl
    rw [et]
    by_cases h4 : n < 65536
    · exact point4 h4 hs _ rfl
    by_cases h5 : n < 1048576
    · exact point5 h5 (by omega) hs _ rfl
    · exact point6 (by omega) (by omega) hs _ rfl
end Go.Proofs.YtpdaciljdcfikaaDoor
