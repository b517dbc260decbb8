/- Plain: a rune between two ' is one word, that rune alone. -/
import Derived.Test.YtpdaciljdcfikaaDoorTextLex
namespace Go.Proofs.YtpdaciljdcfikaaDoor
open Go
set_option linter.unusedVariables false
set_option linter.unusedSimpArgs false

theorem dec2 {s : ByteArray} {i n : Nat} (h : 128 ≤ n ∧ n < 2048) (hz : i + 2 ≤ s.size) (b0 : B s i = 192 + n / 64) (b1 : B s (i + 1) = 128 + n % 64) : Utf8.decode s i = (n, 2) := by
  rcases hc_of s i with ⟨a, b⟩ | ⟨a, b, c⟩ | ⟨a, b, c⟩ | ⟨a, b, c⟩ | ⟨a, b, c, d, e⟩
  · omega
  · rw [c, b0, b1]; congr 1; omega
  · have q := l3 b; omega
  · have q := l4 b; omega
  · exact absurd ⟨by omega, (Seq2 _ _ _ _).2 ⟨by omega, by omega, by omega, by omega⟩⟩ b
theorem dec3 {s : ByteArray} {i n : Nat} (h : 2048 ≤ n ∧ n < 65536 ∧ (n < 55296 ∨ 57343 < n)) (hz : i + 3 ≤ s.size) (b0 : B s i = 224 + n / 4096) (b1 : B s (i + 1) = 128 + n / 64 % 64) (b2 : B s (i + 2) = 128 + n % 64) : Utf8.decode s i = (n, 3) := by
  rcases hc_of s i with ⟨a, b⟩ | ⟨a, b, c⟩ | ⟨a, b, c⟩ | ⟨a, b, c⟩ | ⟨a, b, c, d, e⟩
  · omega
  · have q := lead2 b; omega
  · rw [c, b0, b1, b2]; congr 1; omega
  · have q := l4 b; omega
  · exact absurd ⟨by omega, (Seq3 _ _ _ _).2 ⟨by omega, by omega, by omega⟩⟩ c
theorem dec4 {s : ByteArray} {i n : Nat} (h : 65536 ≤ n ∧ n < 1114112) (hz : i + 4 ≤ s.size) (b0 : B s i = 240 + n / 262144) (b1 : B s (i + 1) = 128 + n / 4096 % 64) (b2 : B s (i + 2) = 128 + n / 64 % 64) (b3 : B s (i + 3) = 128 + n % 64) : Utf8.decode s i = (n, 4) := by
  rcases hc_of s i with ⟨a, b⟩ | ⟨a, b, c⟩ | ⟨a, b, c⟩ | ⟨a, b, c⟩ | ⟨a, b, c, d, e⟩
  · omega
  · have q := lead2 b; omega
  · have q := l3 b; omega
  · rw [c, b0, b1, b2, b3]; congr 1; omega
  · exact absurd ⟨by omega, (Seq4 _ _ _ _).2 ⟨by omega, by omega, by omega, by omega, by omega⟩⟩ d
theorem u8n (n : Nat) (h : n < 256) : (UInt8.ofNat n).toNat = n := by simp [UInt8.toNat_ofNat']; omega
theorem app3 (l : List UInt8) : ({ data := #[39] } : ByteArray) ++ ⟨l.toArray⟩ ++ { data := #[39] } = ⟨([39] ++ l ++ [39]).toArray⟩ := by
  apply ByteArray.ext; simp
/-- What stands between the two ', its length. -/
theorem quote_lex {n : Nat} (h : okRune (n : Int) = true) (hn : 32 ≤ n ∧ ¬ n = 39 ∧ ¬ n = 127) :
    (1 ≤ (Utf8.encode (n : Int)).size ∧ (Utf8.encode (n : Int)).size ≤ 4) ∧ ∀ s : ByteArray, s = { data := #[39] } ++ Utf8.encode (n : Int) ++ { data := #[39] } → s.size = (Utf8.encode (n : Int)).size + 2 ∧ lexN s = ([⟨3, 0, s.size, ByteArray.empty, n, 0⟩], none) := by
  have hr : n ≤ 1114111 ∧ (n < 55296 ∨ 57343 < n) := by simp [okRune] at h; omega
  have hva : Utf8.valid (n : Int) = true := by simp [Utf8.valid]; omega
  have key : ∀ (l : List UInt8), Utf8.encode (n : Int) = ⟨l.toArray⟩ → 1 ≤ l.length → l.length ≤ 4 → (∀ s : ByteArray, s = ⟨([39] ++ l ++ [39]).toArray⟩ → Utf8.decode s 1 = (n, l.length) ∧ goodAt s 1 = true) →
      (1 ≤ (Utf8.encode (n : Int)).size ∧ (Utf8.encode (n : Int)).size ≤ 4) ∧ ∀ s : ByteArray, s = { data := #[39] } ++ Utf8.encode (n : Int) ++ { data := #[39] } → s.size = (Utf8.encode (n : Int)).size + 2 ∧ lexN s = ([⟨3, 0, s.size, ByteArray.empty, n, 0⟩], none) := by
    intro l hl h1 h4 hd
    rw [hl, size_l]
    refine ⟨⟨h1, h4⟩, fun s hs => ?_⟩
    rw [app3] at hs
    obtain ⟨d1, d2⟩ := hd s hs
    have hz : s.size = l.length + 2 := by rw [hs, size_l]; simp
    refine ⟨hz, words_of_quote hz (by rw [hs, bl_at _ 0 (by simp)]; rfl) d1 d2 h1 hn ?_⟩
    rw [hs, bl_at _ (1 + l.length) (by simp; omega)]
    rw [List.getElem_append_right (by simp; omega)]
    simp
  unfold Utf8.encode at key ⊢
  simp only [hva, if_true, Int.toNat_natCast] at key ⊢
  by_cases c1 : n < 128
  · rw [if_pos c1] at key ⊢
    refine key [UInt8.ofNat n] rfl (by simp) (by simp) fun s hs => ?_
    have b0 : B s 1 = n := by rw [hs, bl_at _ 1 (by simp)]; exact u8n n (by omega)
    exact ⟨by rw [dec_ascii (by omega), b0]; rfl, good_ascii (by omega)⟩
  rw [if_neg c1] at key ⊢
  by_cases c2 : n < 2048
  · rw [if_pos c2] at key ⊢
    refine key [UInt8.ofNat (192 + n / 64), UInt8.ofNat (128 + n % 64)] rfl (by simp) (by simp) fun s hs => ?_
    have b0 : B s 1 = 192 + n / 64 := by rw [hs, bl_at _ 1 (by simp)]; exact u8n _ (by omega)
    have b1 : B s 2 = 128 + n % 64 := by rw [hs, bl_at _ 2 (by simp)]; exact u8n _ (by omega)
    have hz : s.size = 4 := by rw [hs, size_l]; rfl
    have e := dec2 (s := s) (i := 1) ⟨by omega, c2⟩ (by omega) b0 b1
    exact ⟨e, good_iff.2 (Or.inl (by rw [e]; simp))⟩
  rw [if_neg c2] at key ⊢
  by_cases c3 : n < 65536
  · rw [if_pos c3] at key ⊢
    refine key [UInt8.ofNat (224 + n / 4096), UInt8.ofNat (128 + n / 64 % 64), UInt8.ofNat (128 + n % 64)] rfl (by simp) (by simp) fun s hs => ?_
    have b0 : B s 1 = 224 + n / 4096 := by rw [hs, bl_at _ 1 (by simp)]; exact u8n _ (by omega)
    have b1 : B s 2 = 128 + n / 64 % 64 := by rw [hs, bl_at _ 2 (by simp)]; exact u8n _ (by omega)
    have b2 : B s 3 = 128 + n % 64 := by rw [hs, bl_at _ 3 (by simp)]; exact u8n _ (by omega)
    have hz : s.size = 5 := by rw [hs, size_l]; rfl
    have e := dec3 (s := s) (i := 1) ⟨by omega, c3, hr.2⟩ (by omega) b0 b1 b2
    exact ⟨e, good_iff.2 (Or.inl (by rw [e]; simp))⟩
  rw [if_neg c3] at key ⊢
  refine key [UInt8.ofNat (240 + n / 262144), UInt8.ofNat (128 + n / 4096 % 64), UInt8.ofNat (128 + n / 64 % 64), UInt8.ofNat (128 + n % 64)] rfl (by simp) (by simp) fun s hs => ?_
  have b0 : B s 1 = 240 + n / 262144 := by rw [hs, bl_at _ 1 (by simp)]; exact u8n _ (by omega)
  have b1 : B s 2 = 128 + n / 4096 % 64 := by rw [hs, bl_at _ 2 (by simp)]; exact u8n _ (by omega)
  have b2 : B s 3 = 128 + n / 64 % 64 := by rw [hs, bl_at _ 3 (by simp)]; exact u8n _ (by omega)
  have b3 : B s 4 = 128 + n % 64 := by rw [hs, bl_at _ 4 (by simp)]; exact u8n _ (by omega)
  have hz : s.size = 6 := by rw [hs, size_l]; rfl
  have e := dec4 (s := s) (i := 1) ⟨by omega, by omega⟩ (by omega) b0 b1 b2 b3
  exact ⟨e, good_iff.2 (Or.inl (by rw [e]; simp))⟩
end Go.Proofs.YtpdaciljdcfikaaDoor
