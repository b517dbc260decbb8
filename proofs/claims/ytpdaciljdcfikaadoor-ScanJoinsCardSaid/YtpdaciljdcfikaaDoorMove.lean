/- Plain: words and remarks that stand elsewhere, or have something else behind them. -/
import Derived.Test.YtpdaciljdcfikaaDoorLexRef
import Derived.Test.YtpdaciljdcfikaaDoorLexBound
import Derived.Test.YtpdaciljdcfikaaDoorLexSeq
namespace Go.Proofs.YtpdaciljdcfikaaDoor
open Go
set_option linter.unusedVariables false
set_option linter.unusedSimpArgs false

/-- n bytes of s from p on stand in s' from p' on. -/
structure Mv (s s' : ByteArray) (p p' n : Nat) : Prop where
  le : p + n ≤ s.size
  le' : p' + n ≤ s'.size
  b : ∀ j, j < n → B s' (p' + j) = B s (p + j)
theorem not_name {c : Nat} (h : grownB c = false) : nameB c = false := by
  cases e : nameB c with
  | false => rfl
  | true => rw [(grownB_iff c).2 (by have := (nameB_iff c).1 e; omega)] at h; cases h
theorem not_digit {c : Nat} (h : grownB c = false) : digitB c = false := by
  cases e : digitB c with
  | false => rfl
  | true => rw [(grownB_iff c).2 (by have := (digitB_iff c).1 e; omega)] at h; cases h
theorem not_hex {c : Nat} (h : grownB c = false) : hexB c = false := by
  cases e : hexB c with
  | false => rfl
  | true => rw [(grownB_iff c).2 (by have := (hexB_iff c).1 e; omega)] at h; cases h

theorem good_move {s s' : ByteArray} {i i' : Nat} (hg : goodAt s i = true) (h : Mv s s' i i' (Utf8.decode s i).2) : Utf8.decode s' i' = Utf8.decode s i ∧ goodAt s' i' = true := by
  have hw := dec_width s i
  have hg2 := good_iff.1 hg
  have hle' := h.le'
  have e0 := h.b 0 (by omega)
  rw [Nat.add_zero, Nat.add_zero] at e0
  have hb := h.b
  have e : Utf8.decode s' i' = Utf8.decode s i := by
    rw [dec_eq s i] at hg2 hb hw hle' ⊢
    rw [dec_eq s', e0]
    exact decodeN_congr (B_lt _ _) (B_lt _ _) (B_lt _ _) (B_lt _ _) (B_lt _ _) (B_lt _ _) (B_lt _ _) hg2 (by omega) (fun h => hb 1 (by omega)) (fun h => hb 2 (by omega)) (fun h => hb 3 (by omega))
  exact ⟨e, good_iff.2 (by rw [e, e0]; exact hg2)⟩

theorem name_move {s s' : ByteArray} {p p' n : Nat} (h : Mv s s' p p' n) (hb : nameB (B s' (p' + n)) = false) : ∀ f d f', p + d + f = s.size → p' + d + f' = s'.size → d ≤ n → nameGo s p f (p + d) = (p + n, true) → nameGo s' p' f' (p' + d) = (p' + n, true) := by
  have hle := h.le
  have hle' := h.le'
  have stop : ∀ f', nameGo s' p' f' (p' + n) = (p' + n, true) := fun f' => by
    cases f' with
    | zero => rfl
    | succ g => rw [nameGo, hb]; rfl
  intro f
  induction f with
  | zero =>
    intro d f' h1 h2 hd h3
    rw [nameGo] at h3
    simp only [Prod.mk.injEq, and_true] at h3
    obtain rfl : d = n := by omega
    exact stop f'
  | succ f ih =>
    intro d f' h1 h2 hd h3
    by_cases c : d = n
    · subst c; exact stop f'
    · obtain ⟨g, rfl⟩ : ∃ g, f' = g + 1 := ⟨f' - 1, by omega⟩
      rw [nameGo] at h3 ⊢
      rw [h.b d (by omega)]
      by_cases c1 : nameB (B s (p + d)) = true
      · rw [if_pos c1] at h3 ⊢
        by_cases c2 : d = 32
        · rw [if_pos (by omega)] at h3; simp at h3
        · rw [if_neg (by omega)] at h3 ⊢
          exact ih (d + 1) g (by omega) (by omega) (by omega) h3
      · rw [if_neg c1] at h3
        simp only [Prod.mk.injEq, and_true] at h3
        omega
theorem number_move {s s' : ByteArray} {p p' n v : Nat} (h : Mv s s' p p' n) (hb : digitB (B s' (p' + n)) = false) : ∀ f d f' m, p + d + f = s.size → p' + d + f' = s'.size → d ≤ n → numberGo s p f (p + d) m = (v, p + n, true) → numberGo s' p' f' (p' + d) m = (v, p' + n, true) := by
  have hle := h.le
  have hle' := h.le'
  have stop : ∀ f' m, numberGo s' p' f' (p' + n) m = (m, p' + n, true) := fun f' m => by
    cases f' with
    | zero => rfl
    | succ g => rw [numberGo, hb]; rfl
  intro f
  induction f with
  | zero =>
    intro d f' m h1 h2 hd h3
    rw [numberGo] at h3
    simp only [Prod.mk.injEq, and_true] at h3
    obtain rfl : d = n := by omega
    obtain ⟨rfl, _⟩ := h3
    exact stop f' m
  | succ f ih =>
    intro d f' m h1 h2 hd h3
    by_cases c1 : digitB (B s (p + d)) = true
    · rw [numberGo, if_pos c1] at h3
      by_cases c2 : (p < p + d ∧ m = 0) ∨ 65535 < m * 10 + (B s (p + d) - 48)
      · rw [if_pos c2] at h3; simp at h3
      · rw [if_neg c2] at h3
        have hge := (numberGo_spec s p f (p + d + 1) (m * 10 + (B s (p + d) - 48)) (by omega)).1
        rw [h3] at hge
        simp only at hge
        obtain ⟨g, rfl⟩ : ∃ g, f' = g + 1 := ⟨f' - 1, by omega⟩
        rw [numberGo, h.b d (by omega), if_pos c1, if_neg (by omega)]
        exact ih (d + 1) g _ (by omega) (by omega) (by omega) h3
    · rw [numberGo, if_neg c1] at h3
      simp only [Prod.mk.injEq, and_true] at h3
      obtain rfl : d = n := by omega
      obtain ⟨rfl, _⟩ := h3
      exact stop f' m
theorem tl_move {s s' : ByteArray} {p p' n d : Nat} (h : Mv s s' p p' n) (hd : d ≤ n) : tooLong s' p' (p' + d) = tooLong s p (p + d) := by
  by_cases c : 4 ≤ d
  · unfold tooLong
    rw [h.b 2 (by omega), h.b 3 (by omega), show p' + d - p' - 2 = d - 2 by omega, show p + d - p - 2 = d - 2 by omega]
  · unfold tooLong
    rw [decide_eq_false (by omega : ¬ p' + d - p' - 2 = 6), decide_eq_false (by omega : ¬ 4 ≤ p' + d - p' - 2), decide_eq_false (by omega : ¬ p' + d - p' - 2 = 5),
      decide_eq_false (by omega : ¬ p + d - p - 2 = 6), decide_eq_false (by omega : ¬ 4 ≤ p + d - p - 2), decide_eq_false (by omega : ¬ p + d - p - 2 = 5)]
    simp
theorem pend_move {p p' n d r v : Nat} (h : pointEnd p (p + d) r = (v, p + n, true)) : d = n ∧ pointEnd p' (p' + n) r = (v, p' + n, true) := by
  unfold pointEnd at *
  simp only [Prod.mk.injEq] at h
  obtain ⟨rfl, h2, h3⟩ := h
  obtain rfl : d = n := by omega
  refine ⟨rfl, ?_⟩
  rw [Bool.and_eq_true, decide_eq_true_iff] at h3
  rw [decide_eq_true (by omega), h3.2]
  rfl
theorem point_move {s s' : ByteArray} {p p' n v : Nat} (h : Mv s s' p p' n) (hb : hexB (B s' (p' + n)) = false) : ∀ f d f' r, p + d + f = s.size → p' + d + f' = s'.size → d ≤ n → pointGo s p f (p + d) r = (v, p + n, true) → pointGo s' p' f' (p' + d) r = (v, p' + n, true) := by
  have hle := h.le
  have hle' := h.le'
  have stop : ∀ f' r, pointGo s' p' f' (p' + n) r = pointEnd p' (p' + n) r := fun f' r => by
    cases f' with
    | zero => rfl
    | succ g => rw [pointGo, hb]; rfl
  intro f
  induction f with
  | zero =>
    intro d f' r h1 h2 hd h3
    rw [pointGo] at h3
    obtain ⟨rfl, e⟩ := pend_move (p' := p') h3
    rw [stop, e]
  | succ f ih =>
    intro d f' r h1 h2 hd h3
    by_cases c1 : hexB (B s (p + d)) = true
    · rw [pointGo, if_pos c1] at h3
      by_cases c2 : tooLong s p (p + d) = true
      · rw [if_pos c2] at h3; simp at h3
      · rw [if_neg c2] at h3
        have hge := (pointGo_spec s p f (p + d + 1) (r * 16 + hexV (B s (p + d))) (by omega)).1
        rw [h3] at hge
        simp only at hge
        obtain ⟨g, rfl⟩ : ∃ g, f' = g + 1 := ⟨f' - 1, by omega⟩
        rw [pointGo, h.b d (by omega), if_pos c1, tl_move h (by omega), if_neg c2]
        exact ih (d + 1) g _ (by omega) (by omega) (by omega) h3
    · rw [pointGo, if_neg c1] at h3
      obtain ⟨rfl, e⟩ := pend_move (p' := p') h3
      rw [stop, e]
theorem quoted_move {s s' : ByteArray} {p p' n v : Nat} (h : Mv s s' p p' n) (hq : quotedN s p = (v, p + n, true)) : quotedN s' p' = (v, p' + n, true) := by
  have hle := h.le
  have hle' := h.le'
  unfold quotedN at hq
  by_cases c1 : s.size ≤ p + 1
  · rw [if_pos c1] at hq; simp at hq
  rw [if_neg c1] at hq
  cases hg : goodAt s (p + 1) with
  | false => rw [hg, if_pos rfl] at hq; simp at hq
  | true =>
    rw [hg, if_neg (by decide)] at hq
    by_cases c2 : (Utf8.decode s (p + 1)).1 < 32 ∨ (Utf8.decode s (p + 1)).1 = 39 ∨ (Utf8.decode s (p + 1)).1 = 127
    · rw [if_pos c2] at hq; simp at hq
    rw [if_neg c2] at hq
    by_cases c3 : B s (p + 1 + (Utf8.decode s (p + 1)).2) = 39
    · rw [if_pos c3] at hq
      simp only [Prod.mk.injEq, and_true] at hq
      obtain ⟨hq1, hq2⟩ := hq
      have hw := dec_width s (p + 1)
      have hm : Mv s s' (p + 1) (p' + 1) (Utf8.decode s (p + 1)).2 := ⟨by omega, by omega, fun j hj => by
        have := h.b (1 + j) (by omega)
        rw [← Nat.add_assoc, ← Nat.add_assoc] at this
        exact this⟩
      obtain ⟨g1, g2⟩ := good_move hg hm
      have hl := h.b (1 + (Utf8.decode s (p + 1)).2) (by omega)
      rw [← Nat.add_assoc, ← Nat.add_assoc, c3] at hl
      unfold quotedN
      rw [if_neg (by omega), g2, if_neg (by decide), g1, if_neg c2, if_pos hl, hq1, show p' + 1 + (Utf8.decode s (p + 1)).2 + 1 = p' + n by omega]
    · rw [if_neg c3] at hq; simp at hq
theorem extract_move {s s' : ByteArray} {p p' n : Nat} (h : Mv s s' p p' n) : s'.extract p' (p' + n) = s.extract p (p + n) := by
  have hle := h.le
  have hle' := h.le'
  refine ByteArray.ext_getElem (by simp; omega) fun i h1 h2 => ?_
  have hi : i < n := by simp at h2; omega
  rw [ByteArray.getElem_extract, ByteArray.getElem_extract]
  have hb := h.b i hi
  rw [B_at (by omega), B_at (by omega)] at hb
  exact UInt8.toNat_inj.1 hb
/-- A word's place is moved. -/
def Wd.at_ (w : Wd) (p : Nat) : Wd := ⟨w.kind, p, p + (w.en - w.fr), w.txt, w.r, w.n⟩
theorem apart_ok {s : ByteArray} {w wd : Wd} {i q : Nat} (h : apartN s w i = (wd, q, true)) : w = wd ∧ i = q ∧ grownB (B s i) = false := by
  unfold apartN at h
  simp only [Prod.mk.injEq, Bool.not_eq_true'] at h
  exact h
theorem word_move {s s' : ByteArray} {p p' n : Nat} {w : Wd} (h : Mv s s' p p' n) (h0 : 0 < n) (hw : wordN s p = (w, p + n, true)) (hb : grownB (B s' (p' + n)) = false ∨ B s' (p' + n) = B s (p + n)) :
    wordN s' p' = (w.at_ p', p' + n, true) ∧ w.fr = p ∧ w.en = p + n := by
  have hle := h.le
  have hle' := h.le'
  have b0 := h.b 0 h0
  rw [Nat.add_zero, Nat.add_zero] at b0
  have hgr : grownB (B s (p + n)) = false → grownB (B s' (p' + n)) = false := fun e => by
    rcases hb with x | x
    · exact x
    · rw [x]; exact e
  by_cases c1 : smallB (B s p) = true
  · rw [word_name c1] at hw
    cases hok : (nameN s p).2 with
    | false => rw [hok, if_neg (by decide)] at hw; simp at hw
    | true =>
      rw [hok, if_pos rfl] at hw
      obtain ⟨rfl, e1, e2⟩ := apart_ok hw
      rw [e1] at e2 ⊢
      have e3 := hgr e2
      have en : nameN s' p' = (p' + n, true) := name_move h (not_name e3) _ 0 _ (by omega) (by omega) (by omega) (Prod.ext e1 hok)
      rw [word_name (by rw [b0]; exact c1), en, if_pos rfl, apartN, e3, extract_move h]
      exact ⟨by simp [Wd.at_], rfl, rfl⟩
  by_cases c2 : digitB (B s p) = true
  · rw [word_number c2] at hw
    cases hok : (numberN s p).2.2 with
    | false => rw [hok, if_neg (by decide)] at hw; simp at hw
    | true =>
      rw [hok, if_pos rfl] at hw
      obtain ⟨rfl, e1, e2⟩ := apart_ok hw
      rw [e1] at e2 ⊢
      have e3 := hgr e2
      have en : numberN s' p' = ((numberN s p).1, p' + n, true) := number_move h (not_digit e3) _ 0 _ 0 (by omega) (by omega) (by omega) (Prod.ext rfl (Prod.ext e1 hok))
      rw [word_number (by rw [b0]; exact c2), en, if_pos rfl, apartN, e3]
      exact ⟨by simp [Wd.at_], rfl, rfl⟩
  by_cases c3 : B s p = 85
  · rw [word_point c3] at hw
    cases hok : (pointN s p).2.2 with
    | false => rw [hok, if_neg (by decide)] at hw; simp at hw
    | true =>
      rw [hok, if_pos rfl] at hw
      obtain ⟨rfl, e1, e2⟩ := apart_ok hw
      rw [e1] at e2 ⊢
      have e3 := hgr e2
      have en : pointN s' p' = ((pointN s p).1, p' + n, true) := by
        have hx : pointN s p = ((pointN s p).1, p + n, true) := Prod.ext rfl (Prod.ext e1 hok)
        generalize (pointN s p).1 = v at *
        unfold pointN at hx ⊢
        by_cases h43 : B s (p + 1) = 43
        · rw [if_pos h43] at hx
          have hin : p + 1 < s.size := by
            by_cases d : p + 1 < s.size
            · exact d
            · rw [B_out (by omega)] at h43; omega
          have hge := (pointGo_spec s p (s.size - (p + 2)) (p + 2) 0 (by omega)).1
          rw [hx] at hge
          simp only at hge
          rw [if_pos (by rw [h.b 1 (by omega)]; exact h43)]
          exact point_move h (not_hex e3) _ 2 _ 0 (by omega) (by omega) (by omega) hx
        · rw [if_neg h43] at hx; simp at hx
      rw [word_point (by rw [b0]; exact c3), en, if_pos rfl, apartN, e3]
      exact ⟨by simp [Wd.at_], rfl, rfl⟩
  by_cases c4 : B s p = 39
  · rw [word_quoted c4] at hw
    simp only [Prod.mk.injEq] at hw
    obtain ⟨rfl, e1, e2⟩ := hw
    have en := quoted_move (v := (quotedN s p).1) h (Prod.ext rfl (Prod.ext e1 e2))
    rw [word_quoted (by rw [b0]; exact c4), en, e1]
    exact ⟨by simp [Wd.at_], rfl, rfl⟩
  by_cases c5 : B s p = 46
  · rw [word_dots c5] at hw
    simp only [Prod.mk.injEq, beq_iff_eq] at hw
    obtain ⟨rfl, e1, e2⟩ := hw
    rw [if_pos e2] at e1
    obtain rfl : n = 2 := by omega
    have b1 := h.b 1 (by omega)
    rw [word_dots (by rw [b0]; exact c5), b1, e2, if_pos rfl]
    exact ⟨by simp [Wd.at_], rfl, rfl⟩
  by_cases c6 : signN (B s p) = 0
  · rw [word_none c1 c2 c3 c4 c5 c6] at hw; simp at hw
  · rw [word_sign c6] at hw
    simp only [Prod.mk.injEq, and_true] at hw
    obtain ⟨rfl, e1⟩ := hw
    obtain rfl : n = 1 := by omega
    rw [word_sign (by rw [b0]; exact c6), b0]
    exact ⟨by simp [Wd.at_], rfl, rfl⟩
theorem remark_move {s s' : ByteArray} : ∀ f i i' n, s.size - i ≤ f → i ≤ s.size → Mv s s' i i' n → remarkGo s f i = (i + n, true) → (i' + n = s'.size ∨ B s' (i' + n) = 10) → remarkN s' i' = (i' + n, true) := by
  intro f
  induction f with
  | zero =>
    intro i i' n h1 h2 hm h3 h4
    rw [remarkGo] at h3
    simp only [Prod.mk.injEq, and_true] at h3
    obtain rfl : n = 0 := by omega
    exact remark_stop (fun x => by rcases h4 with h4 | h4 <;> simp only [Nat.add_zero] at h4 <;> omega)
  | succ f ih =>
    intro i i' n h1 h2 hm h3 h4
    have hle := hm.le
    have hle' := hm.le'
    rw [remarkGo] at h3
    by_cases c : i < s.size ∧ ¬ B s i = 10
    · rw [if_pos c] at h3
      cases hg : goodAt s i with
      | false => rw [hg, if_neg (by decide)] at h3; simp at h3
      | true =>
        rw [hg, if_pos rfl] at h3
        have hw := dec_width s i
        have hfit := dec_fits c.1
        have hge := (remarkGo_le s f (i + (Utf8.decode s i).2) hfit).2
        rw [h3] at hge
        simp only at hge
        obtain ⟨g1, g2⟩ := good_move hg ⟨hfit, by omega, fun j hj => hm.b j (by omega)⟩
        have b0 := hm.b 0 (by omega)
        rw [Nat.add_zero, Nat.add_zero] at b0
        have hm2 : Mv s s' (i + (Utf8.decode s i).2) (i' + (Utf8.decode s i).2) (n - (Utf8.decode s i).2) := ⟨by omega, by omega, fun j hj => by
          have := hm.b ((Utf8.decode s i).2 + j) (by omega)
          rw [← Nat.add_assoc, ← Nat.add_assoc] at this
          exact this⟩
        have := ih _ _ _ (by omega) hfit hm2 (by rw [h3, show i + (Utf8.decode s i).2 + (n - (Utf8.decode s i).2) = i + n by omega]) (by rw [show i' + (Utf8.decode s i).2 + (n - (Utf8.decode s i).2) = i' + n by omega]; exact h4)
        rw [remark_step (by omega) (by rw [b0]; exact c.2) g2, g1, this, show i' + (Utf8.decode s i).2 + (n - (Utf8.decode s i).2) = i' + n by omega]
    · rw [if_neg c] at h3
      simp only [Prod.mk.injEq, and_true] at h3
      obtain rfl : n = 0 := by omega
      exact remark_stop (fun x => by rcases h4 with h4 | h4 <;> simp only [Nat.add_zero] at h4 <;> omega)

/-- All of a text's words, where the text stands in another from k on, with its end or a line's end behind it. -/
theorem lexGo_move {s s' : ByteArray} {k : Nat} (hm : Mv s s' 0 k s.size) (hend : k + s.size = s'.size ∨ B s' (k + s.size) = 10) : ∀ f p l ws, s.size - p ≤ f → p ≤ s.size → lexGo s f p l = (l ++ ws, none) →
    ∀ f' l', s'.size - (k + p) ≤ f' → ∃ f'', s'.size - (k + s.size) ≤ f'' ∧ lexGo s' f' (k + p) l' = lexGo s' f'' (k + s.size) (l' ++ ws.map fun w => w.at_ (k + w.fr)) := by
  have hle' := hm.le'
  have hmv : ∀ i n, i + n ≤ s.size → Mv s s' i (k + i) n := fun i n h => ⟨h, by omega, fun j hj => by
    have := hm.b (i + j) (by omega)
    rw [Nat.zero_add] at this
    rw [Nat.add_assoc]
    exact this⟩
  intro f
  induction f with
  | zero =>
    intro p l ws h1 h2 h3 f' l' hf'
    obtain rfl : p = s.size := by omega
    rw [lexGo] at h3
    simp only [Prod.mk.injEq, and_true] at h3
    obtain rfl : ws = [] := by simpa using h3
    exact ⟨f', hf', by simp⟩
  | succ f ih =>
    intro p l ws h1 h2 h3 f' l' hf'
    by_cases hp : p < s.size
    · obtain ⟨g, rfl⟩ : ∃ g, f' = g + 1 := ⟨f' - 1, by omega⟩
      have hb : B s' (k + p) = B s p := by have := (hmv p 1 (by omega)).b 0 (by omega); exact this
      by_cases c1 : blankB (B s p) = true
      · rw [lex_blank hp c1] at h3
        rw [lex_blank (by omega) (by rw [hb]; exact c1)]
        exact ih _ _ _ (by omega) (by omega) h3 g l' (by omega)
      by_cases c2 : B s p = 35
      · rw [lex_remark hp c2] at h3
        cases hok : (remarkN s p).2 with
        | false => rw [hok, if_neg (by decide)] at h3; simp at h3
        | true =>
          rw [hok, if_pos rfl] at h3
          have hr := remarkGo_le s (s.size - p) p h2
          have hr1 : (remarkN s p).1 ≤ s.size := hr.1
          have hgt := (remarkN_spec hp c2 hok).1
          have hstop : k + (remarkN s p).1 = s'.size ∨ B s' (k + (remarkN s p).1) = 10 := by
            have hend2 : ∀ f i, s.size ≤ i + f → i ≤ s.size → (remarkGo s f i).2 = true → ((remarkGo s f i).1 = s.size ∨ B s (remarkGo s f i).1 = 10) := by
              intro f
              induction f with
              | zero => intro i a hi _; exact Or.inl (by simp only [remarkGo]; omega)
              | succ f ih2 =>
                intro i a hi b
                rw [remarkGo] at b ⊢
                have hw := dec_width s i
                by_cases d : i < s.size ∧ ¬ B s i = 10
                · rw [if_pos d] at b ⊢
                  cases hg : goodAt s i with
                  | true => rw [hg, if_pos rfl] at b; rw [if_pos rfl]; exact ih2 _ (by omega) (dec_fits d.1) b
                  | false => rw [hg, if_neg (by decide)] at b; cases b
                · rw [if_neg d]
                  by_cases x : i = s.size
                  · exact Or.inl x
                  · exact Or.inr (by simp only; omega)
            rcases hend2 (s.size - p) p (by omega) h2 hok with x | x
            · have x' : (remarkN s p).1 = s.size := x
              rw [x']; exact hend
            · have x' : B s (remarkN s p).1 = 10 := x
              by_cases y : (remarkN s p).1 < s.size
              · right
                have := (hmv (remarkN s p).1 1 (by omega)).b 0 (by omega)
                rw [Nat.add_zero, Nat.add_zero] at this
                rw [this]; exact x'
              · rw [B_out (by omega)] at x'; omega
          have hmr := remark_move _ _ _ ((remarkN s p).1 - p) (by omega) h2 (hmv p ((remarkN s p).1 - p) (by omega)) (show remarkGo s (s.size - p) p = _ from Prod.ext (show (remarkN s p).1 = _ by omega) hok) (by rw [show k + p + ((remarkN s p).1 - p) = k + (remarkN s p).1 by omega]; exact hstop)
          rw [lex_remark (by omega) (by rw [hb]; exact c2), hmr, if_pos rfl, show k + p + ((remarkN s p).1 - p) = k + (remarkN s p).1 by omega]
          exact ih _ _ _ (by omega) hr1 h3 g l' (by omega)
      have n1 : ¬ (B s p = 32 ∨ B s p = 9 ∨ B s p = 10 ∨ B s p = 13) := fun x => c1 ((blankB_iff _).2 x)
      rw [lex_word hp n1 c2] at h3
      cases hok : (wordN s p).2.2 with
      | false => rw [hok, if_neg (by decide)] at h3; simp at h3
      | true =>
        rw [hok, if_pos rfl] at h3
        have hw := wordN_le hp
        have hgt := hw.2.2 hok
        have hstop : grownB (B s' (k + p + ((wordN s p).2.1 - p))) = false ∨ B s' (k + p + ((wordN s p).2.1 - p)) = B s (p + ((wordN s p).2.1 - p)) := by
          rw [show k + p + ((wordN s p).2.1 - p) = k + (wordN s p).2.1 by omega, show p + ((wordN s p).2.1 - p) = (wordN s p).2.1 by omega]
          by_cases y : (wordN s p).2.1 < s.size
          · right
            have := (hmv (wordN s p).2.1 1 (by omega)).b 0 (by omega)
            exact this
          · left
            rw [show (wordN s p).2.1 = s.size by omega]
            rcases hend with x | x
            · rw [B_out (by omega)]; decide
            · rw [x]; decide
        obtain ⟨m1, m2, m3⟩ := word_move (hmv p ((wordN s p).2.1 - p) (by omega)) (by omega) (w := (wordN s p).1) (Prod.ext rfl (Prod.ext (by simp only; omega) hok)) hstop
        rw [lex_word (by omega) (by rw [hb]; exact n1) (by rw [hb]; exact c2), m1, if_pos rfl]
        simp only []
        -- the words behind it
        have hsplit : ∃ ws2, ws = (wordN s p).1 :: ws2 := by
          have hpre : ∀ f p l, ∃ t, (lexGo s f p l).1 = l ++ t := by
            intro f
            induction f with
            | zero => intro p l; exact ⟨[], by simp [lexGo]⟩
            | succ f ih3 =>
              intro p l
              rw [lexGo]
              split
              · split
                · exact ih3 _ _
                · split
                  · split
                    · exact ih3 _ _
                    · exact ⟨[], by simp⟩
                  · split
                    · obtain ⟨t, ht⟩ := ih3 (wordN s p).2.1 (l ++ [(wordN s p).1])
                      exact ⟨(wordN s p).1 :: t, by rw [ht]; simp⟩
                    · exact ⟨[], by simp⟩
              · exact ⟨[], by simp⟩
          obtain ⟨t, ht⟩ := hpre f (wordN s p).2.1 (l ++ [(wordN s p).1])
          rw [h3] at ht
          simp only [List.append_assoc, List.append_cancel_left_eq, List.singleton_append] at ht
          exact ⟨t, ht⟩
        obtain ⟨ws2, rfl⟩ := hsplit
        obtain ⟨f'', a, b⟩ := ih _ _ ws2 (by omega) hw.1 (by rw [h3]; simp) g (l' ++ [(wordN s p).1.at_ (k + p)]) (by omega)
        refine ⟨f'', a, ?_⟩
        rw [show k + p + ((wordN s p).2.1 - p) = k + (wordN s p).2.1 by omega, b]
        simp [m2]
    · rw [lex_end _ _ _ _ (by omega)] at h3
      simp only [Prod.mk.injEq, and_true] at h3
      obtain rfl : ws = [] := by simpa using h3
      obtain rfl : p = s.size := by omega
      exact ⟨f', hf', by simp⟩
end Go.Proofs.YtpdaciljdcfikaaDoor
