/- Plain: a text that is cut ahead of its first wrong byte can go on. -/
import Derived.Test.YtpdaciljdcfikaaDoorLexAgree
namespace Go.Proofs.YtpdaciljdcfikaaDoor
open Go
set_option linter.unusedVariables false
set_option linter.unusedSimpArgs false

/-- How texts that were cut within a word can go on. -/
def endsL : List ByteArray := [⟨#[]⟩, ⟨#[39]⟩, ⟨#[97, 39]⟩, ⟨#[43, 48, 48, 52, 49]⟩, ⟨#[48, 48, 52, 49]⟩, ⟨#[48, 52, 49]⟩, ⟨#[52, 49]⟩, ⟨#[49]⟩, ⟨#[48]⟩, ⟨#[48, 48]⟩, ⟨#[48, 48, 48]⟩, ⟨#[46]⟩,
  ⟨#[128]⟩, ⟨#[128, 128]⟩, ⟨#[128, 128, 128]⟩, ⟨#[191]⟩, ⟨#[191, 128]⟩, ⟨#[191, 128, 128]⟩, ⟨#[128, 39]⟩, ⟨#[128, 128, 39]⟩, ⟨#[128, 128, 128, 39]⟩, ⟨#[191, 39]⟩, ⟨#[191, 128, 39]⟩, ⟨#[191, 128, 128, 39]⟩]

/-- s' is s's first q bytes, then e. -/
structure Cut (s s' e : ByteArray) (q : Nat) : Prop where
  le : q ≤ s.size
  sz : s'.size = q + e.size
  b : ∀ i, i < q → B s' i = B s i
  t : ∀ j, B s' (q + j) = B e j
theorem cut_of {s : ByteArray} {q : Nat} (h : q ≤ s.size) (e : ByteArray) : Cut s (s.extract 0 q ++ e) e q := by
  have hz : (s.extract 0 q).size = q := by simp; omega
  have hz2 : (s.extract 0 q ++ e).size = q + e.size := by rw [ByteArray.size_append, hz]
  refine ⟨h, hz2, fun i hi => ?_, fun j => ?_⟩
  · rw [B_at (by omega : i < (s.extract 0 q ++ e).size), B_at (by omega : i < s.size), ByteArray.getElem_append_left (by omega)]
    simp [ByteArray.getElem_extract]
  · by_cases c : j < e.size
    · rw [B_at (by omega : q + j < (s.extract 0 q ++ e).size), B_at c, ByteArray.getElem_append_right (by omega)]
      congr 2
      omega
    · rw [B_out (by omega), B_out (by omega)]
theorem cut_agree {s s' e : ByteArray} {q : Nat} (h : Cut s s' e q) (h0 : 0 < q) : Agree s s' (q - 1) where
  lt := by have := h.le; omega
  lt' := by have := h.sz; omega
  b := fun i hi => h.b i (by omega)

theorem name_cut {s s' e : ByteArray} {p q : Nat} (h : Cut s s' e q) (hb : nameB (B s' q) = false) : ∀ f i f', i + f = s.size → i + f' = s'.size → (nameGo s p f i).1 = q → nameGo s' p f' i = (q, true) := by
  intro f
  have hle := h.le
  have hsz := h.sz
  have stop : ∀ f', nameGo s' p f' q = (q, true) := fun f' => by
    cases f' with
    | zero => rfl
    | succ g => rw [nameGo, hb]; rfl
  induction f with
  | zero =>
    intro i f' h1 h2 h3
    simp only [nameGo] at h3
    subst h3
    exact stop f'
  | succ f ih =>
    intro i f' h1 h2 h3
    have hi := (nameGo_spec s p (f + 1) i h1).1
    by_cases c : i = q
    · subst c; exact stop f'
    · obtain ⟨g, rfl⟩ : ∃ g, f' = g + 1 := ⟨f' - 1, by omega⟩
      have hb' := h.b i (by omega)
      rw [nameGo] at h3 ⊢
      rw [hb']
      by_cases c1 : nameB (B s i) = true
      · rw [if_pos c1] at h3 ⊢
        by_cases c2 : i - p = 32
        · rw [if_pos c2] at h3; exact absurd h3 c
        · rw [if_neg c2] at h3 ⊢
          exact ih _ _ (by omega) (by omega) h3
      · rw [if_neg c1] at h3; exact absurd h3 c
theorem number_cut {s s' e : ByteArray} {p q : Nat} (h : Cut s s' e q) (hb : digitB (B s' q) = false) : ∀ f i f' n, i + f = s.size → i + f' = s'.size → (numberGo s p f i n).2.1 = q → ∃ m, numberGo s' p f' i n = (m, q, true) := by
  intro f
  have hle := h.le
  have hsz := h.sz
  have stop : ∀ f' n, numberGo s' p f' q n = (n, q, true) := fun f' n => by
    cases f' with
    | zero => rfl
    | succ g => rw [numberGo, hb]; rfl
  induction f with
  | zero =>
    intro i f' n h1 h2 h3
    simp only [numberGo] at h3
    subst h3
    exact ⟨_, stop f' n⟩
  | succ f ih =>
    intro i f' n h1 h2 h3
    have hi := (numberGo_spec s p (f + 1) i n h1).1
    by_cases c : i = q
    · subst c; exact ⟨_, stop f' n⟩
    · obtain ⟨g, rfl⟩ : ∃ g, f' = g + 1 := ⟨f' - 1, by omega⟩
      have hb' := h.b i (by omega)
      rw [numberGo] at h3 ⊢
      rw [hb']
      by_cases c1 : digitB (B s i) = true
      · rw [if_pos c1] at h3 ⊢
        by_cases c2 : (p < i ∧ n = 0) ∨ 65535 < n * 10 + (B s i - 48)
        · rw [if_pos c2] at h3; exact absurd h3 c
        · rw [if_neg c2] at h3 ⊢
          exact ih _ _ _ (by omega) (by omega) h3
      · rw [if_neg c1] at h3; exact absurd h3 c

/-- The number of k digits from i on, behind r. -/
def vGo (s : ByteArray) : Nat → Nat → Nat → Nat
  | 0, _, r => r
  | k + 1, i, r => vGo s k (i + 1) (r * 16 + hexV (B s i))
theorem v4 (s : ByteArray) (p : Nat) : vGo s 4 (p + 2) 0 = ((hexV (B s (p + 2)) * 16 + hexV (B s (p + 3))) * 16 + hexV (B s (p + 4))) * 16 + hexV (B s (p + 5)) := by
  simp only [vGo, Nat.add_assoc, Nat.reduceAdd, Nat.zero_mul, Nat.zero_add]
theorem v5 (s : ByteArray) (p : Nat) : vGo s 5 (p + 2) 0 = (((hexV (B s (p + 2)) * 16 + hexV (B s (p + 3))) * 16 + hexV (B s (p + 4))) * 16 + hexV (B s (p + 5))) * 16 + hexV (B s (p + 6)) := by
  simp only [vGo, Nat.add_assoc, Nat.reduceAdd, Nat.zero_mul, Nat.zero_add]
theorem v6 (s : ByteArray) (p : Nat) : vGo s 6 (p + 2) 0 = ((((hexV (B s (p + 2)) * 16 + hexV (B s (p + 3))) * 16 + hexV (B s (p + 4))) * 16 + hexV (B s (p + 5))) * 16 + hexV (B s (p + 6))) * 16 + hexV (B s (p + 7)) := by
  simp only [vGo, Nat.add_assoc, Nat.reduceAdd, Nat.zero_mul, Nat.zero_add]
theorem point_run (s : ByteArray) (p : Nat) : ∀ k f i r, (∀ j, i ≤ j → j < i + k → hexB (B s j) = true ∧ tooLong s p j = false) → pointGo s p (k + f) i r = pointGo s p f (i + k) (vGo s k i r) := by
  intro k
  induction k with
  | zero => intro f i r _; rw [Nat.zero_add]; rfl
  | succ k ih =>
    intro f i r h
    obtain ⟨h1, h2⟩ := h i (Nat.le_refl _) (by omega)
    rw [show k + 1 + f = k + f + 1 by omega, pointGo, if_pos h1, h2, if_neg (by decide), ih f (i + 1) _ (fun j a b => h j (by omega) (by omega)), show i + 1 + k = i + (k + 1) by omega]
    rfl
theorem point_digits (s : ByteArray) (p : Nat) : ∀ f i r, i + f = s.size → ∀ j, i ≤ j → j < (pointGo s p f i r).2.1 → hexB (B s j) = true ∧ tooLong s p j = false := by
  intro f
  induction f with
  | zero => intro i r _ j h1 h2; simp only [pointGo, pointEnd] at h2; omega
  | succ f ih =>
    intro i r h j h1 h2
    rw [pointGo] at h2
    by_cases c1 : hexB (B s i) = true
    · rw [if_pos c1] at h2
      by_cases c2 : tooLong s p i = true
      · rw [if_pos c2] at h2; simp only at h2; omega
      · rw [if_neg c2] at h2
        by_cases c : j = i
        · subst c; exact ⟨c1, by simpa using c2⟩
        · exact ih _ _ (by omega) j (by omega) h2
    · rw [if_neg c1] at h2; simp only [pointEnd] at h2; omega
theorem point_make {s : ByteArray} {p n : Nat} (hz : s.size = p + 2 + n) (h43 : B s (p + 1) = 43) (hn : 4 ≤ n) (hh : ∀ j, p + 2 ≤ j → j < s.size → hexB (B s j) = true)
    (ht : n ≤ 4 ∨ (n ≤ 5 ∧ ¬ B s (p + 2) = 48) ∨ (n = 6 ∧ B s (p + 2) = 49 ∧ B s (p + 3) = 48)) (hs : scalarB (vGo s n (p + 2) 0) = true) : (pointN s p).2 = (s.size, true) := by
  unfold pointN
  rw [if_pos h43, show s.size - (p + 2) = n + 0 by omega, point_run s p n 0 (p + 2) 0 (fun j a b => ⟨hh j a (by omega), ?_⟩)]
  · simp only [pointGo, pointEnd, hs, Bool.and_true]
    rw [decide_eq_true (by omega), hz]
  · refine false_of (tooLong_iff2 s p j) ?_
    rintro (e | ⟨e1, e2⟩ | ⟨e1, e2⟩)
    · omega
    · omega
    · rcases ht with t | ⟨t, _⟩ | ⟨_, t1, t2⟩
      · omega
      · omega
      · exact e2 ⟨t1, t2⟩
theorem hexV_lt {c : Nat} (h : hexB c = true) : hexV c < 16 := by
  have := (hexB_iff c).1 h
  unfold hexV
  split <;> omega
theorem hexV_48 : hexV 48 = 0 := rfl
theorem hexV_pos {c : Nat} (h : hexB c = true) (hn : ¬ c = 48) : 1 ≤ hexV c := by
  have := (hexB_iff c).1 h
  unfold hexV
  split <;> omega
/-- Behind U+ and some digits a text can go on. -/
theorem point_mend {s : ByteArray} {p q : Nat} (h43 : B s (p + 1) = 43) (hq : (pointGo s p (s.size - (p + 2)) (p + 2) 0).2.1 = q) (hps : p + 2 ≤ s.size) :
    ∃ e ∈ endsL, ∀ s', Cut s s' e q → (pointN s' p).2 = (s'.size, true) := by
  have hd := point_digits s p (s.size - (p + 2)) (p + 2) 0 (by omega)
  have hge := (pointGo_spec s p (s.size - (p + 2)) (p + 2) 0 (by omega)).1
  rw [hq] at hd hge
  have hm : q ≤ p + 8 := by
    by_cases c : p + 8 < q
    · have := (hd (p + 8) (by omega) c).2
      rw [(tooLong_iff2 s p (p + 8)).2 (Or.inl (by omega))] at this; cases this
    · omega
  have h5 : p + 6 < q → ¬ B s (p + 2) = 48 := fun c e => by
    have := (hd (p + 6) (by omega) c).2
    rw [(tooLong_iff2 s p (p + 6)).2 (Or.inr (Or.inl ⟨by omega, e⟩))] at this; cases this
  have h6 : p + 7 < q → B s (p + 2) = 49 ∧ B s (p + 3) = 48 := fun c => by
    have := (hd (p + 7) (by omega) c).2
    by_cases d : B s (p + 2) = 49 ∧ B s (p + 3) = 48
    · exact d
    · rw [(tooLong_iff2 s p (p + 7)).2 (Or.inr (Or.inr ⟨by omega, d⟩))] at this; cases this
  have hx : ∀ j, p + 2 ≤ j → j < q → hexB (B s j) = true := fun j a b => (hd j a b).1
  -- the digits of what is made
  have hmk : ∀ e s', Cut s s' e q → (∀ j, j < e.size → hexB (B e j) = true) → ∀ j, p + 2 ≤ j → j < s'.size → hexB (B s' j) = true := fun e s' hc he j a b => by
    by_cases c : j < q
    · rw [hc.b j c]; exact hx j a c
    · have := hc.t (j - q)
      rw [show q + (j - q) = j by omega] at this
      rw [this]
      have := hc.sz
      exact he _ (by omega)
  rcases (by omega : q = p + 2 ∨ q = p + 3 ∨ q = p + 4 ∨ q = p + 5 ∨ q = p + 6 ∨ q = p + 7 ∨ q = p + 8) with rfl | rfl | rfl | rfl | rfl | rfl | rfl
  · refine ⟨⟨#[48, 48, 52, 49]⟩, by simp [endsL], fun s' hc => ?_⟩
    have hz := hc.sz
    have t0 := hc.t 0
    have t1 := hc.t 1
    have t2 := hc.t 2
    have t3 := hc.t 3
    refine point_make (n := 4) hz ((hc.b _ (by omega)).trans h43) (by omega) (hmk _ _ hc (by decide)) (Or.inl (by omega)) ?_
    rw [v4, show B s' (p + 2) = 48 from t0, show B s' (p + 3) = 48 from t1, show B s' (p + 4) = 52 from t2, show B s' (p + 5) = 49 from t3]
    decide
  · refine ⟨⟨#[48, 52, 49]⟩, by simp [endsL], fun s' hc => ?_⟩
    have hz := hc.sz
    have t0 := hc.t 0
    have t1 := hc.t 1
    have t2 := hc.t 2
    have d0 := hexV_lt (hx (p + 2) (by omega) (by omega))
    refine point_make (n := 4) hz ((hc.b _ (by omega)).trans h43) (by omega) (hmk _ _ hc (by decide)) (Or.inl (by omega)) ?_
    rw [v4, hc.b (p + 2) (by omega), show B s' (p + 3) = 48 from t0, show B s' (p + 4) = 52 from t1, show B s' (p + 5) = 49 from t2, scalarB_iff]
    rw [show hexV 48 = 0 from rfl, show hexV 52 = 4 from rfl, show hexV 49 = 1 from rfl]
    omega
  · have d0 := hexV_lt (hx (p + 2) (by omega) (by omega))
    have d1 := hexV_lt (hx (p + 3) (by omega) (by omega))
    by_cases c : scalarB (((hexV (B s (p + 2)) * 16 + hexV (B s (p + 3))) * 16 + 4) * 16 + 1) = true
    · refine ⟨⟨#[52, 49]⟩, by simp [endsL], fun s' hc => ?_⟩
      have hz := hc.sz
      have t0 := hc.t 0
      have t1 := hc.t 1
      refine point_make (n := 4) hz ((hc.b _ (by omega)).trans h43) (by omega) (hmk _ _ hc (by decide)) (Or.inl (by omega)) ?_
      rw [v4, hc.b (p + 2) (by omega), hc.b (p + 3) (by omega), show B s' (p + 4) = 52 from t0, show B s' (p + 5) = 49 from t1, show hexV 52 = 4 from rfl, show hexV 49 = 1 from rfl]
      exact c
    · refine ⟨⟨#[48, 48, 48]⟩, by simp [endsL], fun s' hc => ?_⟩
      have hz := hc.sz
      have t0 := hc.t 0
      have t1 := hc.t 1
      have t2 := hc.t 2
      rw [scalarB_iff] at c
      refine point_make (n := 5) hz ((hc.b _ (by omega)).trans h43) (by omega) (hmk _ _ hc (by decide)) (Or.inr (Or.inl ⟨by omega, fun e => ?_⟩)) ?_
      · rw [← hc.b (p + 2) (by omega), e, hexV_48] at c; rw [← hc.b (p + 3) (by omega)] at c d1; omega
      · rw [v5, hc.b (p + 2) (by omega), hc.b (p + 3) (by omega), show B s' (p + 4) = 48 from t0, show B s' (p + 5) = 48 from t1, show B s' (p + 6) = 48 from t2, scalarB_iff, hexV_48]
        omega
  · have d0 := hexV_lt (hx (p + 2) (by omega) (by omega))
    have d1 := hexV_lt (hx (p + 3) (by omega) (by omega))
    have d2 := hexV_lt (hx (p + 4) (by omega) (by omega))
    by_cases c : scalarB (((hexV (B s (p + 2)) * 16 + hexV (B s (p + 3))) * 16 + hexV (B s (p + 4))) * 16 + 1) = true
    · refine ⟨⟨#[49]⟩, by simp [endsL], fun s' hc => ?_⟩
      have hz := hc.sz
      have t0 := hc.t 0
      refine point_make (n := 4) hz ((hc.b _ (by omega)).trans h43) (by omega) (hmk _ _ hc (by decide)) (Or.inl (by omega)) ?_
      rw [v4, hc.b (p + 2) (by omega), hc.b (p + 3) (by omega), hc.b (p + 4) (by omega), show B s' (p + 5) = 49 from t0, show hexV 49 = 1 from rfl]
      exact c
    · refine ⟨⟨#[48, 48]⟩, by simp [endsL], fun s' hc => ?_⟩
      have hz := hc.sz
      have t0 := hc.t 0
      have t1 := hc.t 1
      rw [scalarB_iff] at c
      refine point_make (n := 5) hz ((hc.b _ (by omega)).trans h43) (by omega) (hmk _ _ hc (by decide)) (Or.inr (Or.inl ⟨by omega, fun e => ?_⟩)) ?_
      · rw [← hc.b (p + 2) (by omega), e, hexV_48] at c; omega
      · rw [v5, hc.b (p + 2) (by omega), hc.b (p + 3) (by omega), hc.b (p + 4) (by omega), show B s' (p + 5) = 48 from t0, show B s' (p + 6) = 48 from t1, scalarB_iff, hexV_48]
        omega
  · have d0 := hexV_lt (hx (p + 2) (by omega) (by omega))
    have d1 := hexV_lt (hx (p + 3) (by omega) (by omega))
    have d2 := hexV_lt (hx (p + 4) (by omega) (by omega))
    have d3 := hexV_lt (hx (p + 5) (by omega) (by omega))
    by_cases c : scalarB (((hexV (B s (p + 2)) * 16 + hexV (B s (p + 3))) * 16 + hexV (B s (p + 4))) * 16 + hexV (B s (p + 5))) = true
    · refine ⟨⟨#[]⟩, by simp [endsL], fun s' hc => ?_⟩
      have hz := hc.sz
      refine point_make (n := 4) hz ((hc.b _ (by omega)).trans h43) (by omega) (hmk _ _ hc (by decide)) (Or.inl (by omega)) ?_
      rw [v4, hc.b (p + 2) (by omega), hc.b (p + 3) (by omega), hc.b (p + 4) (by omega), hc.b (p + 5) (by omega)]
      exact c
    · refine ⟨⟨#[48]⟩, by simp [endsL], fun s' hc => ?_⟩
      have hz := hc.sz
      have t0 := hc.t 0
      rw [scalarB_iff] at c
      refine point_make (n := 5) hz ((hc.b _ (by omega)).trans h43) (by omega) (hmk _ _ hc (by decide)) (Or.inr (Or.inl ⟨by omega, fun e => ?_⟩)) ?_
      · rw [← hc.b (p + 2) (by omega), e, hexV_48] at c; omega
      · rw [v5, hc.b (p + 2) (by omega), hc.b (p + 3) (by omega), hc.b (p + 4) (by omega), hc.b (p + 5) (by omega), show B s' (p + 6) = 48 from t0, scalarB_iff, hexV_48]
        omega
  · have d0 := hexV_lt (hx (p + 2) (by omega) (by omega))
    have d1 := hexV_lt (hx (p + 3) (by omega) (by omega))
    have d2 := hexV_lt (hx (p + 4) (by omega) (by omega))
    have d3 := hexV_lt (hx (p + 5) (by omega) (by omega))
    have d4 := hexV_lt (hx (p + 6) (by omega) (by omega))
    have n0 := hexV_pos (hx (p + 2) (by omega) (by omega)) (h5 (by omega))
    refine ⟨⟨#[]⟩, by simp [endsL], fun s' hc => ?_⟩
    have hz := hc.sz
    refine point_make (n := 5) hz ((hc.b _ (by omega)).trans h43) (by omega) (hmk _ _ hc (by decide)) (Or.inr (Or.inl ⟨by omega, by rw [hc.b (p + 2) (by omega)]; exact h5 (by omega)⟩)) ?_
    rw [v5, hc.b (p + 2) (by omega), hc.b (p + 3) (by omega), hc.b (p + 4) (by omega), hc.b (p + 5) (by omega), hc.b (p + 6) (by omega), scalarB_iff]
    omega
  · have d2 := hexV_lt (hx (p + 4) (by omega) (by omega))
    have d3 := hexV_lt (hx (p + 5) (by omega) (by omega))
    have d4 := hexV_lt (hx (p + 6) (by omega) (by omega))
    have d5 := hexV_lt (hx (p + 7) (by omega) (by omega))
    obtain ⟨n0, n1⟩ := h6 (by omega)
    refine ⟨⟨#[]⟩, by simp [endsL], fun s' hc => ?_⟩
    have hz := hc.sz
    have b0 := hc.b (p + 2) (by omega)
    have b1 := hc.b (p + 3) (by omega)
    rw [n0] at b0
    rw [n1] at b1
    refine point_make (n := 6) hz ((hc.b _ (by omega)).trans h43) (by omega) (hmk _ _ hc (by decide)) (Or.inr (Or.inr ⟨rfl, b0, b1⟩)) ?_
    rw [v6, b0, b1, hc.b (p + 4) (by omega), hc.b (p + 5) (by omega), hc.b (p + 6) (by omega), hc.b (p + 7) (by omega), scalarB_iff, hexV_48, show hexV 49 = 1 from rfl]
    omega
end Go.Proofs.YtpdaciljdcfikaaDoor
