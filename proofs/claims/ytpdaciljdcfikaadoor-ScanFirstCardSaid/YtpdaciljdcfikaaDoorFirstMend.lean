/- Plain: a text that is cut ahead of its first wrong byte can go on: sequences, remarks, words, all. -/
import Derived.Test.YtpdaciljdcfikaaDoorFirstCut
namespace Go.Proofs.YtpdaciljdcfikaaDoor
open Go
set_option linter.unusedVariables false
set_option linter.unusedSimpArgs false

def seqEnds : List ByteArray := [⟨#[128]⟩, ⟨#[128, 128]⟩, ⟨#[128, 128, 128]⟩, ⟨#[191]⟩, ⟨#[191, 128]⟩, ⟨#[191, 128, 128]⟩]
/-- e begins with e1. -/
def Starts (e e1 : ByteArray) : Prop := e1.size ≤ e.size ∧ ∀ j, j < e1.size → B e j = B e1 j
theorem seqGo_all (s : ByteArray) (i : Nat) : ∀ n k lo hi r, i + k + n ≤ s.size → (n = 0 ∨ (lo ≤ B s (i + k) ∧ B s (i + k) ≤ hi)) → (∀ j, k < j → j < k + n → 128 ≤ B s (i + j) ∧ B s (i + j) ≤ 191) → (seqGo s i n k lo hi r).2 = (i + k + n, true) := by
  intro n
  induction n with
  | zero => intro k lo hi r _ _ _; rfl
  | succ n ih =>
    intro k lo hi r h1 h2 h3
    have h2' : lo ≤ B s (i + k) ∧ B s (i + k) ≤ hi := by
      rcases h2 with h | h
      · omega
      · exact h
    rw [seqGo, if_pos ⟨by omega, h2'⟩, ih (k + 1) 128 191 _ (by omega) ?_ (fun j a b => h3 j (by omega) (by omega))]
    · rw [show i + (k + 1) + n = i + k + (n + 1) by omega]
    · by_cases c : n = 0
      · exact Or.inl c
      · exact Or.inr (h3 (k + 1) (by omega) (by omega))
theorem seqGo_mend {s : ByteArray} {i q : Nat} : ∀ n k lo hi r, n ≤ 3 → ((lo ≤ 128 ∧ 128 ≤ hi) ∨ (lo ≤ 191 ∧ 191 ≤ hi)) → i + k ≤ q → seqGo s i n k lo hi r = (0, q, false) →
    ∃ e1 ∈ seqEnds, ∀ s' e, Cut s s' e q → Starts e e1 → ∀ r', (seqGo s' i n k lo hi r').2 = (q + e1.size, true) := by
  intro n
  induction n with
  | zero => intro k lo hi r _ _ _ h; simp [seqGo] at h
  | succ n ih =>
    intro k lo hi r hn hlo hk h
    rw [seqGo] at h
    by_cases c : i + k < s.size ∧ lo ≤ B s (i + k) ∧ B s (i + k) ≤ hi
    · rw [if_pos c] at h
      have hge := seqGo_ge s i n (k + 1) 128 191 (r * 64 + B s (i + k) % 64)
      rw [h] at hge
      obtain ⟨e1, m, a⟩ := ih (k + 1) 128 191 _ (by omega) (Or.inl ⟨by omega, by omega⟩) hge h
      refine ⟨e1, m, fun s' e hc hs r' => ?_⟩
      simp only at hge
      have hb := hc.b (i + k) (by omega)
      have hz := hc.sz
      rw [seqGo, hb, if_pos ⟨by omega, c.2⟩]
      exact a s' e hc hs _
    · rw [if_neg c] at h
      simp only [Prod.mk.injEq, and_true, true_and] at h
      subst h
      have go : ∀ e1 : ByteArray, e1.size = n + 1 → lo ≤ B e1 0 → B e1 0 ≤ hi → (∀ j, 0 < j → j < n + 1 → B e1 j = 128) → ∀ s' e, Cut s s' e (i + k) → Starts e e1 → ∀ r', (seqGo s' i (n + 1) k lo hi r').2 = (i + k + e1.size, true) := by
        intro e1 z b0 b1 hj s' e hc hs r'
        have t0 := hc.t 0
        rw [Nat.add_zero, hs.2 0 (by omega)] at t0
        have hz := hc.sz
        have hs1 := hs.1
        rw [seqGo_all s' i (n + 1) k lo hi r' (by omega) (Or.inr (by rw [t0]; exact ⟨b0, b1⟩)) (fun j a b => ?_), z]
        have t := hc.t (j - k)
        rw [show i + k + (j - k) = i + j by omega, hs.2 _ (by omega), hj _ (by omega) (by omega)] at t
        omega
      have dj1 : ∀ e1 : ByteArray, ∀ j, 0 < j → j < 0 + 1 → B e1 j = 128 := fun e1 j a b => by omega
      rcases (by omega : n = 0 ∨ n = 1 ∨ n = 2) with rfl | rfl | rfl
      · rcases hlo with ⟨a, b⟩ | ⟨a, b⟩
        · exact ⟨⟨#[128]⟩, by simp [seqEnds], go _ rfl a b (dj1 _)⟩
        · exact ⟨⟨#[191]⟩, by simp [seqEnds], go _ rfl a b (dj1 _)⟩
      · rcases hlo with ⟨a, b⟩ | ⟨a, b⟩
        · exact ⟨⟨#[128, 128]⟩, by simp [seqEnds], go _ rfl a b (fun j x y => by obtain rfl : j = 1 := (by omega); rfl)⟩
        · exact ⟨⟨#[191, 128]⟩, by simp [seqEnds], go _ rfl a b (fun j x y => by obtain rfl : j = 1 := (by omega); rfl)⟩
      · rcases hlo with ⟨a, b⟩ | ⟨a, b⟩
        · exact ⟨⟨#[128, 128, 128]⟩, by simp [seqEnds], go _ rfl a b (fun j x y => by rcases (by omega : j = 1 ∨ j = 2) with rfl | rfl <;> rfl)⟩
        · exact ⟨⟨#[191, 128, 128]⟩, by simp [seqEnds], go _ rfl a b (fun j x y => by rcases (by omega : j = 1 ∨ j = 2) with rfl | rfl <;> rfl)⟩
theorem need_few {c n lo hi : Nat} (h : needN c = some (n, lo, hi)) : n ≤ 3 ∧ (128 ≤ c → ((lo ≤ 128 ∧ 128 ≤ hi) ∨ (lo ≤ 191 ∧ 191 ≤ hi))) := by
  unfold needN at h
  repeat' split at h
  all_goals (first | cases h | skip)
  all_goals (refine ⟨by omega, fun _ => by omega⟩)
/-- A sequence that goes wrong behind its first byte: cut ahead of the wrong one it can go on. -/
theorem seq_mend {s : ByteArray} {i q : Nat} (hi : i < s.size) (hg : goodAt s i = false) (hq : wrongAt s i = q) (hiq : i < q) :
    ∃ e1 ∈ seqEnds, ∀ s' e, Cut s s' e q → Starts e e1 → goodAt s' i = true ∧ i + (Utf8.decode s' i).2 = q + e1.size ∧ 128 ≤ B s' i := by
  have h128 : 128 ≤ B s i := by
    by_cases c : B s i < 128
    · rw [good_ascii c] at hg; cases hg
    · omega
  have e := seqT_eq hi
  rw [hg, if_neg (by decide), hq] at e
  cases hn : needN (B s i) with
  | none => rw [seqT_none hi hn] at e; simp at e; omega
  | some x =>
    obtain ⟨n, lo, hh⟩ := x
    rw [seqT_some hi hn] at e
    obtain ⟨n3, hlo⟩ := need_few hn
    obtain ⟨e1, m, a⟩ := seqGo_mend n 1 lo hh _ n3 (hlo h128) (by omega) e
    refine ⟨e1, m, fun s' e' hc hs => ?_⟩
    have hb := hc.b i hiq
    have hz := hc.sz
    have hi' : i < s'.size := by omega
    have e2 := seqT_eq hi'
    have a2 := a s' e' hc hs (maskN n (B s' i))
    rw [seqT_some hi' (by rw [hb]; exact hn)] at e2
    rw [e2] at a2
    cases hg' : goodAt s' i with
    | false => rw [hg', if_neg (by decide)] at a2; simp at a2
    | true =>
      rw [hg', if_pos rfl] at a2
      simp only [Prod.mk.injEq, and_true] at a2
      exact ⟨rfl, a2, by rw [hb]; exact h128⟩
theorem dec_large {s : ByteArray} {i : Nat} (hg : goodAt s i = true) (h : 128 ≤ B s i) : 128 ≤ (Utf8.decode s i).1 := by
  rcases hc_of s i with ⟨a, b⟩ | ⟨a, b, c⟩ | ⟨a, b, c⟩ | ⟨a, b, c⟩ | ⟨a, b, c, d, e⟩
  · omega
  · have q := lead2 b; rw [c]; simp only []; omega
  · have q := lead3 b; rw [c]; simp only []; omega
  · have q := lead4 b; rw [c]; simp only []; omega
  · rw [e]; simp
theorem starts_self (e : ByteArray) : Starts e e := ⟨Nat.le_refl _, fun _ _ => rfl⟩
theorem seq_ends : ∀ e ∈ seqEnds, e ∈ endsL := by
  intro e h
  simp only [seqEnds, List.mem_cons, List.not_mem_nil, or_false] at h
  rcases h with rfl | rfl | rfl | rfl | rfl | rfl <;> simp [endsL]
/-- The same behind a quote's end. -/
theorem seq_ends39 : ∀ e1 ∈ seqEnds, ∃ e ∈ endsL, Starts e e1 ∧ e.size = e1.size + 1 ∧ B e e1.size = 39 := by
  intro e h
  simp only [seqEnds, List.mem_cons, List.not_mem_nil, or_false] at h
  rcases h with rfl | rfl | rfl | rfl | rfl | rfl
  · exact ⟨⟨#[128, 39]⟩, by simp [endsL], ⟨by decide, by decide⟩, rfl, rfl⟩
  · exact ⟨⟨#[128, 128, 39]⟩, by simp [endsL], ⟨by decide, by decide⟩, rfl, rfl⟩
  · exact ⟨⟨#[128, 128, 128, 39]⟩, by simp [endsL], ⟨by decide, by decide⟩, rfl, rfl⟩
  · exact ⟨⟨#[191, 39]⟩, by simp [endsL], ⟨by decide, by decide⟩, rfl, rfl⟩
  · exact ⟨⟨#[191, 128, 39]⟩, by simp [endsL], ⟨by decide, by decide⟩, rfl, rfl⟩
  · exact ⟨⟨#[191, 128, 128, 39]⟩, by simp [endsL], ⟨by decide, by decide⟩, rfl, rfl⟩
theorem ends_nil : (⟨#[]⟩ : ByteArray) ∈ endsL := by simp [endsL]

theorem remark_mend {s : ByteArray} {q : Nat} : ∀ f i, s.size ≤ i + f → i ≤ s.size → remarkGo s f i = (q, false) → ∃ e ∈ endsL, ∀ s', Cut s s' e q → ∀ f', s'.size ≤ i + f' → remarkGo s' f' i = (s'.size, true) := by
  intro f
  induction f with
  | zero => intro i _ _ h; simp [remarkGo] at h
  | succ f ih =>
    intro i h1 h2 h3
    rw [remarkGo] at h3
    by_cases c : i < s.size ∧ ¬ B s i = 10
    · rw [if_pos c] at h3
      cases hg : goodAt s i with
      | true =>
        rw [hg, if_pos rfl] at h3
        have hfit := dec_fits c.1
        have hw := dec_width s i
        obtain ⟨e, m, a⟩ := ih _ (by omega) hfit h3
        have hge := (remarkGo_le s f (i + (Utf8.decode s i).2) hfit).2
        rw [h3] at hge
        simp only at hge
        refine ⟨e, m, fun s' hc f' hf => ?_⟩
        have hz := hc.sz
        obtain ⟨g1, g2⟩ := good_agree (cut_agree hc (by omega)) (p := i) (by omega) hg (by omega)
        obtain ⟨g, rfl⟩ : ∃ g, f' = g + 1 := ⟨f' - 1, by omega⟩
        rw [remarkGo, hc.b i (by omega), if_pos ⟨by omega, c.2⟩, g1, if_pos rfl, g2]
        exact a s' hc g (by omega)
      | false =>
        rw [hg, if_neg (by decide)] at h3
        simp only [Prod.mk.injEq, and_true] at h3
        have hw := (wrongAt_le c.1).2
        by_cases d : i = q
        · refine ⟨⟨#[]⟩, ends_nil, fun s' hc f' hf => ?_⟩
          have hz : s'.size = q + 0 := hc.sz
          cases f' with
          | zero => rw [remarkGo]; rw [show i = s'.size by omega]
          | succ g => rw [remarkGo, if_neg (fun x => by omega)]; rw [show i = s'.size by omega]
        · obtain ⟨e1, m, a⟩ := seq_mend c.1 hg h3 (by omega)
          refine ⟨e1, seq_ends e1 m, fun s' hc f' hf => ?_⟩
          obtain ⟨g1, g2, g3⟩ := a s' e1 hc (starts_self e1)
          have hz := hc.sz
          obtain ⟨g, rfl⟩ : ∃ g, f' = g + 1 := ⟨f' - 1, by omega⟩
          rw [remarkGo, hc.b i (by omega), if_pos ⟨by omega, c.2⟩, g1, if_pos rfl, g2, ← hz]
          cases g with
          | zero => rfl
          | succ g => rw [remarkGo, if_neg (fun x => by omega)]
    · rw [if_neg c] at h3; cases h3

theorem quote_make {s : ByteArray} {p w : Nat} (hz : s.size = p + 1 + w + 1) (hg : goodAt s (p + 1) = true) (hw : (Utf8.decode s (p + 1)).2 = w)
    (hn : ¬ ((Utf8.decode s (p + 1)).1 < 32 ∨ (Utf8.decode s (p + 1)).1 = 39 ∨ (Utf8.decode s (p + 1)).1 = 127)) (h39 : B s (p + 1 + w) = 39) : (quotedN s p).2 = (s.size, true) := by
  unfold quotedN
  rw [if_neg (by omega), hg, if_neg (by decide), if_neg hn, hw, if_pos h39, hz]
theorem quoted_mend {s : ByteArray} {p q : Nat} (hp : p < s.size) (hq : (quotedN s p).2.1 = q) : ∃ e ∈ endsL, ∀ s', Cut s s' e q → (quotedN s' p).2 = (s'.size, true) := by
  have here : q = p + 1 → ∃ e ∈ endsL, ∀ s', Cut s s' e q → (quotedN s' p).2 = (s'.size, true) := by
    rintro rfl
    refine ⟨⟨#[97, 39]⟩, by simp [endsL], fun s' hc => ?_⟩
    have hz : s'.size = p + 1 + 2 := hc.sz
    have t0 : B s' (p + 1) = 97 := hc.t 0
    have t1 : B s' (p + 1 + 1) = 39 := hc.t 1
    have hd := dec_ascii (s := s') (i := p + 1) (by omega)
    rw [t0] at hd
    exact quote_make (w := 1) hz (good_ascii (by omega)) (by rw [hd]) (by rw [hd]; simp) t1
  unfold quotedN at hq
  by_cases c1 : s.size ≤ p + 1
  · rw [if_pos c1] at hq; exact here hq.symm
  rw [if_neg c1] at hq
  cases hg : goodAt s (p + 1) with
  | false =>
    rw [hg, if_pos rfl] at hq
    simp only at hq
    have hw := (wrongAt_le (s := s) (p := p + 1) (by omega)).2
    by_cases d : q = p + 1
    · exact here d
    · obtain ⟨e1, m, a⟩ := seq_mend (by omega) hg hq (by omega)
      obtain ⟨e, m2, hs, hez, h39⟩ := seq_ends39 e1 m
      refine ⟨e, m2, fun s' hc => ?_⟩
      obtain ⟨g1, g2, g3⟩ := a s' e hc hs
      have hz := hc.sz
      have t := hc.t e1.size
      rw [h39] at t
      have hl := dec_large g1 g3
      exact quote_make (w := (Utf8.decode s' (p + 1)).2) (by omega) g1 rfl (by omega) (by rw [g2]; exact t)
  | true =>
    rw [hg, if_neg (by decide)] at hq
    by_cases c2 : (Utf8.decode s (p + 1)).1 < 32 ∨ (Utf8.decode s (p + 1)).1 = 39 ∨ (Utf8.decode s (p + 1)).1 = 127
    · rw [if_pos c2] at hq; exact here hq.symm
    rw [if_neg c2] at hq
    by_cases c3 : B s (p + 1 + (Utf8.decode s (p + 1)).2) = 39
    · rw [if_pos c3] at hq
      simp only at hq
      refine ⟨⟨#[]⟩, ends_nil, fun s' hc => ?_⟩
      have hz : s'.size = q + 0 := hc.sz
      obtain ⟨g1, g2⟩ := good_agree (cut_agree hc (by omega)) (p := p + 1) (by omega) hg (by omega)
      exact quote_make (w := (Utf8.decode s (p + 1)).2) (by omega) g1 (by rw [g2]) (by rw [g2]; exact c2) (by rw [hc.b _ (by omega)]; exact c3)
    · rw [if_neg c3] at hq
      simp only at hq
      have hw := dec_width s (p + 1)
      refine ⟨⟨#[39]⟩, by simp [endsL], fun s' hc => ?_⟩
      have hz : s'.size = q + 1 := hc.sz
      have t : B s' (q + 0) = 39 := hc.t 0
      obtain ⟨g1, g2⟩ := good_agree (cut_agree hc (by omega)) (p := p + 1) (by omega) hg (by omega)
      exact quote_make (w := (Utf8.decode s (p + 1)).2) (by omega) g1 (by rw [g2]) (by rw [g2]; exact c2) (by rw [hq]; exact t)

/-- A word that ends, or goes wrong, at q, behind its first byte: cut there it can go on. -/
theorem word_mend {s : ByteArray} {p q : Nat} (hp : p < s.size) (hq : (wordN s p).2.1 = q) (hpq : p < q) : ∃ e ∈ endsL, ∀ s', Cut s s' e q → (wordN s' p).2 = (s'.size, true) := by
  by_cases c1 : smallB (B s p) = true
  · refine ⟨⟨#[]⟩, ends_nil, fun s' hc => ?_⟩
    have hz : s'.size = q + 0 := hc.sz
    have h0 : B s' q = 0 := B_out (by omega)
    rw [word_name c1] at hq
    have he : (nameN s p).1 = q := by split at hq <;> exact hq
    have hn : nameN s' p = (q, true) := name_cut hc (by rw [h0]; decide) _ _ _ (by omega) (by omega) he
    rw [word_name (by rw [hc.b p hpq]; exact c1), hn, if_pos rfl, apartN, h0, hz]
    rfl
  by_cases c2 : digitB (B s p) = true
  · refine ⟨⟨#[]⟩, ends_nil, fun s' hc => ?_⟩
    have hz : s'.size = q + 0 := hc.sz
    have h0 : B s' q = 0 := B_out (by omega)
    rw [word_number c2] at hq
    have he : (numberN s p).2.1 = q := by split at hq <;> exact hq
    obtain ⟨m, hn⟩ : ∃ m, numberN s' p = (m, q, true) := number_cut hc (by rw [h0]; decide) _ _ _ _ (by omega) (by omega) he
    rw [word_number (by rw [hc.b p hpq]; exact c2), hn, if_pos rfl, apartN, h0, hz]
    rfl
  by_cases c3 : B s p = 85
  · rw [word_point c3] at hq
    have he : (pointN s p).2.1 = q := by split at hq <;> exact hq
    have key : ∃ e ∈ endsL, ∀ s', Cut s s' e q → (pointN s' p).2 = (s'.size, true) := by
      by_cases h43 : B s (p + 1) = 43
      · have hin : p + 1 < s.size := by
          by_cases d : p + 1 < s.size
          · exact d
          · rw [B_out (by omega)] at h43; omega
        unfold pointN at he
        rw [if_pos h43] at he
        exact point_mend h43 he (by omega)
      · unfold pointN at he
        rw [if_neg h43] at he
        simp only at he
        subst he
        refine ⟨⟨#[43, 48, 48, 52, 49]⟩, by simp [endsL], fun s' hc => ?_⟩
        have hz : s'.size = p + 1 + 5 := hc.sz
        have t0 : B s' (p + 1) = 43 := hc.t 0
        have t1 : B s' (p + 2) = 48 := hc.t 1
        have t2 : B s' (p + 3) = 48 := hc.t 2
        have t3 : B s' (p + 4) = 52 := hc.t 3
        have t4 : B s' (p + 5) = 49 := hc.t 4
        refine point_make (n := 4) (by omega) t0 (by omega) (fun j a b => ?_) (Or.inl (by omega)) (by rw [v4, t1, t2, t3, t4]; decide)
        rcases (by omega : j = p + 2 ∨ j = p + 3 ∨ j = p + 4 ∨ j = p + 5) with rfl | rfl | rfl | rfl
        · rw [t1]; decide
        · rw [t2]; decide
        · rw [t3]; decide
        · rw [t4]; decide
    obtain ⟨e, m, a⟩ := key
    refine ⟨e, m, fun s' hc => ?_⟩
    have ha := a s' hc
    rw [word_point (by rw [hc.b p hpq]; exact c3), show (pointN s' p).2.2 = true by rw [ha], if_pos rfl, show (pointN s' p).2.1 = s'.size by rw [ha], apartN, B_out (Nat.le_refl _)]
    rfl
  by_cases c4 : B s p = 39
  · rw [word_quoted c4] at hq
    obtain ⟨e, m, a⟩ := quoted_mend hp hq
    refine ⟨e, m, fun s' hc => ?_⟩
    rw [word_quoted (by rw [hc.b p hpq]; exact c4)]
    exact a s' hc
  by_cases c5 : B s p = 46
  · rw [word_dots c5] at hq
    by_cases h46 : B s (p + 1) = 46
    · rw [if_pos h46] at hq
      simp only at hq
      subst hq
      refine ⟨⟨#[]⟩, ends_nil, fun s' hc => ?_⟩
      have hz : s'.size = p + 2 + 0 := hc.sz
      have b1 := hc.b (p + 1) (by omega)
      rw [word_dots (by rw [hc.b p hpq]; exact c5), b1, h46, if_pos rfl, hz]
      rfl
    · rw [if_neg h46] at hq
      simp only at hq
      subst hq
      refine ⟨⟨#[46]⟩, by simp [endsL], fun s' hc => ?_⟩
      have hz : s'.size = p + 1 + 1 := hc.sz
      have t0 : B s' (p + 1) = 46 := hc.t 0
      rw [word_dots (by rw [hc.b p hpq]; exact c5), t0, if_pos rfl, hz]
      rfl
  by_cases c6 : signN (B s p) = 0
  · rw [word_none c1 c2 c3 c4 c5 c6] at hq
    simp only at hq
    omega
  · rw [word_sign c6] at hq
    simp only at hq
    subst hq
    refine ⟨⟨#[]⟩, ends_nil, fun s' hc => ?_⟩
    have hz : s'.size = p + 1 + 0 := hc.sz
    rw [word_sign (by rw [hc.b p hpq]; exact c6), hz]

theorem lex_mend {s : ByteArray} {q : Nat} : ∀ f p l, s.size - p ≤ f → p ≤ s.size → (lexGo s f p l).2 = some q → ∃ e ∈ endsL, ∀ s', Cut s s' e q → ∀ f' l', s'.size - p ≤ f' → (lexGo s' f' p l').2 = none := by
  intro f
  induction f with
  | zero => intro p l _ _ e; cases e
  | succ f ih =>
    intro p l hf hps e
    obtain ⟨hpq, hqs⟩ := lexGo_le s (f + 1) p l q hps e
    by_cases hpe : p = q
    · refine ⟨⟨#[]⟩, ends_nil, fun s' hc f' l' hf' => ?_⟩
      have hz : s'.size = q + 0 := hc.sz
      rw [lex_end _ _ _ _ (by omega)]
    have hp : p < s.size := by omega
    by_cases c1 : blankB (B s p) = true
    · rw [lex_blank hp c1] at e
      obtain ⟨e1, m, a⟩ := ih _ _ (by omega) (by omega) e
      refine ⟨e1, m, fun s' hc f' l' hf' => ?_⟩
      have hz := hc.sz
      obtain ⟨g, rfl⟩ : ∃ g, f' = g + 1 := ⟨f' - 1, by omega⟩
      rw [lex_blank (by omega) (by rw [hc.b p (by omega)]; exact c1)]
      exact a s' hc g l' (by omega)
    by_cases c2 : B s p = 35
    · rw [lex_remark hp c2] at e
      have hr : (remarkN s p).1 ≤ s.size := (remarkGo_le s (s.size - p) p hps).1
      cases hok : (remarkN s p).2 with
      | true =>
        rw [hok, if_pos rfl] at e
        have hgt := (remarkN_spec hp c2 hok).1
        have hle := (lexGo_le s f _ l q hr e).1
        by_cases hne : (remarkN s p).1 = q
        · rw [hne] at e
          refine ⟨⟨#[]⟩, ends_nil, fun s' hc f' l' hf' => ?_⟩
          exfalso
          -- a remark ends ahead of a line's end, or with the text
          have hend : ∀ f i, s.size ≤ i + f → (remarkGo s f i).2 = true → ¬ ((remarkGo s f i).1 < s.size ∧ ¬ B s (remarkGo s f i).1 = 10) := by
            intro f
            induction f with
            | zero => intro i a _ b; simp only [remarkGo] at b; omega
            | succ f ih2 =>
              intro i a b
              rw [remarkGo] at b ⊢
              have hw := dec_width s i
              by_cases d : i < s.size ∧ ¬ B s i = 10
              · rw [if_pos d] at b ⊢
                cases hg : goodAt s i with
                | true => rw [hg, if_pos rfl] at b; rw [if_pos rfl]; exact ih2 _ (by omega) b
                | false => rw [hg, if_neg (by decide)] at b; cases b
              · rw [if_neg d]; exact d
          have h2 := hend (s.size - p) p (by omega) hok
          change ¬ ((remarkN s p).1 < s.size ∧ ¬ B s (remarkN s p).1 = 10) at h2
          rw [hne] at h2
          by_cases hqz : q < s.size
          · have h10 : B s q = 10 := by
              by_cases x : B s q = 10
              · exact x
              · exact absurd ⟨hqz, x⟩ h2
            cases f with
            | zero => cases e
            | succ f =>
              rw [lex_blank hqz (by rw [h10]; decide)] at e
              have := (lexGo_le s f _ l q (by omega) e).1
              omega
          · rw [lex_end _ _ _ _ (by omega)] at e
            cases e
        · obtain ⟨e1, m, a⟩ := ih _ _ (by omega) hr e
          refine ⟨e1, m, fun s' hc f' l' hf' => ?_⟩
          have hz := hc.sz
          have hag := cut_agree hc (by omega)
          obtain ⟨g, rfl⟩ : ∃ g, f' = g + 1 := ⟨f' - 1, by omega⟩
          have er : remarkN s' p = remarkN s p := remark_agree hag _ _ _ (by omega) (by omega) hps (show (remarkN s p).1 ≤ q - 1 by omega)
          rw [lex_remark (by omega) (by rw [hc.b p (by omega)]; exact c2), er, hok, if_pos rfl]
          exact a s' hc g l' (by omega)
      | false =>
        rw [hok, if_neg (by decide)] at e
        simp only [Option.some.injEq] at e
        have hr2 : remarkGo s (s.size - p) p = (q, false) := Prod.ext e hok
        obtain ⟨e1, m, a⟩ := remark_mend _ _ (by omega) hps hr2
        refine ⟨e1, m, fun s' hc f' l' hf' => ?_⟩
        have hz := hc.sz
        obtain ⟨g, rfl⟩ : ∃ g, f' = g + 1 := ⟨f' - 1, by omega⟩
        have hr3 : remarkN s' p = (s'.size, true) := a s' hc _ (by omega)
        rw [lex_remark (by omega) (by rw [hc.b p (by omega)]; exact c2), hr3, if_pos rfl, lex_end _ _ _ _ (Nat.le_refl _)]
    have n1 : ¬ (B s p = 32 ∨ B s p = 9 ∨ B s p = 10 ∨ B s p = 13) := fun x => c1 ((blankB_iff _).2 x)
    rw [lex_word hp n1 c2] at e
    have hw := wordN_le hp
    have mend : p < (wordN s p).2.1 → (wordN s p).2.1 = q → ∃ e ∈ endsL, ∀ s', Cut s s' e q → ∀ f' l', s'.size - p ≤ f' → (lexGo s' f' p l').2 = none := fun hlt he => by
      obtain ⟨e1, m, a⟩ := word_mend hp he (by omega)
      refine ⟨e1, m, fun s' hc f' l' hf' => ?_⟩
      have hz := hc.sz
      have hb := hc.b p (by omega)
      have ha := a s' hc
      obtain ⟨g, rfl⟩ : ∃ g, f' = g + 1 := ⟨f' - 1, by omega⟩
      rw [lex_word (by omega) (by rw [hb]; exact n1) (by rw [hb]; exact c2), show (wordN s' p).2.2 = true by rw [ha], if_pos rfl, show (wordN s' p).2.1 = s'.size by rw [ha], lex_end _ _ _ _ (Nat.le_refl _)]
    cases hok : (wordN s p).2.2 with
    | false =>
      rw [hok, if_neg (by decide)] at e
      simp only [Option.some.injEq] at e
      exact mend (by omega) e
    | true =>
      rw [hok, if_pos rfl] at e
      have hgt := hw.2.2 hok
      have hle := (lexGo_le s f _ _ q hw.1 e).1
      by_cases hne : (wordN s p).2.1 = q
      · exact mend hgt hne
      · obtain ⟨e1, m, a⟩ := ih _ _ (by omega) hw.1 e
        refine ⟨e1, m, fun s' hc f' l' hf' => ?_⟩
        have hz := hc.sz
        have hb := hc.b p (by omega)
        have hag := cut_agree hc (by omega)
        obtain ⟨g, rfl⟩ : ∃ g, f' = g + 1 := ⟨f' - 1, by omega⟩
        rw [lex_word (by omega) (by rw [hb]; exact n1) (by rw [hb]; exact c2), word_agree hag (by omega) (by omega), hok, if_pos rfl]
        exact a s' hc g _ (by omega)
/-- What stands ahead of the first wrong byte can go on. -/
theorem cut_goes {s : ByteArray} {q : Nat} (hs : s.size ≤ 200000) (e : (lexN s).2 = some q) : ∃ x ∈ endsL, errN (s.extract 0 q ++ x) = 0 := by
  obtain ⟨x, m, a⟩ := lex_mend s.size 0 [] (by omega) (Nat.zero_le _) e
  have hle := (lexGo_le s s.size 0 [] q (Nat.zero_le _) e).2
  refine ⟨x, m, ?_⟩
  have hc := cut_of hle x
  have hz := hc.sz
  have hx : x.size ≤ 5 := by
    have h : ∀ e ∈ endsL, e.size ≤ 5 := by decide
    exact h x m
  have hn := a _ hc _ [] (Nat.le_refl _)
  cases hl : lexN (s.extract 0 q ++ x) with
  | mk l o =>
    have : (lexN (s.extract 0 q ++ x)).2 = none := hn
    rw [hl] at this
    simp only at this
    subst this
    exact (good_spec (by omega) hl).1
end Go.Proofs.YtpdaciljdcfikaaDoor
