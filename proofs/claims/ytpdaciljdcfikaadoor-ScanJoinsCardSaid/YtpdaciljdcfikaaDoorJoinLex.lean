/- Plain: texts behind one another, fillers between words, lines and columns. -/
import Derived.Test.YtpdaciljdcfikaaDoorMove
namespace Go.Proofs.YtpdaciljdcfikaaDoor
open Go
set_option linter.unusedVariables false
set_option linter.unusedSimpArgs false

/-! What holds of the words of a text. -/
structure WdOk (s : ByteArray) (w : Wd) : Prop where
  word : wordN s w.fr = (w, w.en, true)
  lt : w.fr < w.en
  le : w.en ≤ s.size
  seg : Seg s 0 w.fr
  n1 : ¬ (B s w.fr = 32 ∨ B s w.fr = 9 ∨ B s w.fr = 10 ∨ B s w.fr = 13)
  n2 : ¬ B s w.fr = 35
theorem word_seg {s : ByteArray} {p : Nat} (hp : p < s.size) (hok : (wordN s p).2.2 = true) : Seg s p (wordN s p).2.1 := by
  have hle := wordN_le hp
  have hgt := hle.2.2 hok
  by_cases c4 : B s p = 39
  · rw [word_quoted c4] at hok ⊢
    exact (quotedN_spec hp c4 hok).2.2
  have one : B s p < 128 → (wordN s p).2.1 = p + 1 → Seg s p (wordN s p).2.1 := fun h e => by rw [e]; exact seg_one hp h (Seg.nil _)
  by_cases c1 : smallB (B s p) = true
  · have h := nameN_spec hp c1
    have e : (wordN s p).2.1 = (nameN s p).1 := by rw [word_name c1]; split <;> rfl
    rw [e]
    exact ascii_seg _ _ _ rfl (by omega) h.2.1 fun j a b => by have := (nameB_iff _).1 (h.2.2 j a b); omega
  by_cases c2 : digitB (B s p) = true
  · have h := numberN_spec hp c2
    have e : (wordN s p).2.1 = (numberN s p).2.1 := by rw [word_number c2]; split <;> rfl
    rw [e]
    exact ascii_seg _ _ _ rfl (by omega) h.2.1 fun j a b => by have := (digitB_iff _).1 (h.2.2 j a b); omega
  by_cases c3 : B s p = 85
  · have h := pointN_spec hp c3
    have e : (wordN s p).2.1 = (pointN s p).2.1 := by rw [word_point c3]; split <;> rfl
    rw [e]
    exact ascii_seg _ _ _ rfl (by omega) h.2.1 h.2.2
  by_cases c5 : B s p = 46
  · rw [word_dots c5] at hok ⊢
    simp only [beq_iff_eq] at hok
    rw [word_dots c5] at hle
    simp only [] at hle
    rw [if_pos hok] at hle
    show Seg s p (if B s (p + 1) = 46 then p + 2 else p + 1)
    rw [if_pos hok]
    exact seg_one hp (by omega) (seg_one (by omega) (by omega) (Seg.nil _))
  by_cases c6 : signN (B s p) = 0
  · rw [word_none c1 c2 c3 c4 c5 c6] at hok; cases hok
  · refine one ?_ (by rw [word_sign c6])
    unfold signN at c6
    repeat' split at c6
    all_goals first | omega | exact absurd rfl c6
theorem word_self {s : ByteArray} {p : Nat} (hp : p < s.size) (hok : (wordN s p).2.2 = true) : (wordN s p).1.fr = p ∧ (wordN s p).1.en = (wordN s p).2.1 := by
  have hle := wordN_le hp
  have hgt := hle.2.2 hok
  have := (word_move (s := s) (s' := s) (p := p) (p' := p) (n := (wordN s p).2.1 - p) (w := (wordN s p).1) ⟨by omega, by omega, fun _ _ => rfl⟩ (by omega) (Prod.ext rfl (Prod.ext (by simp only; omega) hok)) (Or.inr rfl)).2
  exact ⟨this.1, by rw [this.2]; omega⟩
/-- The words of a text come one behind the other. -/
def Chain : Nat → List Wd → Prop
  | _, [] => True
  | e, w :: l => e ≤ w.fr ∧ Chain w.en l
theorem lexGo_ok (s : ByteArray) : ∀ f p l, s.size - p ≤ f → p ≤ s.size → Seg s 0 p → (lexGo s f p l).2 = none → ∃ ws, (lexGo s f p l).1 = l ++ ws ∧ (∀ w ∈ ws, WdOk s w) ∧ Chain p ws ∧ Seg s 0 s.size := by
  intro f
  induction f with
  | zero =>
    intro p l h1 h2 h3 _
    obtain rfl : p = s.size := by omega
    exact ⟨[], by simp [lexGo], by simp, trivial, h3⟩
  | succ f ih =>
    intro p l h1 h2 h3 h4
    by_cases hp : p < s.size
    · by_cases c1 : blankB (B s p) = true
      · rw [lex_blank hp c1] at h4 ⊢
        obtain ⟨ws, a, b, c, d⟩ := ih _ _ (by omega) (by omega) (h3.trans (seg_one hp (by have := (blankB_iff _).1 c1; omega) (Seg.nil _))) h4
        refine ⟨ws, a, b, ?_, d⟩
        cases ws with
        | nil => trivial
        | cons w t => exact ⟨by have := c.1; omega, c.2⟩
      by_cases c2 : B s p = 35
      · rw [lex_remark hp c2] at h4 ⊢
        cases hok : (remarkN s p).2 with
        | false => rw [hok, if_neg (by decide)] at h4; cases h4
        | true =>
          rw [hok, if_pos rfl] at h4
          rw [if_pos rfl]
          have hr := remarkN_spec hp c2 hok
          obtain ⟨ws, a, b, c, d⟩ := ih _ _ (by omega) hr.2.1 (h3.trans hr.2.2) h4
          refine ⟨ws, a, b, ?_, d⟩
          cases ws with
          | nil => trivial
          | cons w t => exact ⟨by have := c.1; omega, c.2⟩
      have n1 : ¬ (B s p = 32 ∨ B s p = 9 ∨ B s p = 10 ∨ B s p = 13) := fun x => c1 ((blankB_iff _).2 x)
      rw [lex_word hp n1 c2] at h4 ⊢
      cases hok : (wordN s p).2.2 with
      | false => rw [hok, if_neg (by decide)] at h4; cases h4
      | true =>
        rw [hok, if_pos rfl] at h4
        rw [if_pos rfl]
        have hw := wordN_le hp
        have hgt := hw.2.2 hok
        have hs := word_seg hp hok
        obtain ⟨e1, e2⟩ := word_self hp hok
        obtain ⟨ws, a, b, c, d⟩ := ih _ (l ++ [(wordN s p).1]) (by omega) hw.1 (h3.trans hs) h4
        refine ⟨(wordN s p).1 :: ws, by rw [a]; simp, ?_, ⟨by omega, by rw [e2]; exact c⟩, d⟩
        intro w hm
        rcases List.mem_cons.1 hm with rfl | hm
        · exact ⟨by rw [e1, e2]; exact Prod.ext rfl (Prod.ext rfl hok), by omega, by omega, by rw [e1]; exact h3, by rw [e1]; exact n1, by rw [e1]; exact c2⟩
        · exact b w hm
    · obtain rfl : p = s.size := by omega
      rw [lex_end _ _ _ _ (Nat.le_refl _)]
      exact ⟨[], by simp, by simp, trivial, h3⟩
theorem lexN_ok {s : ByteArray} {l : List Wd} (h : lexN s = (l, none)) : (∀ w ∈ l, WdOk s w) ∧ Chain 0 l ∧ Seg s 0 s.size := by
  obtain ⟨ws, a, b, c, d⟩ := lexGo_ok s s.size 0 [] (by omega) (Nat.zero_le _) (Seg.nil _) (by show (lexN s).2 = none; rw [h])
  have e : l = ws := by
    have : (lexN s).1 = [] ++ ws := a
    rw [h] at this
    simpa using this
  subst e
  exact ⟨b, c, d⟩
theorem chain_at : ∀ (l : List Wd) (e i : Nat) (h : i + 1 < l.length), Chain e l → (l[i]'(by omega)).en ≤ l[i + 1].fr := by
  intro l
  induction l with
  | nil => intro e i h; simp at h
  | cons w t ih =>
    intro e i h hc
    cases i with
    | zero =>
      cases t with
      | nil => simp at h
      | cons w2 t2 => exact hc.2.1
    | succ i => exact ih w.en i (by simpa using h) hc.2

/-! Two texts with a line's end between them. -/
def lineB : ByteArray := ⟨#[10]⟩
def bothB (a b : ByteArray) : ByteArray := a ++ lineB ++ b
theorem both_size (a b : ByteArray) : (bothB a b).size = a.size + 1 + b.size := by
  unfold bothB; rw [ByteArray.size_append, ByteArray.size_append]; rfl
theorem app_left (a b : ByteArray) (i : Nat) (h : i < a.size) : B (a ++ b) i = B a i := by
  rw [B_at (by rw [ByteArray.size_append]; omega), B_at h, ByteArray.getElem_append_left h]
theorem app_right (a b : ByteArray) (i : Nat) : B (a ++ b) (a.size + i) = B b i := by
  by_cases c : i < b.size
  · rw [B_at (by rw [ByteArray.size_append]; omega), B_at c, ByteArray.getElem_append_right (by omega)]
    congr 2
    omega
  · rw [B_out (by rw [ByteArray.size_append]; omega), B_out (by omega)]
theorem both_a (a b : ByteArray) : Mv a (bothB a b) 0 0 a.size := ⟨by omega, by rw [both_size]; omega, fun j hj => by
  rw [Nat.zero_add]; unfold bothB; rw [app_left _ _ _ (by rw [ByteArray.size_append]; omega), app_left _ _ _ hj]⟩
theorem both_10 (a b : ByteArray) : B (bothB a b) a.size = 10 := by
  unfold bothB; rw [app_left _ _ _ (by rw [ByteArray.size_append]; show a.size < a.size + 1; omega)]
  exact app_right a lineB 0
theorem both_b (a b : ByteArray) : Mv b (bothB a b) 0 (a.size + 1) b.size := ⟨by omega, by rw [both_size]; omega, fun j hj => by
  rw [Nat.zero_add]
  have := app_right (a ++ lineB) b j
  rw [ByteArray.size_append] at this
  exact this⟩
theorem at_self {s : ByteArray} {w : Wd} (h : WdOk s w) : w.at_ (0 + w.fr) = w := by
  have := h.lt
  unfold Wd.at_
  rw [show 0 + w.fr = w.fr by omega, show w.fr + (w.en - w.fr) = w.en by omega]
theorem lex_both {a b : ByteArray} {la lb : List Wd} (ha : lexN a = (la, none)) (hb : lexN b = (lb, none)) : lexN (bothB a b) = (la ++ lb.map (fun w => w.at_ (a.size + 1 + w.fr)), none) := by
  have hz := both_size a b
  obtain ⟨f1, h1, e1⟩ := lexGo_move (both_a a b) (Or.inr (by rw [Nat.zero_add]; exact both_10 a b)) a.size 0 [] la (by omega) (Nat.zero_le _) ha (bothB a b).size [] (by omega)
  have hm : la.map (fun w => w.at_ (0 + w.fr)) = la := by
    have hk := (lexN_ok ha).1
    calc la.map (fun w => w.at_ (0 + w.fr)) = la.map id := List.map_congr_left fun w hw => at_self (hk w hw)
      _ = la := List.map_id _
  rw [hm, Nat.zero_add, Nat.zero_add, List.nil_append] at e1
  unfold lexN
  rw [e1]
  obtain ⟨g, rfl⟩ : ∃ g, f1 = g + 1 := ⟨f1 - 1, by omega⟩
  rw [lex_blank (by omega) (by rw [both_10]; decide)]
  obtain ⟨f2, h2, e2⟩ := lexGo_move (both_b a b) (Or.inl (by omega)) b.size 0 [] lb (by omega) (Nat.zero_le _) hb g la (by omega)
  rw [Nat.add_zero] at e2
  rw [e2, lex_end _ _ _ _ (by omega)]

/-! Lines and columns. -/
theorem lc_step {s : ByteArray} {t i : Nat} (l c : Nat) (h : i < t) (h2 : i + (Utf8.decode s i).2 ≤ t) : lcN s t i l c = if (Utf8.decode s i).1 = 10 then lcN s t (i + (Utf8.decode s i).2) (l + 1) 1 else lcN s t (i + (Utf8.decode s i).2) l (c + 1) := lcN_step l c h h2
theorem lc_move {b s' : ByteArray} {k : Nat} (hm : Mv b s' 0 k b.size) : ∀ {i t : Nat}, Seg b i t → t ≤ b.size → ∀ L l c, lcN s' (k + t) (k + i) (L + l) c = (L + (lcN b t i l c).1, (lcN b t i l c).2) := by
  intro i t h
  induction h with
  | nil a => intro _ L l c; rw [lcN_end _ _ _ _ _ (Nat.le_refl _), lcN_end _ _ _ _ _ (Nat.le_refl _)]
  | cons h hg t ih =>
    rename_i a b2
    intro ht L l c
    have hfit := dec_fits h
    have hle := t.le
    have hw := dec_width b a
    have hmv : Mv b s' a (k + a) (Utf8.decode b a).2 := ⟨hfit, by have := hm.le'; omega, fun j hj => by
      have := hm.b (a + j) (by omega)
      rw [Nat.zero_add] at this
      rw [Nat.add_assoc]
      exact this⟩
    obtain ⟨g1, g2⟩ := good_move hg hmv
    rw [lc_step (s := b) l c (by omega) hle, lc_step (s := s') (L + l) c (by omega) (by rw [g1]; omega), g1]
    rw [show k + a + (Utf8.decode b a).2 = k + (a + (Utf8.decode b a).2) by omega]
    split
    · rw [show L + l + 1 = L + (l + 1) by omega]; exact ih ht L (l + 1) 1
    · exact ih ht L l (c + 1)
/-- How many line's ends stand from i on. -/
def endsGo (s : ByteArray) : Nat → Nat → Nat
  | 0, _ => 0
  | f + 1, i => (if B s i = 10 then 1 else 0) + endsGo s f (i + 1)
theorem ends_none {s : ByteArray} : ∀ f i, (∀ j, i ≤ j → j < i + f → ¬ B s j = 10) → endsGo s f i = 0 := by
  intro f
  induction f with
  | zero => intro i _; rfl
  | succ f ih => intro i h; rw [endsGo, if_neg (h i (Nat.le_refl _) (by omega)), ih _ (fun j a b => h j (by omega) (by omega))]
theorem ends_add (s : ByteArray) : ∀ f g i, endsGo s (f + g) i = endsGo s f i + endsGo s g (i + f) := by
  intro f
  induction f with
  | zero => intro g i; simp [endsGo]
  | succ f ih => intro g i; rw [show f + 1 + g = f + g + 1 by omega, endsGo, endsGo, ih, show i + 1 + f = i + (f + 1) by omega]; omega
theorem lc_ends {s : ByteArray} : ∀ {i t : Nat}, Seg s i t → t ≤ s.size → ∀ l c, (lcN s t i l c).1 = l + endsGo s (t - i) i := by
  intro i t h
  induction h with
  | nil a => intro _ l c; rw [lcN_end _ _ _ _ _ (Nat.le_refl _), Nat.sub_self]; rfl
  | cons h hg t ih =>
    rename_i a b2
    intro ht l c
    have hle := t.le
    have hw := dec_width s a
    rw [lc_step l c (by omega) hle, show b2 - a = (Utf8.decode s a).2 + (b2 - (a + (Utf8.decode s a).2)) by omega, ends_add]
    rcases hc_of s a with ⟨x, y⟩ | ⟨x, y, z⟩ | ⟨x, y, z⟩ | ⟨x, y, z⟩ | ⟨x, y, z, u, v⟩
    · rw [y] at ih ⊢
      simp only at ih ⊢
      by_cases c10 : B s a = 10
      · rw [if_pos c10, ih ht]
        simp [endsGo, c10]; omega
      · rw [if_neg c10, ih ht]
        simp [endsGo, c10]
    · have q := lead2 y
      rw [z] at ih ⊢
      simp only at ih ⊢
      rw [if_neg (by omega), ih ht, ends_none 2 a (fun j p1 p2 => by rcases (by omega : j = a ∨ j = a + 1) with rfl | rfl <;> omega)]
      omega
    · have q := lead3 y
      have q2 := l3 y
      rw [z] at ih ⊢
      simp only at ih ⊢
      have n10 : ¬ B s a % 16 * 4096 + B s (a + 1) % 64 * 64 + B s (a + 2) % 64 = 10 := by rcases q.2.2 with q3 | q3 | q3 <;> omega
      rw [if_neg n10, ih ht, ends_none 3 a (fun j p1 p2 => by rcases (by omega : j = a ∨ j = a + 1 ∨ j = a + 2) with rfl | rfl | rfl <;> omega)]
      omega
    · have q := lead4 y
      have q2 := l4 y
      rw [z] at ih ⊢
      simp only at ih ⊢
      have n10 : ¬ B s a % 8 * 262144 + B s (a + 1) % 64 * 4096 + B s (a + 2) % 64 * 64 + B s (a + 3) % 64 = 10 := by rcases q.2.2.2.2 with q3 | q3 | q3 <;> omega
      rw [if_neg n10, ih ht, ends_none 4 a (fun j p1 p2 => by rcases (by omega : j = a ∨ j = a + 1 ∨ j = a + 2 ∨ j = a + 3) with rfl | rfl | rfl | rfl <;> omega)]
      omega
    · exact absurd hg (by rw [Bool.not_eq_true]; unfold goodAt; rw [v]; simp; omega)
theorem lc_both_a {a b : ByteArray} {t : Nat} (h : Seg a 0 t) (ht : t ≤ a.size) : lcN (bothB a b) t 0 1 1 = lcN a t 0 1 1 := by
  have := lc_move (both_a a b) h ht 0 1 1
  simp only [Nat.zero_add] at this
  exact this
theorem lc_both_b {a b : ByteArray} {t : Nat} (ha : Seg a 0 a.size) (h : Seg b 0 t) (ht : t ≤ b.size) : lcN (bothB a b) (a.size + 1 + t) 0 1 1 = (1 + endsGo a a.size 0 + (lcN b t 0 1 1).1, (lcN b t 0 1 1).2) := by
  have hz := both_size a b
  have hs : Seg (bothB a b) 0 a.size := by
    have go : ∀ {i t : Nat}, Seg a i t → t ≤ a.size → Seg (bothB a b) i t := by
      intro i t h
      induction h with
      | nil a => intro _; exact Seg.nil _
      | cons h hg t ih =>
        rename_i x y
        intro hy
        have hle := t.le
        have hmv : Mv a (bothB a b) x x (Utf8.decode a x).2 := ⟨dec_fits h, by have := dec_fits h; omega, fun j hj => by
          have := (both_a a b).b (x + j) (by have := dec_fits h; omega)
          rw [Nat.zero_add] at this
          exact this⟩
        obtain ⟨g1, g2⟩ := good_move hg hmv
        refine Seg.cons (by omega) g2 ?_
        rw [g1]
        exact ih hy
    exact go ha (Nat.le_refl _)
  have h10 := both_10 a b
  rw [lcN_seg (hs.trans (seg_one (by omega) (by omega) (Seg.nil _))) (a.size + 1 + t) 1 1 (by omega)]
  have e1 : lcN (bothB a b) (a.size + 1) 0 1 1 = (1 + endsGo a a.size 0 + 1, 1) := by
    rw [lcN_seg hs (a.size + 1) 1 1 (by omega), lc_both_a ha (Nat.le_refl _)]
    have hd := dec_ascii (s := bothB a b) (i := a.size) (by omega)
    rw [lc_step _ _ (by omega) (by rw [hd]; simp), hd]
    simp only [h10, if_pos]
    rw [lcN_end _ _ _ _ _ (Nat.le_refl _), lc_ends ha (Nat.le_refl _)]
    simp
  rw [e1]
  have := lc_move (both_b a b) h ht (1 + endsGo a a.size 0) 1 1
  rw [Nat.add_zero] at this
  exact this

/-! Fillers between words. -/
def fillsL : List ByteArray := [⟨#[32]⟩, ⟨#[9]⟩, ⟨#[13, 10]⟩, ⟨#[35, 195, 169, 32, 125, 32, 120, 10]⟩, ⟨#[35, 32, 10, 10]⟩, ⟨#[10]⟩]
theorem fills_size : ∀ r ∈ fillsL, 0 < r.size ∧ r.size ≤ 8 ∧ grownB (B r 0) = false := by
  intro r h
  simp only [fillsL, List.mem_cons, List.not_mem_nil, or_false] at h
  rcases h with rfl | rfl | rfl | rfl | rfl | rfl <;> exact ⟨by decide, by decide, rfl⟩
theorem bs_asc {s : ByteArray} {p i : Nat} (h : BState s p true i) (hi : i < s.size) (hb : B s i < 128) (h10 : ¬ B s i = 10) : BState s p true (i + 1) := by
  have := bs_good h hi (good_ascii hb) h10
  rw [dec_ascii hb] at this
  exact this
theorem fill_run {r : ByteArray} (hr : r ∈ fillsL) {s : ByteArray} {p : Nat} (hle : p + r.size ≤ s.size) (hb : ∀ j, j < r.size → B s (p + j) = B r j) : BState s p false (p + r.size) := by
  have h0 := bs_start s p
  simp only [fillsL, List.mem_cons, List.not_mem_nil, or_false] at hr
  rcases hr with rfl | rfl | rfl | rfl | rfl | rfl
  · have b0 : B s p = 32 := hb 0 (by decide)
    have hle : p + 1 ≤ s.size := hle
    exact bs_blank h0 (by omega) (by rw [b0]; decide)
  · have b0 : B s p = 9 := hb 0 (by decide)
    have hle : p + 1 ≤ s.size := hle
    exact bs_blank h0 (by omega) (by rw [b0]; decide)
  · have b0 : B s p = 13 := hb 0 (by decide)
    have b1 : B s (p + 1) = 10 := hb 1 (by decide)
    have hle : p + 2 ≤ s.size := hle
    exact bs_blank (bs_blank h0 (by omega) (by rw [b0]; decide)) (by omega) (by rw [b1]; decide)
  · have b0 : B s p = 35 := hb 0 (by decide)
    have b1 : B s (p + 1) = 195 := hb 1 (by decide)
    have b2 : B s (p + 2) = 169 := hb 2 (by decide)
    have b3 : B s (p + 3) = 32 := hb 3 (by decide)
    have b4 : B s (p + 4) = 125 := hb 4 (by decide)
    have b5 : B s (p + 5) = 32 := hb 5 (by decide)
    have b6 : B s (p + 6) = 120 := hb 6 (by decide)
    have b7 : B s (p + 7) = 10 := hb 7 (by decide)
    have hle : p + 8 ≤ s.size := hle
    have h1 := bs_hash h0 (by omega) b0
    have hd : Utf8.decode s (p + 1) = (233, 2) := by
      rcases hc_of s (p + 1) with ⟨a, b⟩ | ⟨a, b, c⟩ | ⟨a, b, c⟩ | ⟨a, b, c⟩ | ⟨a, b, c, d, e⟩
      · omega
      · rw [c, b1, b2]
      · have := l3 b; omega
      · have := l4 b; omega
      · exact absurd ⟨by omega, (Seq2 _ _ _ _).2 ⟨by omega, by omega, by rw [b2]; omega, by rw [b2]; omega⟩⟩ b
    have h2 := bs_good h1 (by omega) (good_iff.2 (Or.inl (by rw [hd]; decide))) (by omega)
    rw [hd] at h2
    have h3 : BState s p true (p + 3) := h2
    exact bs_nl (bs_asc (bs_asc (bs_asc (bs_asc h3 (by omega) (by omega) (by omega)) (by omega) (by rw [b4]; omega) (by rw [b4]; omega)) (by omega) (by rw [b5]; omega) (by rw [b5]; omega)) (by omega) (by rw [b6]; omega) (by rw [b6]; omega)) (by omega) b7
  · have b0 : B s p = 35 := hb 0 (by decide)
    have b1 : B s (p + 1) = 32 := hb 1 (by decide)
    have b2 : B s (p + 2) = 10 := hb 2 (by decide)
    have b3 : B s (p + 3) = 10 := hb 3 (by decide)
    have hle : p + 4 ≤ s.size := hle
    exact bs_blank (bs_nl (bs_asc (bs_hash h0 (by omega) b0) (by omega) (by omega) (by omega)) (by omega) b2) (by omega) (by rw [b3]; decide)
  · have b0 : B s p = 10 := hb 0 (by decide)
    have hle : p + 1 ≤ s.size := hle
    exact bs_blank h0 (by omega) (by rw [b0]; decide)

/-- S is read as the words ws, whatever follows that no word goes on with. -/
def Runs (S : ByteArray) (ws : List Wd) : Prop := ∀ s' : ByteArray, S.size ≤ s'.size → (∀ i, i < S.size → B s' i = B S i) → grownB (B s' S.size) = false → ∀ f', s'.size ≤ f' → ∃ f'', s'.size - S.size ≤ f'' ∧ lexGo s' f' 0 [] = lexGo s' f'' S.size ws
theorem runs_nil : Runs ⟨#[]⟩ [] := fun s' _ _ _ f' hf => ⟨f', hf, rfl⟩
theorem runs_lex {S : ByteArray} {ws : List Wd} (h : Runs S ws) : lexN S = (ws, none) := by
  obtain ⟨f, _, e⟩ := h S (Nat.le_refl _) (fun _ _ => rfl) (by rw [B_out (Nat.le_refl _)]; decide) S.size (Nat.le_refl _)
  unfold lexN
  rw [e, lex_end _ _ _ _ (Nat.le_refl _)]
theorem runs_step {S a r : ByteArray} {ws : List Wd} {w : Wd} (h : Runs S ws) (hr : r ∈ fillsL) (hw : WdOk a w) : Runs (S ++ r ++ a.extract w.fr w.en) (ws ++ [w.at_ (S.size + r.size)]) := by
  have hlt := hw.lt
  have hwle := hw.le
  have hxz : (a.extract w.fr w.en).size = w.en - w.fr := by simp; omega
  have hz : (S ++ r ++ a.extract w.fr w.en).size = S.size + r.size + (w.en - w.fr) := by rw [ByteArray.size_append, ByteArray.size_append, hxz]
  obtain ⟨r1, r2, r3⟩ := fills_size r hr
  intro s' hle hb hg f' hf'
  rw [hz] at hle hg ⊢
  have bS : ∀ i, i < S.size → B s' i = B S i := fun i hi => by
    rw [hb i (by omega), app_left _ _ _ (by rw [ByteArray.size_append]; omega), app_left _ _ _ hi]
  have bR : ∀ j, j < r.size → B s' (S.size + j) = B r j := fun j hj => by
    rw [hb _ (by omega), app_left _ _ _ (by rw [ByteArray.size_append]; omega), app_right]
  have bW : ∀ j, j < w.en - w.fr → B s' (S.size + r.size + j) = B a (w.fr + j) := fun j hj => by
    rw [hb _ (by omega)]
    have := app_right (S ++ r) (a.extract w.fr w.en) j
    rw [ByteArray.size_append] at this
    rw [this, B_extract _ _ _ _ (by omega) hwle]
  have b0 := bR 0 r1
  rw [Nat.add_zero] at b0
  obtain ⟨f1, h1, e1⟩ := h s' (by omega) bS (by rw [b0]; exact r3) f' hf'
  obtain ⟨f2, h2, e2⟩ := fill_run hr (s := s') (p := S.size) (by omega) bR f1 ws h1
  rw [if_neg (by decide)] at e2
  obtain ⟨g, rfl⟩ : ∃ g, f2 = g + 1 := ⟨f2 - 1, by omega⟩
  have hm : Mv a s' w.fr (S.size + r.size) (w.en - w.fr) := ⟨by omega, by omega, bW⟩
  have w0 := bW 0 (by omega)
  rw [Nat.add_zero, Nat.add_zero] at w0
  obtain ⟨m1, m2, m3⟩ := word_move hm (by omega) (w := w) (by rw [show w.fr + (w.en - w.fr) = w.en by omega]; exact hw.word) (Or.inl hg)
  refine ⟨g, by omega, ?_⟩
  rw [e1, e2, lex_word (by omega) (by rw [w0]; exact hw.n1) (by rw [w0]; exact hw.n2), m1, if_pos rfl]
end Go.Proofs.YtpdaciljdcfikaaDoor
