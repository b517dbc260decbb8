/- The first wrong place lies in the text or at its end; what Words answers, in plain words. -/
import Derived.Test.YtpdaciljdcfikaaDoorLexSteps
namespace Go.Proofs.YtpdaciljdcfikaaDoor
open Go
set_option linter.unusedVariables false
set_option linter.unusedSimpArgs false

theorem wrongGo_le (s : ByteArray) (p : Nat) : ∀ f k lo hi, p + k ≤ s.size → wrongGo s p f k lo hi ≤ s.size ∧ p + k ≤ wrongGo s p f k lo hi := by
  intro f
  induction f with
  | zero => intro k lo hi h; exact ⟨h, Nat.le_refl _⟩
  | succ f ih =>
    intro k lo hi h
    rw [wrongGo]
    split
    · rename_i c
      have := ih (k + 1) 128 191 (by omega)
      omega
    · exact ⟨h, Nat.le_refl _⟩
theorem wrongAt_le {s : ByteArray} {p : Nat} (hp : p < s.size) : wrongAt s p ≤ s.size ∧ p ≤ wrongAt s p := by
  unfold wrongAt
  split
  · omega
  · rename_i n lo hi _
    have := wrongGo_le s p n 1 lo hi (by omega)
    omega
theorem quotedN_le {s : ByteArray} {p : Nat} (hp : p < s.size) : (quotedN s p).2.1 ≤ s.size ∧ p ≤ (quotedN s p).2.1 := by
  unfold quotedN
  split
  · simp only []; omega
  · rename_i h
    have hw := wrongAt_le (s := s) (p := p + 1) (by omega)
    have hf := dec_fits (s := s) (i := p + 1) (by omega)
    split
    · simp only []; omega
    · split
      · simp only []; omega
      · split
        · rename_i h2
          have : p + 1 + (Utf8.decode s (p + 1)).2 < s.size := by
            by_cases c : p + 1 + (Utf8.decode s (p + 1)).2 < s.size
            · exact c
            · rw [B_out (by omega)] at h2; omega
          simp only []; omega
        · simp only []; omega
theorem remarkGo_le (s : ByteArray) : ∀ f i, i ≤ s.size → (remarkGo s f i).1 ≤ s.size ∧ i ≤ (remarkGo s f i).1 := by
  intro f
  induction f with
  | zero => intro i h; exact ⟨h, Nat.le_refl _⟩
  | succ f ih =>
    intro i h
    rw [remarkGo]
    split
    · rename_i c
      have hf := dec_fits c.1
      have hw := wrongAt_le c.1
      split
      · have := ih _ hf
        omega
      · exact hw
    · exact ⟨h, Nat.le_refl _⟩
theorem wordN_le {s : ByteArray} {p : Nat} (hp : p < s.size) : (wordN s p).2.1 ≤ s.size ∧ p ≤ (wordN s p).2.1 ∧ ((wordN s p).2.2 = true → p < (wordN s p).2.1) := by
  unfold wordN apartN
  split
  · rename_i h
    have := nameN_spec hp h
    split <;> simp only [] <;> refine ⟨by omega, by omega, fun _ => by omega⟩
  split
  · rename_i h
    have := numberN_spec hp h
    split <;> simp only [] <;> refine ⟨by omega, by omega, fun _ => by omega⟩
  split
  · rename_i h
    have := pointN_spec hp h
    split <;> simp only [] <;> refine ⟨by omega, by omega, fun _ => by omega⟩
  split
  · rename_i h
    have := quotedN_le hp
    simp only []
    exact ⟨this.1, this.2, fun hok => (quotedN_spec hp h hok).1⟩
  split
  · simp only []
    split
    · rename_i h2
      have : p + 1 < s.size := by
        by_cases c : p + 1 < s.size
        · exact c
        · rw [B_out (by omega)] at h2; omega
      refine ⟨by omega, by omega, fun _ => by omega⟩
    · refine ⟨by omega, by omega, fun _ => by omega⟩
  split
  · simp only []; refine ⟨by omega, by omega, fun e => by cases e⟩
  · simp only []; refine ⟨by omega, by omega, fun e => by omega⟩
theorem lexGo_le (s : ByteArray) : ∀ f p l q, p ≤ s.size → (lexGo s f p l).2 = some q → p ≤ q ∧ q ≤ s.size := by
  intro f
  induction f with
  | zero => intro p l q h e; cases e
  | succ f ih =>
    intro p l q h e
    rw [lexGo] at e
    split at e
    · rename_i hp
      split at e
      · have := ih _ _ q (by omega) e; omega
      · split at e
        · have hr := remarkGo_le s (s.size - p) p h
          split at e
          · have := ih _ _ q (by exact hr.1) e
            have h2 : p ≤ (remarkN s p).1 := hr.2
            omega
          · simp only [Option.some.injEq] at e
            subst e
            exact ⟨hr.2, hr.1⟩
        · have hw := wordN_le hp
          split at e
          · have := ih _ _ q hw.1 e
            omega
          · simp only [Option.some.injEq] at e
            subst e
            exact ⟨hw.2.1, hw.1⟩
    · cases e
theorem lexN_le {s : ByteArray} {l : List Wd} {q : Nat} (h : lexN s = (l, some q)) : q ≤ s.size :=
  (lexGo_le s s.size 0 [] q (Nat.zero_le _) (by rw [show lexGo s s.size 0 [] = _ from h])).2

/-- What Words answers: the number of the refusal. -/
def errN (s : ByteArray) : Nat :=
  if 262144 < s.size then 3 else match (lexN s).2 with
    | none => 0
    | some q => if q = s.size then 21 else 20
/-- .. the place: byte, line, column. -/
def atN (s : ByteArray) : Nat × Nat × Nat :=
  if 262144 < s.size then (0, 1, 1) else match (lexN s).2 with
    | none => (0, 0, 0)
    | some q => (q, (lcN s q 0 1 1).1, (lcN s q 0 1 1).2)
/-- .. the words. -/
def wdsN (s : ByteArray) : List Wd :=
  if 262144 < s.size then [] else match (lexN s).2 with
    | none => (lexN s).1
    | some q => []
theorem long_spec {s : ByteArray} (h : 262144 < s.size) : errN s = 3 ∧ atN s = (0, 1, 1) ∧ wdsN s = [] := by
  unfold errN atN wdsN
  rw [if_pos h, if_pos h, if_pos h]
  exact ⟨rfl, rfl, rfl⟩
theorem good_spec {s : ByteArray} (h : s.size ≤ 262144) {l : List Wd} (e : lexN s = (l, none)) : errN s = 0 ∧ atN s = (0, 0, 0) ∧ wdsN s = l := by
  unfold errN atN wdsN
  have h' : ¬ 262144 < s.size := by omega
  rw [if_neg h', if_neg h', if_neg h', e]
  exact ⟨rfl, rfl, rfl⟩
theorem bad_spec {s : ByteArray} (h : s.size ≤ 262144) {l : List Wd} {q : Nat} (e : lexN s = (l, some q)) : errN s = (if q = s.size then 21 else 20) ∧ atN s = (q, (lcN s q 0 1 1).1, (lcN s q 0 1 1).2) ∧ wdsN s = [] := by
  unfold errN atN wdsN
  have h' : ¬ 262144 < s.size := by omega
  rw [if_neg h', if_neg h', if_neg h', e]
  exact ⟨rfl, rfl, rfl⟩
end Go.Proofs.YtpdaciljdcfikaaDoor
