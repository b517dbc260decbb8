/- Plain: what guiseref4.blank goes over, step by step. -/
import Derived.Test.YtpdaciljdcfikaaDoorLexSteps
namespace Go.Proofs.YtpdaciljdcfikaaDoor
open Go
set_option linter.unusedVariables false
set_option linter.unusedSimpArgs false

theorem remark_fuel (s : ByteArray) : ∀ d i f, s.size - i = d → d ≤ f → remarkGo s f i = remarkGo s d i := by
  intro d
  induction d using Nat.strongRecOn with
  | _ d ih =>
    intro i f hd hf
    cases d with
    | zero =>
      cases f with
      | zero => rfl
      | succ f =>
        show remarkGo s (f + 1) i = (i, true)
        rw [remarkGo, if_neg (by omega)]
    | succ d =>
      obtain ⟨f, rfl⟩ : ∃ g, f = g + 1 := ⟨f - 1, by omega⟩
      have hw := dec_width s i
      rw [remarkGo, remarkGo]
      split
      · split
        · rw [ih (s.size - (i + (Utf8.decode s i).2)) (by omega) _ f rfl (by omega), ih (s.size - (i + (Utf8.decode s i).2)) (by omega) _ d rfl (by omega)]
        · rfl
      · rfl
theorem remark_step {s : ByteArray} {i : Nat} (h : i < s.size) (h10 : ¬ B s i = 10) (g : goodAt s i = true) : remarkN s i = remarkN s (i + (Utf8.decode s i).2) := by
  have hw := dec_width s i
  unfold remarkN
  rw [show s.size - i = (s.size - i - 1) + 1 by omega, remarkGo, if_pos ⟨h, h10⟩, if_pos g]
  exact remark_fuel s _ _ _ rfl (by omega)
theorem remark_bad {s : ByteArray} {i : Nat} (h : i < s.size) (h10 : ¬ B s i = 10) (g : goodAt s i = false) : remarkN s i = (wrongAt s i, false) := by
  unfold remarkN
  rw [show s.size - i = (s.size - i - 1) + 1 by omega, remarkGo, if_pos ⟨h, h10⟩, if_neg (by rw [g]; decide)]
theorem remark_stop {s : ByteArray} {i : Nat} (h : ¬ (i < s.size ∧ ¬ B s i = 10)) : remarkN s i = (i, true) := by
  unfold remarkN
  cases s.size - i with
  | zero => rfl
  | succ d => rw [remarkGo, if_neg h]

/-- From place p on the words are those from place i on, within a remark or outside. -/
def BState (s : ByteArray) (p : Nat) (rm : Bool) (i : Nat) : Prop :=
  ∀ f l, s.size - p ≤ f → ∃ f', s.size - i ≤ f' ∧ lexGo s f p l = if rm then (if (remarkN s i).2 then lexGo s f' (remarkN s i).1 l else (l, some (remarkN s i).1)) else lexGo s f' i l
theorem bs_start (s : ByteArray) (p : Nat) : BState s p false p := fun f l h => ⟨f, h, rfl⟩
theorem bs_blank {s : ByteArray} {p i : Nat} (h : BState s p false i) (hi : i < s.size) (hb : blankB (B s i) = true) : BState s p false (i + 1) := fun f l hf => by
  obtain ⟨f', h1, h2⟩ := h f l hf
  obtain ⟨k, rfl⟩ : ∃ k, f' = k + 1 := ⟨f' - 1, by omega⟩
  exact ⟨k, by omega, by rw [h2]; exact lex_blank hi hb⟩
theorem bs_hash {s : ByteArray} {p i : Nat} (h : BState s p false i) (hi : i < s.size) (hb : B s i = 35) : BState s p true (i + 1) := fun f l hf => by
  obtain ⟨f', h1, h2⟩ := h f l hf
  obtain ⟨k, rfl⟩ : ∃ k, f' = k + 1 := ⟨f' - 1, by omega⟩
  have e := remark_step hi (by omega) (good_ascii (by omega))
  rw [dec_ascii (by omega)] at e
  refine ⟨k, by omega, ?_⟩
  rw [h2]
  have e2 := lex_remark (f := k) (l := l) hi hb
  rw [e] at e2
  exact e2
theorem bs_good {s : ByteArray} {p i : Nat} (h : BState s p true i) (hi : i < s.size) (g : goodAt s i = true) (hb : ¬ B s i = 10) : BState s p true (i + (Utf8.decode s i).2) := fun f l hf => by
  obtain ⟨f', h1, h2⟩ := h f l hf
  rw [remark_step hi hb g] at h2
  exact ⟨f', by omega, h2⟩
theorem bs_nl {s : ByteArray} {p i : Nat} (h : BState s p true i) (hi : i < s.size) (hb : B s i = 10) : BState s p false (i + 1) := fun f l hf => by
  obtain ⟨f', h1, h2⟩ := h f l hf
  rw [remark_stop (by omega)] at h2
  obtain ⟨k, rfl⟩ : ∃ k, f' = k + 1 := ⟨f' - 1, by omega⟩
  refine ⟨k, by omega, ?_⟩
  rw [h2]
  exact lex_blank hi ((blankB_iff _).2 (Or.inr (Or.inr (Or.inl hb))))
theorem bs_bad {s : ByteArray} {p i : Nat} (h : BState s p true i) (hi : i < s.size) (g : goodAt s i = false) : ∀ f l, s.size - p ≤ f → lexGo s f p l = (l, some (wrongAt s i)) := fun f l hf => by
  obtain ⟨f', h1, h2⟩ := h f l hf
  have h10 : ¬ B s i = 10 := fun e => by rw [good_ascii (by rw [e]; decide)] at g; cases g
  rw [remark_bad hi h10 g] at h2
  exact h2
theorem bs_end {s : ByteArray} {p i : Nat} {rm : Bool} (h : BState s p rm i) (hi : s.size ≤ i) : BState s p false i := fun f l hf => by
  obtain ⟨f', h1, h2⟩ := h f l hf
  rw [remark_stop (by omega)] at h2
  refine ⟨f', h1, ?_⟩
  rw [h2]; cases rm <;> rfl
/-- What blank answers. -/
def BPost (s : ByteArray) (p q : Nat) (ok : Bool) : Prop :=
  q ≤ s.size ∧ p ≤ q ∧ (ok = true → (q < s.size → ¬ (B s q = 32 ∨ B s q = 9 ∨ B s q = 10 ∨ B s q = 13) ∧ ¬ B s q = 35) ∧ BState s p false q) ∧ (ok = false → ∀ f l, s.size - p ≤ f → lexGo s f p l = (l, some q))
end Go.Proofs.YtpdaciljdcfikaaDoor
