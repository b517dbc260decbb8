/- The plain law of ScanFirst, its second half: with the first wrong byte nothing helps. -/
import Derived.Test.YtpdaciljdcfikaaDoorGoes
import Derived.Test.YtpdaciljdcfikaaDoorFirstMend
namespace Go.Proofs.YtpdaciljdcfikaaDoor
open Go
set_option linter.unusedVariables false
set_option linter.unusedSimpArgs false

theorem stuck_tail {s t : ByteArray} {q : Nat} (hs : s.size ≤ 200000) (ht : t.size ≤ 2000) (hq : q < s.size) (e : (lexN s).2 = some q) : errN (s.extract 0 (q + 1) ++ t) = 20 ∧ (atN (s.extract 0 (q + 1) ++ t)).1 = q := by
  have ha := agree_extract (t := t) hq
  have hl := lex_agree ha e
  have hz : (s.extract 0 (q + 1) ++ t).size ≤ 262144 := by rw [ByteArray.size_append]; simp; omega
  cases hx : lexN (s.extract 0 (q + 1) ++ t) with
  | mk l o =>
    rw [hx] at hl
    simp only at hl
    subst hl
    obtain ⟨e1, e2, e3⟩ := bad_spec hz hx
    have hlt := ha.lt'
    by_cases c : q + 1 = (s.extract 0 (q + 1) ++ t).size ∨ True
    · rw [e1, e2, if_neg (by omega)]
      exact ⟨rfl, rfl⟩
    · exact absurd (Or.inr trivial) c
theorem stuck_goes {s : ByteArray} {q : Nat} (hs : s.size ≤ 200000) (hq : q < s.size) (e : (lexN s).2 = some q) : goesB (s.extract 0 (q + 1)) = false :=
  goes_false fun i hi => by
    rw [(stuck_tail hs (Nat.le_trans (ends_size i hi) (by omega)) hq e).1]
    omega
theorem cut_goesB {s : ByteArray} {q : Nat} (hs : s.size ≤ 200000) (e : (lexN s).2 = some q) : goesB (s.extract 0 q) = true := by
  obtain ⟨x, m, a⟩ := cut_goes hs e
  exact List.any_eq_true.2 ⟨x, m, by rw [a]; rfl⟩
/-- The plain law of ScanFirst. -/
def First (s : ByteArray) : Prop := ∀ l q, lexN s = (l, some q) →
  (q = s.size → goesB s = true) ∧ (q < s.size → goesB (s.extract 0 q) = true ∧ goesB (s.extract 0 (q + 1)) = false ∧ ∀ t : ByteArray, t.size ≤ 2000 → errN (s.extract 0 (q + 1) ++ t) = 20 ∧ (atN (s.extract 0 (q + 1) ++ t)).1 = q)
theorem first_all (s : ByteArray) (hs : s.size ≤ 2000) : First s := fun l q h => by
  have e : (lexN s).2 = some q := by rw [h]
  refine ⟨fun hq => ?_, fun hq => ⟨cut_goesB (by omega) e, stuck_goes (by omega) hq e, fun t ht => stuck_tail (by omega) ht hq e⟩⟩
  have := cut_goesB (by omega) e
  rw [hq, ByteArray.extract_zero_size] at this
  exact this
end Go.Proofs.YtpdaciljdcfikaaDoor
