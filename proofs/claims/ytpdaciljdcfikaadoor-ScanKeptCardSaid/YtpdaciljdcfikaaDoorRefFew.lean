/- guiselaw4.few and guisebook.Within walked. -/
import Derived.Test.YtpdaciljdcfikaaDoorScanBase
namespace Go.Proofs.YtpdaciljdcfikaaDoor
open Go.RowKit Go.Shelf
set_option linter.unusedVariables false
set_option linter.unusedSimpArgs false

def fewB (s : ByteArray) (n : Nat) : ByteArray := if n < s.size then s.extract 0 n else s
theorem fewB_size (s : ByteArray) (n : Nat) : (fewB s n).size ≤ n := by
  unfold fewB; split
  · simp; omega
  · omega
theorem few_any (s : ByteArray) (n : Nat) (w : World) (hs : s.size ≤ maxLen) (hn : n ≤ 1000000) :
    Calls Tryd.prog 13 #[.string s, .int .i64 n] w fun e w' => e = .returned (.string (fewB s n)) ∧ w = w' := by
  have hs2 : s.size ≤ 9223372036854775807 := hs
  by_cases h : n < s.size
  · have E : fewB s n = s.extract 0 n := if_pos h
    go_enter Tryd.func13, Tryd.ntmps13
    go_wp2
    all_goals go_ret
    all_goals exact ⟨by rw [E]; rfl, rfl⟩
  · have E : fewB s n = s := if_neg h
    go_enter Tryd.func13, Tryd.ntmps13
    go_wp2
    all_goals go_ret
    all_goals exact ⟨by rw [E]; rfl, rfl⟩

/-- A number brought into lo .. hi. -/
def inN (n lo hi : Int) : Int := lo + n % (hi - lo + 1)
theorem inN_le (n : Int) {lo hi : Int} (h : lo ≤ hi) : lo ≤ inN n lo hi ∧ inN n lo hi ≤ hi := by
  have h1 := Int.emod_nonneg n (show hi - lo + 1 ≠ 0 by omega)
  have h2 := Int.emod_lt_of_pos n (show 0 < hi - lo + 1 by omega)
  unfold inN; omega
theorem within_any (n lo hi : Int) (w : World) (hl : lo ≤ hi) (h1 : -1000000 ≤ lo) (h2 : hi ≤ 1000000) (hn1 : -9223372036854775808 ≤ n) (hn2 : n ≤ 9223372036854775807) :
    Calls Tryd.prog 15 #[.int .i64 n, .int .i64 lo, .int .i64 hi] w fun e w' => e = .returned (.int .i64 (inN n lo hi)) ∧ w = w' := by
  have hr : (0 ≤ Int.tmod n (hi - lo + 1) ∧ inN n lo hi = lo + Int.tmod n (hi - lo + 1)) ∨ (Int.tmod n (hi - lo + 1) < 0 ∧ inN n lo hi = lo + (Int.tmod n (hi - lo + 1) + (hi - lo + 1))) := by
    have e1 := Int.tmod_eq_emod (a := n) (b := hi - lo + 1)
    have e2 := Int.emod_nonneg n (show hi - lo + 1 ≠ 0 by omega)
    have e3 := Int.emod_lt_of_pos n (show 0 < hi - lo + 1 by omega)
    have e4 : (((hi - lo + 1).natAbs : Nat) : Int) = hi - lo + 1 := by omega
    unfold inN
    split at e1
    · left; omega
    · right; omega
  have hb := inN_le n hl
  generalize inN n lo hi = m at *
  have Hr := Lib.hid hr
  clear hr
  go_enter Tryd.func15, Tryd.ntmps15
  go_wp2
  all_goals go_ret
  all_goals (refine ⟨ret_int ?_, rfl⟩; have hr := Hr.out; simp only [wrap64]; omega)
end Go.Proofs.YtpdaciljdcfikaaDoor
