/- scan's small functions walked: single bytes. -/
import Derived.Test.YtpdaciljdcfikaaDoorScanBase
import Derived.Test.YtpdaciljdcfikaaDoorLexSpec
namespace Go.Proofs.YtpdaciljdcfikaaDoor
open Go.RowKit Go.Shelf
set_option linter.unusedVariables false
set_option linter.unusedSimpArgs false

theorem small_any (c : Nat) (w : World) :
    Calls Tryd.prog 36 #[.int .u8 c] w fun e w' => e = .returned (.bool (smallB c)) ∧ w = w' := by
  go_enter Tryd.func36, Tryd.ntmps36
  go_wp2
  all_goals go_ret
  all_goals exact ⟨ret_bool (by rw [Bool.eq_iff_iff]; (try simp [smallB]); try omega), rfl⟩
theorem digit_any (c : Nat) (w : World) :
    Calls Tryd.prog 39 #[.int .u8 c] w fun e w' => e = .returned (.bool (digitB c)) ∧ w = w' := by
  go_enter Tryd.func39, Tryd.ntmps39
  go_wp2
  all_goals go_ret
  all_goals exact ⟨ret_bool (by rw [Bool.eq_iff_iff]; (try simp [digitB]); try omega), rfl⟩
theorem hex_any (c : Nat) (w : World) :
    Calls Tryd.prog 91 #[.int .u8 c] w fun e w' => e = .returned (.bool (hexB c)) ∧ w = w' := by
  go_enter Tryd.func91, Tryd.ntmps91
  go_wp2
  all_goals go_ret
  all_goals exact ⟨ret_bool (by rw [Bool.eq_iff_iff]; (try simp [hexB, digitB]); try omega), rfl⟩
theorem grown_any (c : Nat) (w : World) :
    Calls Tryd.prog 67 #[.int .u8 c] w fun e w' => e = .returned (.bool (grownB c)) ∧ w = w' := by
  go_enter Tryd.func67, Tryd.ntmps67
  go_wp2
  all_goals go_ret
  all_goals exact ⟨ret_bool (by rw [Bool.eq_iff_iff]; (try simp [grownB, smallB, digitB]); try omega), rfl⟩
theorem next_any (s : ByteArray) (i : Nat) (w : World) (hs : s.size ≤ 140737488351232) :
    Calls Tryd.prog 68 #[.string s, .int .i64 i] w fun e w' => e = .returned (.int .u8 (B s i)) ∧ w = w' := by
  by_cases hi : i < s.size
  · go_enter Tryd.func68, Tryd.ntmps68
    go_wp2
    all_goals go_ret
    all_goals exact ⟨ret_int (by rw [B_at hi]), rfl⟩
  · go_enter Tryd.func68, Tryd.ntmps68
    go_wp2
    all_goals go_ret
    all_goals exact ⟨ret_int (by rw [B_out (by omega)]; rfl), rfl⟩
end Go.Proofs.YtpdaciljdcfikaaDoor
