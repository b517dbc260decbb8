/- guiseref4.need walked (printed by gen_need.py). -/
import Derived.Test.YtpdaciljdcfikaaDoorScanSmall
namespace Go.Proofs.YtpdaciljdcfikaaDoor
open Go.RowKit Go.Shelf
set_option linter.unusedVariables false
set_option linter.unusedSimpArgs false

def needT (c : Nat) : Nat × Nat × Nat × Bool := match needN c with
  | some (n, lo, hi) => (n, lo, hi, true)
  | none => (0, 0, 0, false)
set_option maxRecDepth 100000 in
set_option maxHeartbeats 4000000 in
theorem need_any (c : Nat) (hc : c < 256) (w : World) :
    Calls Tryd.prog 50 #[.int .u8 c] w fun e w' => e = .returned (.tuple #[.int .i64 (needT c).1, .int .u8 (needT c).2.1, .int .u8 (needT c).2.2.1, .bool (needT c).2.2.2]) ∧ w = w' := by
  have hr : (0 ≤ c ∧ c ≤ 127) ∨ (194 ≤ c ∧ c ≤ 223) ∨ (224 ≤ c ∧ c ≤ 224) ∨ (237 ≤ c ∧ c ≤ 237) ∨ (225 ≤ c ∧ c ≤ 236) ∨ (238 ≤ c ∧ c ≤ 239) ∨ (240 ≤ c ∧ c ≤ 240) ∨ (241 ≤ c ∧ c ≤ 243) ∨ (244 ≤ c ∧ c ≤ 244) ∨ (128 ≤ c ∧ c ≤ 193) ∨ (245 ≤ c ∧ c ≤ 255) := by omega
  rcases hr with ⟨l0, h0⟩ | ⟨l1, h1⟩ | ⟨l2, h2⟩ | ⟨l3, h3⟩ | ⟨l4, h4⟩ | ⟨l5, h5⟩ | ⟨l6, h6⟩ | ⟨l7, h7⟩ | ⟨l8, h8⟩ | ⟨l9, h9⟩ | ⟨l10, h10⟩
  · have e : needT c = (0, 0, 0, true) := by
      unfold needT needN
      repeat (first | rw [if_pos (by omega)] | rw [if_neg (by omega)])
    have He := Lib.hid e
    have d0 : decide ((c : Int) < 128) = true := by rw [decide_eq_true_iff]; omega
    have d1 : decide (194 ≤ (c : Int)) = false := by rw [decide_eq_false_iff_not]; omega
    have d2 : decide ((c : Int) ≤ 223) = true := by rw [decide_eq_true_iff]; omega
    have d3 : ((c : Int) == 224) = false := by rw [beq_eq_false_iff_ne]; omega
    have d4 : ((c : Int) == 237) = false := by rw [beq_eq_false_iff_ne]; omega
    have d5 : decide (225 ≤ (c : Int)) = false := by rw [decide_eq_false_iff_not]; omega
    have d6 : decide ((c : Int) ≤ 239) = true := by rw [decide_eq_true_iff]; omega
    have d7 : ((c : Int) == 240) = false := by rw [beq_eq_false_iff_ne]; omega
    have d8 : decide (241 ≤ (c : Int)) = false := by rw [decide_eq_false_iff_not]; omega
    have d9 : decide ((c : Int) ≤ 243) = true := by rw [decide_eq_true_iff]; omega
    have d10 : ((c : Int) == 244) = false := by rw [beq_eq_false_iff_ne]; omega
    clear e
    go_enter Tryd.func50, Tryd.ntmps50
    go_wp2_with fail
    refine bodyPost_ret (v := .tuple #[.int .i64 0, .int .u8 0, .int .u8 0, .bool true]) (by simp [results, Tryd.results50, go_sem]) rfl ?_
    exact ⟨by rw [He.out]; rfl, rfl⟩
  · have e : needT c = (1, 128, 191, true) := by
      unfold needT needN
      repeat (first | rw [if_pos (by omega)] | rw [if_neg (by omega)])
    have He := Lib.hid e
    have d0 : decide ((c : Int) < 128) = false := by rw [decide_eq_false_iff_not]; omega
    have d1 : decide (194 ≤ (c : Int)) = true := by rw [decide_eq_true_iff]; omega
    have d2 : decide ((c : Int) ≤ 223) = true := by rw [decide_eq_true_iff]; omega
    have d3 : ((c : Int) == 224) = false := by rw [beq_eq_false_iff_ne]; omega
    have d4 : ((c : Int) == 237) = false := by rw [beq_eq_false_iff_ne]; omega
    have d5 : decide (225 ≤ (c : Int)) = false := by rw [decide_eq_false_iff_not]; omega
    have d6 : decide ((c : Int) ≤ 239) = true := by rw [decide_eq_true_iff]; omega
    have d7 : ((c : Int) == 240) = false := by rw [beq_eq_false_iff_ne]; omega
    have d8 : decide (241 ≤ (c : Int)) = false := by rw [decide_eq_false_iff_not]; omega
    have d9 : decide ((c : Int) ≤ 243) = true := by rw [decide_eq_true_iff]; omega
    have d10 : ((c : Int) == 244) = false := by rw [beq_eq_false_iff_ne]; omega
    clear e
    go_enter Tryd.func50, Tryd.ntmps50
    go_wp2_with fail
    refine bodyPost_ret (v := .tuple #[.int .i64 1, .int .u8 128, .int .u8 191, .bool true]) (by simp [results, Tryd.results50, go_sem]) rfl ?_
    exact ⟨by rw [He.out]; rfl, rfl⟩
  · have e : needT c = (2, 160, 191, true) := by
      unfold needT needN
      repeat (first | rw [if_pos (by omega)] | rw [if_neg (by omega)])
    have He := Lib.hid e
    have d0 : decide ((c : Int) < 128) = false := by rw [decide_eq_false_iff_not]; omega
    have d1 : decide (194 ≤ (c : Int)) = true := by rw [decide_eq_true_iff]; omega
    have d2 : decide ((c : Int) ≤ 223) = false := by rw [decide_eq_false_iff_not]; omega
    have d3 : ((c : Int) == 224) = true := by rw [beq_iff_eq]; omega
    have d4 : ((c : Int) == 237) = false := by rw [beq_eq_false_iff_ne]; omega
    have d5 : decide (225 ≤ (c : Int)) = false := by rw [decide_eq_false_iff_not]; omega
    have d6 : decide ((c : Int) ≤ 239) = true := by rw [decide_eq_true_iff]; omega
    have d7 : ((c : Int) == 240) = false := by rw [beq_eq_false_iff_ne]; omega
    have d8 : decide (241 ≤ (c : Int)) = false := by rw [decide_eq_false_iff_not]; omega
    have d9 : decide ((c : Int) ≤ 243) = true := by rw [decide_eq_true_iff]; omega
    have d10 : ((c : Int) == 244) = false := by rw [beq_eq_false_iff_ne]; omega
    clear e
    go_enter Tryd.func50, Tryd.ntmps50
    go_wp2_with fail
    refine bodyPost_ret (v := .tuple #[.int .i64 2, .int .u8 160, .int .u8 191, .bool true]) (by simp [results, Tryd.results50, go_sem]) rfl ?_
    exact ⟨by rw [He.out]; rfl, rfl⟩
  · have e : needT c = (2, 128, 159, true) := by
      unfold needT needN
      repeat (first | rw [if_pos (by omega)] | rw [if_neg (by omega)])
    have He := Lib.hid e
    have d0 : decide ((c : Int) < 128) = false := by rw [decide_eq_false_iff_not]; omega
    have d1 : decide (194 ≤ (c : Int)) = true := by rw [decide_eq_true_iff]; omega
    have d2 : decide ((c : Int) ≤ 223) = false := by rw [decide_eq_false_iff_not]; omega
    have d3 : ((c : Int) == 224) = false := by rw [beq_eq_false_iff_ne]; omega
    have d4 : ((c : Int) == 237) = true := by rw [beq_iff_eq]; omega
    have d5 : decide (225 ≤ (c : Int)) = true := by rw [decide_eq_true_iff]; omega
    have d6 : decide ((c : Int) ≤ 239) = true := by rw [decide_eq_true_iff]; omega
    have d7 : ((c : Int) == 240) = false := by rw [beq_eq_false_iff_ne]; omega
    have d8 : decide (241 ≤ (c : Int)) = false := by rw [decide_eq_false_iff_not]; omega
    have d9 : decide ((c : Int) ≤ 243) = true := by rw [decide_eq_true_iff]; omega
    have d10 : ((c : Int) == 244) = false := by rw [beq_eq_false_iff_ne]; omega
    clear e
    go_enter Tryd.func50, Tryd.ntmps50
    go_wp2_with fail
    refine bodyPost_ret (v := .tuple #[.int .i64 2, .int .u8 128, .int .u8 159, .bool true]) (by simp [results, Tryd.results50, go_sem]) rfl ?_
    exact ⟨by rw [He.out]; rfl, rfl⟩
  · have e : needT c = (2, 128, 191, true) := by
      unfold needT needN
      repeat (first | rw [if_pos (by omega)] | rw [if_neg (by omega)])
    have He := Lib.hid e
    have d0 : decide ((c : Int) < 128) = false := by rw [decide_eq_false_iff_not]; omega
    have d1 : decide (194 ≤ (c : Int)) = true := by rw [decide_eq_true_iff]; omega
    have d2 : decide ((c : Int) ≤ 223) = false := by rw [decide_eq_false_iff_not]; omega
    have d3 : ((c : Int) == 224) = false := by rw [beq_eq_false_iff_ne]; omega
    have d4 : ((c : Int) == 237) = false := by rw [beq_eq_false_iff_ne]; omega
    have d5 : decide (225 ≤ (c : Int)) = true := by rw [decide_eq_true_iff]; omega
    have d6 : decide ((c : Int) ≤ 239) = true := by rw [decide_eq_true_iff]; omega
    have d7 : ((c : Int) == 240) = false := by rw [beq_eq_false_iff_ne]; omega
    have d8 : decide (241 ≤ (c : Int)) = false := by rw [decide_eq_false_iff_not]; omega
    have d9 : decide ((c : Int) ≤ 243) = true := by rw [decide_eq_true_iff]; omega
    have d10 : ((c : Int) == 244) = false := by rw [beq_eq_false_iff_ne]; omega
    clear e
    go_enter Tryd.func50, Tryd.ntmps50
    go_wp2_with fail
    refine bodyPost_ret (v := .tuple #[.int .i64 2, .int .u8 128, .int .u8 191, .bool true]) (by simp [results, Tryd.results50, go_sem]) rfl ?_
    exact ⟨by rw [He.out]; rfl, rfl⟩
  · have e : needT c = (2, 128, 191, true) := by
      unfold needT needN
      repeat (first | rw [if_pos (by omega)] | rw [if_neg (by omega)])
    have He := Lib.hid e
    have d0 : decide ((c : Int) < 128) = false := by rw [decide_eq_false_iff_not]; omega
    have d1 : decide (194 ≤ (c : Int)) = true := by rw [decide_eq_true_iff]; omega
    have d2 : decide ((c : Int) ≤ 223) = false := by rw [decide_eq_false_iff_not]; omega
    have d3 : ((c : Int) == 224) = false := by rw [beq_eq_false_iff_ne]; omega
    have d4 : ((c : Int) == 237) = false := by rw [beq_eq_false_iff_ne]; omega
    have d5 : decide (225 ≤ (c : Int)) = true := by rw [decide_eq_true_iff]; omega
    have d6 : decide ((c : Int) ≤ 239) = true := by rw [decide_eq_true_iff]; omega
    have d7 : ((c : Int) == 240) = false := by rw [beq_eq_false_iff_ne]; omega
    have d8 : decide (241 ≤ (c : Int)) = false := by rw [decide_eq_false_iff_not]; omega
    have d9 : decide ((c : Int) ≤ 243) = true := by rw [decide_eq_true_iff]; omega
    have d10 : ((c : Int) == 244) = false := by rw [beq_eq_false_iff_ne]; omega
    clear e
    go_enter Tryd.func50, Tryd.ntmps50
    go_wp2_with fail
    refine bodyPost_ret (v := .tuple #[.int .i64 2, .int .u8 128, .int .u8 191, .bool true]) (by simp [results, Tryd.results50, go_sem]) rfl ?_
    exact ⟨by rw [He.out]; rfl, rfl⟩
  · have e : needT c = (3, 144, 191, true) := by
      unfold needT needN
      repeat (first | rw [if_pos (by omega)] | rw [if_neg (by omega)])
    have He := Lib.hid e
    have d0 : decide ((c : Int) < 128) = false := by rw [decide_eq_false_iff_not]; omega
    have d1 : decide (194 ≤ (c : Int)) = true := by rw [decide_eq_true_iff]; omega
    have d2 : decide ((c : Int) ≤ 223) = false := by rw [decide_eq_false_iff_not]; omega
    have d3 : ((c : Int) == 224) = false := by rw [beq_eq_false_iff_ne]; omega
    have d4 : ((c : Int) == 237) = false := by rw [beq_eq_false_iff_ne]; omega
    have d5 : decide (225 ≤ (c : Int)) = true := by rw [decide_eq_true_iff]; omega
    have d6 : decide ((c : Int) ≤ 239) = false := by rw [decide_eq_false_iff_not]; omega
    have d7 : ((c : Int) == 240) = true := by rw [beq_iff_eq]; omega
    have d8 : decide (241 ≤ (c : Int)) = false := by rw [decide_eq_false_iff_not]; omega
    have d9 : decide ((c : Int) ≤ 243) = true := by rw [decide_eq_true_iff]; omega
    have d10 : ((c : Int) == 244) = false := by rw [beq_eq_false_iff_ne]; omega
    clear e
    go_enter Tryd.func50, Tryd.ntmps50
    go_wp2_with fail
    refine bodyPost_ret (v := .tuple #[.int .i64 3, .int .u8 144, .int .u8 191, .bool true]) (by simp [results, Tryd.results50, go_sem]) rfl ?_
    exact ⟨by rw [He.out]; rfl, rfl⟩
  · have e : needT c = (3, 128, 191, true) := by
      unfold needT needN
      repeat (first | rw [if_pos (by omega)] | rw [if_neg (by omega)])
    have He := Lib.hid e
    have d0 : decide ((c : Int) < 128) = false := by rw [decide_eq_false_iff_not]; omega
    have d1 : decide (194 ≤ (c : Int)) = true := by rw [decide_eq_true_iff]; omega
    have d2 : decide ((c : Int) ≤ 223) = false := by rw [decide_eq_false_iff_not]; omega
    have d3 : ((c : Int) == 224) = false := by rw [beq_eq_false_iff_ne]; omega
    have d4 : ((c : Int) == 237) = false := by rw [beq_eq_false_iff_ne]; omega
    have d5 : decide (225 ≤ (c : Int)) = true := by rw [decide_eq_true_iff]; omega
    have d6 : decide ((c : Int) ≤ 239) = false := by rw [decide_eq_false_iff_not]; omega
    have d7 : ((c : Int) == 240) = false := by rw [beq_eq_false_iff_ne]; omega
    have d8 : decide (241 ≤ (c : Int)) = true := by rw [decide_eq_true_iff]; omega
    have d9 : decide ((c : Int) ≤ 243) = true := by rw [decide_eq_true_iff]; omega
    have d10 : ((c : Int) == 244) = false := by rw [beq_eq_false_iff_ne]; omega
    clear e
    go_enter Tryd.func50, Tryd.ntmps50
    go_wp2_with fail
    refine bodyPost_ret (v := .tuple #[.int .i64 3, .int .u8 128, .int .u8 191, .bool true]) (by simp [results, Tryd.results50, go_sem]) rfl ?_
    exact ⟨by rw [He.out]; rfl, rfl⟩
  · have e : needT c = (3, 128, 143, true) := by
      unfold needT needN
      repeat (first | rw [if_pos (by omega)] | rw [if_neg (by omega)])
    have He := Lib.hid e
    have d0 : decide ((c : Int) < 128) = false := by rw [decide_eq_false_iff_not]; omega
    have d1 : decide (194 ≤ (c : Int)) = true := by rw [decide_eq_true_iff]; omega
    have d2 : decide ((c : Int) ≤ 223) = false := by rw [decide_eq_false_iff_not]; omega
    have d3 : ((c : Int) == 224) = false := by rw [beq_eq_false_iff_ne]; omega
    have d4 : ((c : Int) == 237) = false := by rw [beq_eq_false_iff_ne]; omega
    have d5 : decide (225 ≤ (c : Int)) = true := by rw [decide_eq_true_iff]; omega
    have d6 : decide ((c : Int) ≤ 239) = false := by rw [decide_eq_false_iff_not]; omega
    have d7 : ((c : Int) == 240) = false := by rw [beq_eq_false_iff_ne]; omega
    have d8 : decide (241 ≤ (c : Int)) = true := by rw [decide_eq_true_iff]; omega
    have d9 : decide ((c : Int) ≤ 243) = false := by rw [decide_eq_false_iff_not]; omega
    have d10 : ((c : Int) == 244) = true := by rw [beq_iff_eq]; omega
    clear e
    go_enter Tryd.func50, Tryd.ntmps50
    go_wp2_with fail
    refine bodyPost_ret (v := .tuple #[.int .i64 3, .int .u8 128, .int .u8 143, .bool true]) (by simp [results, Tryd.results50, go_sem]) rfl ?_
    exact ⟨by rw [He.out]; rfl, rfl⟩
  · have e : needT c = (0, 0, 0, false) := by
      unfold needT needN
      repeat (first | rw [if_pos (by omega)] | rw [if_neg (by omega)])
    have He := Lib.hid e
    have d0 : decide ((c : Int) < 128) = false := by rw [decide_eq_false_iff_not]; omega
    have d1 : decide (194 ≤ (c : Int)) = false := by rw [decide_eq_false_iff_not]; omega
    have d2 : decide ((c : Int) ≤ 223) = true := by rw [decide_eq_true_iff]; omega
    have d3 : ((c : Int) == 224) = false := by rw [beq_eq_false_iff_ne]; omega
    have d4 : ((c : Int) == 237) = false := by rw [beq_eq_false_iff_ne]; omega
    have d5 : decide (225 ≤ (c : Int)) = false := by rw [decide_eq_false_iff_not]; omega
    have d6 : decide ((c : Int) ≤ 239) = true := by rw [decide_eq_true_iff]; omega
    have d7 : ((c : Int) == 240) = false := by rw [beq_eq_false_iff_ne]; omega
    have d8 : decide (241 ≤ (c : Int)) = false := by rw [decide_eq_false_iff_not]; omega
    have d9 : decide ((c : Int) ≤ 243) = true := by rw [decide_eq_true_iff]; omega
    have d10 : ((c : Int) == 244) = false := by rw [beq_eq_false_iff_ne]; omega
    clear e
    go_enter Tryd.func50, Tryd.ntmps50
    go_wp2_with fail
    refine bodyPost_ret (v := .tuple #[.int .i64 0, .int .u8 0, .int .u8 0, .bool false]) (by simp [results, Tryd.results50, go_sem]) rfl ?_
    exact ⟨by rw [He.out]; rfl, rfl⟩
  · have e : needT c = (0, 0, 0, false) := by
      unfold needT needN
      repeat (first | rw [if_pos (by omega)] | rw [if_neg (by omega)])
    have He := Lib.hid e
    have d0 : decide ((c : Int) < 128) = false := by rw [decide_eq_false_iff_not]; omega
    have d1 : decide (194 ≤ (c : Int)) = true := by rw [decide_eq_true_iff]; omega
    have d2 : decide ((c : Int) ≤ 223) = false := by rw [decide_eq_false_iff_not]; omega
    have d3 : ((c : Int) == 224) = false := by rw [beq_eq_false_iff_ne]; omega
    have d4 : ((c : Int) == 237) = false := by rw [beq_eq_false_iff_ne]; omega
    have d5 : decide (225 ≤ (c : Int)) = true := by rw [decide_eq_true_iff]; omega
    have d6 : decide ((c : Int) ≤ 239) = false := by rw [decide_eq_false_iff_not]; omega
    have d7 : ((c : Int) == 240) = false := by rw [beq_eq_false_iff_ne]; omega
    have d8 : decide (241 ≤ (c : Int)) = true := by rw [decide_eq_true_iff]; omega
    have d9 : decide ((c : Int) ≤ 243) = false := by rw [decide_eq_false_iff_not]; omega
    have d10 : ((c : Int) == 244) = false := by rw [beq_eq_false_iff_ne]; omega
    clear e
    go_enter Tryd.func50, Tryd.ntmps50
    go_wp2_with fail
    refine bodyPost_ret (v := .tuple #[.int .i64 0, .int .u8 0, .int .u8 0, .bool false]) (by simp [results, Tryd.results50, go_sem]) rfl ?_
    exact ⟨by rw [He.out]; rfl, rfl⟩
end Go.Proofs.YtpdaciljdcfikaaDoor
