/- guiseref4's small functions walked: single bytes, scalar, number. -/
import Derived.Test.YtpdaciljdcfikaaDoorScanBase
import Derived.Test.YtpdaciljdcfikaaDoorLexFacts
import Derived.Test.YtpdaciljdcfikaaDoorLexText
namespace Go.Proofs.YtpdaciljdcfikaaDoor
open Go.RowKit Go.Shelf
set_option linter.unusedVariables false
set_option linter.unusedSimpArgs false

theorem rsmall_any (c : Nat) (w : World) :
    Calls Tryd.prog 70 #[.int .u8 c] w fun e w' => e = .returned (.bool (smallB c)) ∧ w = w' := by
  go_enter Tryd.func70, Tryd.ntmps70
  go_wp2
  all_goals go_ret
  all_goals exact ⟨ret_bool (by rw [Bool.eq_iff_iff]; (try simp [smallB]); try omega), rfl⟩
theorem rdigit_any (c : Nat) (w : World) :
    Calls Tryd.prog 71 #[.int .u8 c] w fun e w' => e = .returned (.bool (digitB c)) ∧ w = w' := by
  go_enter Tryd.func71, Tryd.ntmps71
  go_wp2
  all_goals go_ret
  all_goals exact ⟨ret_bool (by rw [Bool.eq_iff_iff]; (try simp [digitB]); try omega), rfl⟩
theorem rhex_any (c : Nat) (w : World) :
    Calls Tryd.prog 92 #[.int .u8 c] w fun e w' => e = .returned (.bool (hexB c)) ∧ w = w' := by
  cases hd : digitB c with
  | true =>
    have e1 : hexB c = true := by rw [hexB, hd]; rfl
    go_enter Tryd.func92, Tryd.ntmps92
    go_wp2_with (go_at_call 71; refine (rdigit_any _ _).mono ?_; rintro e w' ⟨rfl, rfl⟩; rw [hd])
    all_goals go_ret
    all_goals exact ⟨ret_bool (by try rw [e1]), rfl⟩
  | false =>
    have e1 : hexB c = (decide (65 ≤ c) && decide (c ≤ 70)) := by rw [hexB, hd]; rfl
    go_enter Tryd.func92, Tryd.ntmps92
    go_wp2_with (go_at_call 71; refine (rdigit_any _ _).mono ?_; rintro e w' ⟨rfl, rfl⟩; rw [hd])
    all_goals go_ret
    all_goals exact ⟨ret_bool (by (try rw [e1]); rw [Bool.eq_iff_iff]; (try simp); try omega), by first | rfl | trivial⟩
theorem rclose_any (c : Nat) (w : World) :
    Calls Tryd.prog 75 #[.int .u8 c] w fun e w' => e = .returned (.bool (grownB c)) ∧ w = w' := by
  cases hs : smallB c with
  | true =>
    have e1 : grownB c = true := by rw [grownB, hs]; rfl
    go_enter Tryd.func75, Tryd.ntmps75
    go_wp2_with (first | (go_at_call 70; refine (rsmall_any _ _).mono ?_; rintro e w' ⟨rfl, rfl⟩; rw [hs]))
    all_goals go_ret
    all_goals exact ⟨ret_bool (by try rw [e1]), rfl⟩
  | false =>
    cases hd : digitB c with
    | true =>
      have e1 : grownB c = true := by rw [grownB, hs, hd]; rfl
      go_enter Tryd.func75, Tryd.ntmps75
      go_wp2_with (first | (go_at_call 70; refine (rsmall_any _ _).mono ?_; rintro e w' ⟨rfl, rfl⟩; rw [hs]) | (go_at_call 71; refine (rdigit_any _ _).mono ?_; rintro e w' ⟨rfl, rfl⟩; rw [hd]))
      all_goals go_ret
      all_goals exact ⟨ret_bool (by try rw [e1]), rfl⟩
    | false =>
      have e1 : grownB c = ((decide (65 ≤ c) && decide (c ≤ 90)) || c == 45 || c == 95) := by rw [grownB, hs, hd]; rfl
      go_enter Tryd.func75, Tryd.ntmps75
      go_wp2_with (first | (go_at_call 70; refine (rsmall_any _ _).mono ?_; rintro e w' ⟨rfl, rfl⟩; rw [hs]) | (go_at_call 71; refine (rdigit_any _ _).mono ?_; rintro e w' ⟨rfl, rfl⟩; rw [hd]))
      all_goals go_ret
      all_goals try simp only [beq_iff_eq, beq_eq_false_iff_ne, ne_eq] at *
      all_goals exact ⟨ret_bool (by (try rw [e1]); rw [Bool.eq_iff_iff]; (try simp); try omega), by first | rfl | trivial⟩
theorem rscalar_any (r : Int) (w : World) :
    Calls Tryd.prog 35 #[.int .i64 r] w fun e w' => e = .returned (.bool (okRune r)) ∧ w = w' := by
  go_enter Tryd.func35, Tryd.ntmps35
  go_wp2
  all_goals go_ret
  all_goals exact ⟨ret_bool (by rw [Bool.eq_iff_iff]; (try simp [okRune]); try omega), rfl⟩

set_option maxHeartbeats 1000000 in
theorem rnumber_any (s : ByteArray) (p : Nat) (w : World) (hs : s.size ≤ 140737488351232) (hp : p ≤ s.size) :
    Calls Tryd.prog 72 #[.string s, .int .i64 p] w fun e w' => e = .returned (.tuple #[.int .i64 (numberN s p).1, .int .i64 (numberN s p).2.1, .bool (numberN s p).2.2]) ∧ w = w' := by
  go_enter Tryd.func72, Tryd.ntmps72
  go_wp2_with fail
  go_loop [1, 7] (fun v v4 => ∃ i f n : Nat, i + f = s.size ∧ p ≤ i ∧ n ≤ 65535 ∧ v = .int .i64 i ∧ v4 = .int .i64 n ∧ Hid (numberGo s p f i n = numberN s p)) (fun v _ => s.size - (intOf v).toNat)
  case atStart => exact ⟨p, s.size - p, 0, by omega, by omega, by omega, rfl, rfl, Lib.hid rfl⟩
  case round =>
    obtain ⟨i, f, n, hif, hpi, hn, rfl, rfl, Hr⟩ := hrel
    have Hif := Lib.hid hif
    have hi : i ≤ s.size := by omega
    clear hif
    by_cases hlt : i < s.size
    · obtain ⟨f, rfl⟩ : ∃ g, f = g + 1 := ⟨f - 1, by have := Hif.out; omega⟩
      have Hb := Lib.hid (B_at hlt)
      have hc : (s[i]'hlt).toNat < 256 := UInt8.toNat_lt _
      cases hd : digitB (s[i]'hlt).toNat with
      | true =>
        have Hd := Lib.hid hd
        obtain ⟨hd1, hd2⟩ := (digitB_iff _).1 hd
        clear hd
        have e0 : numberGo s p (f + 1) i n = if (p < i ∧ n = 0) ∨ 65535 < n * 10 + ((s[i]'hlt).toNat - 48) then (0, i, false) else numberGo s p f (i + 1) (n * 10 + ((s[i]'hlt).toNat - 48)) := by
          rw [numberGo, if_pos (by rw [Hb.out]; exact Hd.out), Hb.out]
        have E0 := Lib.hid e0
        clear e0
        go_wp2_with (go_at_call 71; refine (rdigit_any _ _).mono ?_; rintro e w' ⟨rfl, rfl⟩; rw [Hd.out])
        all_goals try simp only [beq_iff_eq, beq_eq_false_iff_ne, ne_eq] at *
        all_goals first
          | (go_ret3; exact ⟨ret_val (by rw [← Hr.out, E0.out, if_pos (by omega)]; rfl), by first | rfl | trivial⟩)
          | exact ⟨⟨i + 1, f, n * 10 + ((s[i]'hlt).toNat - 48), by have := Hif.out; omega, by omega, by omega, by go_num, by congr 1; omega, Lib.hid (by rw [← Hr.out, E0.out, if_neg (by omega)])⟩, by simp [intOf]; omega⟩
      | false =>
        have Hd := Lib.hid hd
        clear hd
        go_wp2_with (go_at_call 71; refine (rdigit_any _ _).mono ?_; rintro e w' ⟨rfl, rfl⟩; rw [Hd.out])
        all_goals (go_ret3; exact ⟨ret_val (by rw [← Hr.out, numberGo, if_neg (by rw [Hb.out, Hd.out]; decide)]; rfl), rfl⟩)
    · obtain rfl : f = 0 := by have := Hif.out; omega
      go_wp2
      all_goals (go_ret3; exact ⟨ret_val (by rw [← Hr.out]; rfl), rfl⟩)
end Go.Proofs.YtpdaciljdcfikaaDoor
