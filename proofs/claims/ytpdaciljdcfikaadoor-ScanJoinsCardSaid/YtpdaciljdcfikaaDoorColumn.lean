/- guiselaw4.column walked: the column of a rune's beginning. -/
import Derived.Test.YtpdaciljdcfikaaDoorLexWhere
import Derived.Test.YtpdaciljdcfikaaDoorScanTo
namespace Go.Proofs.YtpdaciljdcfikaaDoor
open Go.RowKit Go.Shelf
set_option linter.unusedVariables false
set_option linter.unusedSimpArgs false

set_option maxHeartbeats 2000000 in
set_option maxRecDepth 100000 in
theorem column_any (s : ByteArray) (t : Nat) (w : World) (hs : s.size ≤ 262144) (hg : Seg s 0 t) (ht : t ≤ s.size) :
    Calls Tryd.prog 24 #[.string s, .int .i64 t] w fun e w' => e = .returned (.int .i64 (lcN s t 0 1 1).2) ∧ Below w.heap.size w w' := by
  go_enter Tryd.func24, Tryd.ntmps24
  go_wp2_with fail
  have hi0 : Itr (w.iter s 0) w.heap.size s 0 := Itr.new w s 0
  have hk0 : Keep (fun _ => False) w (w.iter s 0) := (Keep.refl _ w).iter _ _
  generalize w.iter s 0 = W0 at *
  go_loopg [5] t (fun f v5 wr => ∃ i l c : Nat, v5 = .int .i64 c ∧ i ≤ t ∧ t - i ≤ f ∧ c ≤ i + 1 ∧ Hid (Seg s i t) ∧ Hid ((lcN s t i l c).2 = (lcN s t 0 1 1).2) ∧ Itr wr w.heap.size s i ∧ Keep (fun _ => False) w wr)
  case atStart => exact ⟨0, 1, 1, rfl, by omega, by omega, by omega, Lib.hid hg, Lib.hid rfl, hi0, hk0⟩
  case round =>
    obtain ⟨i, l, c, rfl, hit, hf, hc, Hseg, Hlc, hi1, hk1⟩ := hrel
    by_cases hlt : i < t
    · obtain ⟨hi2, hgd, hseg⟩ := Hseg.out.first hlt
      have hw := dec_width s i
      have hle := hseg.le
      have hn := fun ty => Lib.run_next_any_at (P := Tryd.prog) wr _ _ _ ty hi1 (by omega)
      have hrb := dec_rune s i
      have hst := lcN_step (t := t) l c hlt hle
      generalize hR : (Utf8.decode s i).1 = R at *
      generalize hK : (Utf8.decode s i).2 = K at *
      have Hst := Lib.hid hst
      have HR := Lib.hid hR
      have HK := Lib.hid hK
      have d1 : decide ((t : Int) ≤ (i : Int)) = false := by rw [decide_eq_false_iff_not]; omega
      clear hst hR hK
      go_wp2_with fail
      all_goals go_roundg (t - (i + K))
      case measure => omega
      case measure => omega
      · have h10 : R = 10 := by have : ((R : Int) == 10) = true := by assumption
                                simp at this; omega
        exact ⟨i + K, l + 1, 1, rfl, by omega, by omega, by omega, Lib.hid hseg, Lib.hid (by rw [← Hlc.out, Hst.out, if_pos h10]), hi1.at _, hk1.iterAt (by omega) _ _⟩
      · have h10 : ¬ R = 10 := by have : ((R : Int) == 10) = false := by assumption
                                  simp at this; omega
        exact ⟨i + K, l, c + 1, by go_num, by omega, by omega, by omega, Lib.hid hseg, Lib.hid (by rw [← Hlc.out, Hst.out, if_neg h10]), hi1.at _, hk1.iterAt (by omega) _ _⟩
    · obtain rfl : i = t := by omega
      have l0 := lcN_end s i i l c (Nat.le_refl _)
      have hlc := Hlc.out
      rw [l0] at hlc
      have L0 := Lib.hid hlc
      clear l0 hlc
      by_cases hz : i < s.size
      · have hn := fun ty => Lib.run_next_any_at (P := Tryd.prog) wr _ _ _ ty hi1 hz
        generalize (Utf8.decode s i).1 = R at *
        generalize (Utf8.decode s i).2 = K at *
        go_wp2_with fail
        go_ret
        exact ⟨by rw [← L0.out]; rfl, (hk1.iterAt (by omega) _ _).below fun k hk => ⟨hk, fun h => h⟩⟩
      · have hn := fun ty => Lib.run_next_end_at (P := Tryd.prog) wr _ _ _ ty hi1 (by omega)
        go_wp2_with fail
        go_ret
        exact ⟨by rw [← L0.out]; rfl, hk1.below fun k hk => ⟨hk, fun h => h⟩⟩
end Go.Proofs.YtpdaciljdcfikaaDoor
