/- scan.broken walked. -/
import Derived.Test.YtpdaciljdcfikaaDoorScanBegun
namespace Go.Proofs.YtpdaciljdcfikaaDoor
open Go.RowKit Go.Shelf
set_option linter.unusedVariables false
set_option linter.unusedSimpArgs false

def brokenEnd (s : ByteArray) (p : Nat) : Int := if begunB (s.extract p s.size) = true then s.size else p
def brokenLoop (s : ByteArray) (p : Nat) : Nat → Nat → Int
  | 0, _ => brokenEnd s p
  | f + 1, k => if k < s.size then (if begunB (s.extract p k) = false then (k : Int) - 1 else if begunB (s.extract p (k + 1)) = false then k else brokenLoop s p f (k + 1)) else brokenEnd s p
def brokenN (s : ByteArray) (p : Nat) : Int := brokenLoop s p 3 (p + 1)

set_option maxHeartbeats 1000000 in
theorem broken_any (s : ByteArray) (p : Nat) (w : World) (hs : s.size ≤ 140737488351232) (hp : p < s.size) (hT : Tabs w) :
    Calls Tryd.prog 90 #[.string s, .int .i64 p] w fun e w' => e = .returned (.int .i64 (brokenN s p)) ∧ Below w.heap.size w w' := by
  go_enter Tryd.func90, Tryd.ntmps90
  go_wp2_with fail
  go_loopw [5] (fun i wr => ∃ k f : Nat, k + f = p + 4 ∧ p < k ∧ i = .int .i64 k ∧ Hid (brokenLoop s p f k = brokenN s p) ∧ Below w.heap.size w wr) (fun i _ => p + 4 - (intOf i).toNat)
  case atStart => exact ⟨p + 1, 3, by omega, by omega, by go_num, Lib.hid rfl, Below.refl _ _⟩
  case round =>
    obtain ⟨k, f, hkf, hpk, rfl, Hr, hB⟩ := hrel
    have Hkf := Lib.hid hkf
    clear hkf
    have hT2 : Tabs wr := Utf8Tabs_below hT hB
    have fin : brokenLoop s p f k = brokenEnd s p → ∀ W, Tabs W → Below w.heap.size w W → begunB (s.extract p s.size) = true → (s.size : Int) = brokenN s p := by
      intro e W _ _ hb
      rw [← Hr.out, e, brokenEnd, if_pos hb]
    have fin2 : brokenLoop s p f k = brokenEnd s p → begunB (s.extract p s.size) = false → (p : Int) = brokenN s p := by
      intro e hb
      rw [← Hr.out, e, brokenEnd, if_neg (by rw [hb]; decide)]
    have Fin := Lib.hid fin
    have Fin2 := Lib.hid fin2
    clear fin fin2
    by_cases hgo : k < s.size ∧ k < p + 4
    · obtain ⟨hlt, hk4⟩ := hgo
      obtain ⟨f, rfl⟩ : ∃ g, f = g + 1 := ⟨f - 1, by have := Hkf.out; omega⟩
      cases hb1 : begunB (s.extract p k) with
      | false =>
        have Hb := Lib.hid hb1
        clear hb1
        go_wp2_with fail
        refine (begun_any _ _ (by simp; omega) hT2).mono ?_
        rintro e w2 ⟨rfl, hB2⟩
        rw [Hb.out]
        go_wp2_with fail
        go_ret
        exact ⟨ret_int (by rw [← Hr.out, brokenLoop, if_pos hlt, if_pos Hb.out]), hB.trans (hB2.mono hB.size)⟩
      | true =>
        have Hb := Lib.hid hb1
        clear hb1
        go_wp2_with fail
        refine (begun_any _ _ (by simp; omega) hT2).mono ?_
        rintro e w2 ⟨rfl, hB2⟩
        rw [Hb.out]
        have hT3 := Utf8Tabs_below hT2 hB2
        cases hb2 : begunB (s.extract p (k + 1)) with
        | false =>
          have Hb2 := Lib.hid hb2
          clear hb2
          go_wp2_with fail
          refine (begun_any _ _ (by simp; omega) hT3).mono ?_
          rintro e w3 ⟨rfl, hB3⟩
          rw [Hb2.out]
          go_wp2_with fail
          go_ret
          exact ⟨ret_int (by rw [← Hr.out, brokenLoop, if_pos hlt, if_neg (by rw [Hb.out]; decide), if_pos Hb2.out]), hB.trans ((hB2.trans (hB3.mono hB2.size)).mono hB.size)⟩
        | true =>
          have Hb2 := Lib.hid hb2
          clear hb2
          go_wp2_with fail
          refine (begun_any _ _ (by simp; omega) hT3).mono ?_
          rintro e w3 ⟨rfl, hB3⟩
          rw [Hb2.out]
          go_wp2_with fail
          exact ⟨⟨k + 1, f, by have := Hkf.out; omega, by omega, by go_num, Lib.hid (by rw [← Hr.out, brokenLoop, if_pos hlt, if_neg (by rw [Hb.out]; decide), if_neg (by rw [Hb2.out]; decide)]), hB.trans ((hB2.trans (hB3.mono hB2.size)).mono hB.size)⟩, by simp [intOf]; omega⟩
    · have hend : brokenLoop s p f k = brokenEnd s p := by
        cases f with
        | zero => rfl
        | succ f => rw [brokenLoop, if_neg (by have := Hkf.out; omega)]
      have Hend := Lib.hid hend
      clear hend
      cases hb : begunB (s.extract p s.size) with
      | false =>
        have Hb := Lib.hid hb
        clear hb
        go_wp2_with (refine (begun_any _ _ (by simp; omega) hT2).mono ?_; rintro e w2 ⟨rfl, hB2⟩; rw [Hb.out])
        all_goals (go_ret; exact ⟨ret_int (Fin2.out Hend.out Hb.out), hB.trans (hB2.mono hB.size)⟩)
      | true =>
        have Hb := Lib.hid hb
        clear hb
        go_wp2_with (refine (begun_any _ _ (by simp; omega) hT2).mono ?_; rintro e w2 ⟨rfl, hB2⟩; rw [Hb.out])
        all_goals (go_ret; exact ⟨ret_int (Fin.out Hend.out _ hT2 hB Hb.out), hB.trans (hB2.mono hB.size)⟩)
end Go.Proofs.YtpdaciljdcfikaaDoor
