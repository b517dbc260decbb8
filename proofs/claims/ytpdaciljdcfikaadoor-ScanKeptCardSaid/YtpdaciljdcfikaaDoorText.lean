/- scan.Text walked. -/
import Derived.Test.YtpdaciljdcfikaaDoorLexText
namespace Go.Proofs.YtpdaciljdcfikaaDoor
open Go.RowKit Go.Shelf
set_option linter.unusedVariables false
set_option linter.unusedSimpArgs false

set_option maxRecDepth 100000 in
set_option maxHeartbeats 4000000 in
theorem text_any (r : Int) (w : World) (h0 : -2147483648 ≤ r) (h1 : r ≤ 2147483647) (hT : TzAt w) :
    Calls Tryd.prog 18 #[.int .i32 r] w fun e w' => e = .returned (.tuple #[.string ⟨(textL r).toArray⟩, .int .i64 (textE r)]) ∧ Below w.heap.size w w' := by
  have hv : Lib.validRune r = okRune r := by
    unfold Lib.validRune okRune
    rw [Bool.eq_iff_iff]
    simp only [decide_eq_true_eq, Bool.and_eq_true, Bool.or_eq_true]
    omega
  by_cases hok : okRune r = true
  · by_cases hq : 32 < r ∧ r < 127 ∧ ¬ r = 39
    · obtain ⟨n, rfl⟩ : ∃ n : Nat, r = n := ⟨r.toNat, by omega⟩
      have et : textL n = [39, UInt8.ofNat n, 39] := by rw [textL, if_pos hok, if_pos hq]; rfl
      have ee : textE n = 0 := by rw [textE, if_pos hok]
      obtain ⟨q1, q2, q3⟩ := hq
      have Et := Lib.hid et
      have Ee := Lib.hid ee
      have Hv := Lib.hid (hv.trans hok)
      clear et ee hv hok
      have q3' : ((n : Int) == 39) = false := by simp; omega
      have Q3 := Lib.hid q3
      have HT := Lib.hid hT
      clear q3 hT h0 h1
      obtain ⟨E, hE⟩ : ∃ E, Utf8.encode (n : Int) = E := ⟨_, rfl⟩
      have hE2 : E = ⟨#[UInt8.ofNat n]⟩ := by
        rw [← hE]
        unfold Utf8.encode
        have hva : Utf8.valid (n : Int) = true := by simp [Utf8.valid]; omega
        simp only [hva, if_true, Int.toNat_natCast]
        rw [if_pos (by omega)]
      have hEs : E.size = 1 := by rw [hE2]; rfl
      have HE := Lib.hid hE2
      clear hE2
      have hn39 : ((n : Int) != 39) = true := by rw [bne, q3']; rfl
      go_enter Tryd.func18, Tryd.ntmps18
      go_wp2_with fail
      refine (Tryd.utf8_ValidRune _ _).mono ?_
      rintro e w' ⟨rfl, hw'⟩
      obtain rfl : w = w' := hw'.symm
      rw [Hv.out]
      go_wp2_with fail
      go_ret2
      refine ⟨?_, Below.refl _ _⟩
      rw [Et.out, Ee.out, HE.out]
      rfl
    · have hr1 : r ≤ 1114111 := by simp [okRune] at hok; omega
      have hr0 : 0 ≤ r := by simp [okRune] at hok; omega
      obtain ⟨n, rfl⟩ : ∃ n : Nat, r = n := ⟨r.toNat, by omega⟩
      have et : textL n = [85, 43] ++ refGo 12 n [] := by rw [textL, if_pos hok, if_neg hq]; rfl
      have ee : textE n = 0 := by rw [textE, if_pos hok]
      have Et := Lib.hid et
      have Ee := Lib.hid ee
      have Hv := Lib.hid (hv.trans hok)
      have hq' : (n : Int) ≤ 32 ∨ 127 ≤ (n : Int) ∨ n = 39 := by omega
      have Hq := Lib.hid hq'
      clear et ee hv hok hq hq'
      have HT := Lib.hid hT
      have hu : n < 16777216 := by omega
      have hlen := hexGo_len 6 n [] (by omega)
      have hasc := hex_ascii 7 n [] (by simp)
      have htx := text_hex hu
      have hfi := fun W hW => formatInt_16 n hu W hW
      generalize hH : hexGo 7 n [] = H at *
      simp only [List.length_nil] at hlen
      have Hasc := Lib.hid hasc
      have Htx := Lib.hid htx
      have Hfi := Lib.hid hfi
      have HH := Lib.hid hH
      clear hasc htx hfi hH hT h0 h1
      go_enter Tryd.func18, Tryd.ntmps18
      go_wp2_with fail
      refine (Tryd.utf8_ValidRune _ _).mono ?_
      rintro e w' ⟨rfl, hw'⟩
      obtain rfl : w = w' := hw'.symm
      rw [Hv.out]
      rcases Hq.out with q1 | q1 | q1
      · have hd1 : decide (32 < (n : Int)) = false := by rw [decide_eq_false_iff_not]; omega
        go_wp2_with fail
        refine (Hfi.out w HT.out).mono ?_
        rintro e w2 ⟨rfl, hB2⟩
        go_wp2_with fail
        refine (Tryd.strings_ToUpper_ascii ⟨H.toArray⟩ w2 (by show H.toArray.size ≤ _; simp; omega) (by
          intro j b hb
          exact Hasc.out b (List.mem_of_getElem? (by simpa using hb)))).mono ?_
        rintro e w3 ⟨rfl, hB3⟩
        have hmax : max 0 (4 - (H.length : Int)) = ((4 - H.length : Nat) : Int) := by omega
        have hsz : ((⟨(Lib.toUpperA H).toArray⟩ : ByteArray)).size = H.length := by show (Lib.toUpperA H).toArray.size = _; simp [Lib.toUpperA]
        have hrl : ((⟨(Lib.repeatL [48] (4 - H.length)).toArray⟩ : ByteArray)).size ≤ 4 := by show (Lib.repeatL [48] (4 - H.length)).toArray.size ≤ 4; simp [Lib.repeatL_length]
        generalize hU : (⟨(Lib.toUpperA H).toArray⟩ : ByteArray) = U at *
        generalize hP : (⟨(Lib.repeatL [48] (4 - H.length)).toArray⟩ : ByteArray) = Pd at *
        go_wp2_with fail
        refine (Tryd.strings_Repeat ⟨#[48]⟩ (4 - H.length) w3 (by omega) (by show 1 * (4 - H.length) ≤ _; omega)).mono ?_
        rintro e w4 ⟨rfl, hB4⟩
        simp only [hP]
        go_wp2_with fail
        go_ret2
        refine ⟨?_, (hB2.trans (hB3.mono hB2.size)).trans (hB4.mono (Nat.le_trans hB2.size hB3.size))⟩
        rw [Et.out, Ee.out, Htx.out, ← hU, ← hP]
        refine ret_val ?_
        congr 3
        all_goals (congr 1; try (refine congrArg ByteArray.mk ?_; simp))
      · have hd1 : decide (32 < (n : Int)) = true := by rw [decide_eq_true_iff]; omega
        have hd2 : decide ((n : Int) < 127) = false := by rw [decide_eq_false_iff_not]; omega
        go_wp2_with fail
        refine (Hfi.out w HT.out).mono ?_
        rintro e w2 ⟨rfl, hB2⟩
        go_wp2_with fail
        refine (Tryd.strings_ToUpper_ascii ⟨H.toArray⟩ w2 (by show H.toArray.size ≤ _; simp; omega) (by
          intro j b hb
          exact Hasc.out b (List.mem_of_getElem? (by simpa using hb)))).mono ?_
        rintro e w3 ⟨rfl, hB3⟩
        have hmax : max 0 (4 - (H.length : Int)) = ((4 - H.length : Nat) : Int) := by omega
        have hsz : ((⟨(Lib.toUpperA H).toArray⟩ : ByteArray)).size = H.length := by show (Lib.toUpperA H).toArray.size = _; simp [Lib.toUpperA]
        have hrl : ((⟨(Lib.repeatL [48] (4 - H.length)).toArray⟩ : ByteArray)).size ≤ 4 := by show (Lib.repeatL [48] (4 - H.length)).toArray.size ≤ 4; simp [Lib.repeatL_length]
        generalize hU : (⟨(Lib.toUpperA H).toArray⟩ : ByteArray) = U at *
        generalize hP : (⟨(Lib.repeatL [48] (4 - H.length)).toArray⟩ : ByteArray) = Pd at *
        go_wp2_with fail
        refine (Tryd.strings_Repeat ⟨#[48]⟩ (4 - H.length) w3 (by omega) (by show 1 * (4 - H.length) ≤ _; omega)).mono ?_
        rintro e w4 ⟨rfl, hB4⟩
        simp only [hP]
        go_wp2_with fail
        go_ret2
        refine ⟨?_, (hB2.trans (hB3.mono hB2.size)).trans (hB4.mono (Nat.le_trans hB2.size hB3.size))⟩
        rw [Et.out, Ee.out, Htx.out, ← hU, ← hP]
        refine ret_val ?_
        congr 3
        all_goals (congr 1; try (refine congrArg ByteArray.mk ?_; simp))
      · subst q1
        go_wp2_with fail
        refine (Hfi.out w HT.out).mono ?_
        rintro e w2 ⟨rfl, hB2⟩
        go_wp2_with fail
        refine (Tryd.strings_ToUpper_ascii ⟨H.toArray⟩ w2 (by show H.toArray.size ≤ _; simp; omega) (by
          intro j b hb
          exact Hasc.out b (List.mem_of_getElem? (by simpa using hb)))).mono ?_
        rintro e w3 ⟨rfl, hB3⟩
        have hmax : max 0 (4 - (H.length : Int)) = ((4 - H.length : Nat) : Int) := by omega
        have hsz : ((⟨(Lib.toUpperA H).toArray⟩ : ByteArray)).size = H.length := by show (Lib.toUpperA H).toArray.size = _; simp [Lib.toUpperA]
        have hrl : ((⟨(Lib.repeatL [48] (4 - H.length)).toArray⟩ : ByteArray)).size ≤ 4 := by show (Lib.repeatL [48] (4 - H.length)).toArray.size ≤ 4; simp [Lib.repeatL_length]
        generalize hU : (⟨(Lib.toUpperA H).toArray⟩ : ByteArray) = U at *
        generalize hP : (⟨(Lib.repeatL [48] (4 - H.length)).toArray⟩ : ByteArray) = Pd at *
        go_wp2_with fail
        refine (Tryd.strings_Repeat ⟨#[48]⟩ (4 - H.length) w3 (by omega) (by show 1 * (4 - H.length) ≤ _; omega)).mono ?_
        rintro e w4 ⟨rfl, hB4⟩
        simp only [hP]
        go_wp2_with fail
        go_ret2
        refine ⟨?_, (hB2.trans (hB3.mono hB2.size)).trans (hB4.mono (Nat.le_trans hB2.size hB3.size))⟩
        rw [Et.out, Ee.out, Htx.out, ← hU, ← hP]
        refine ret_val ?_
        congr 3
        all_goals (congr 1; try (refine congrArg ByteArray.mk ?_; simp))
  · have hok' : okRune r = false := by simpa using hok
    have et : textL r = [] := by rw [textL, hok']; rfl
    have ee : textE r = 12 := by rw [textE, hok']; rfl
    have Et := Lib.hid et
    have Ee := Lib.hid ee
    have Hv := Lib.hid (hv.trans hok')
    clear et ee hv hok hok'
    go_enter Tryd.func18, Tryd.ntmps18
    go_wp2_with fail
    refine (Tryd.utf8_ValidRune _ _).mono ?_
    rintro e w' ⟨rfl, hw'⟩
    obtain rfl : w = w' := hw'.symm
    rw [Hv.out]
    go_wp2_with fail
    go_ret2
    refine ⟨?_, Below.refl _ _⟩
    rw [Et.out, Ee.out]
    rfl
end Go.Proofs.YtpdaciljdcfikaaDoor
