/- scan.remark, name, number, point, quoted walked. -/
import Derived.Test.YtpdaciljdcfikaaDoorScanSmall
import Derived.Test.YtpdaciljdcfikaaDoorScanWrong
import Derived.Test.YtpdaciljdcfikaaDoorLexFacts
namespace Go.Proofs.YtpdaciljdcfikaaDoor
open Go.RowKit Go.Shelf
set_option linter.unusedVariables false
set_option linter.unusedSimpArgs false

set_option maxHeartbeats 1000000 in
theorem name_any (s : ByteArray) (p : Nat) (w : World) (hs : s.size ≤ 140737488351232) (hp : p ≤ s.size) :
    Calls Tryd.prog 63 #[.string s, .int .i64 p] w fun e w' => e = .returned (.tuple #[.int .i64 (nameN s p).1, .bool (nameN s p).2]) ∧ w = w' := by
  go_enter Tryd.func63, Tryd.ntmps63
  go_wp2_with fail
  go_loop [1] (fun v => ∃ i f : Nat, i + f = s.size ∧ p ≤ i ∧ v = .int .i64 i ∧ Hid (nameGo s p f i = nameN s p)) (fun v => s.size - (intOf v).toNat)
  case atStart => exact ⟨p, s.size - p, by omega, by omega, rfl, Lib.hid rfl⟩
  case round =>
    obtain ⟨i, f, hif, hpi, rfl, Hr⟩ := hrel
    have Hif := Lib.hid hif
    have hi : i ≤ s.size := by omega
    clear hif
    have hp0 : nameGo s p 0 i = (i, true) := rfl
    by_cases hlt : i < s.size
    · obtain ⟨f, rfl⟩ : ∃ g, f = g + 1 := ⟨f - 1, by have := Hif.out; omega⟩
      have hb := B_at hlt
      have Hb := Lib.hid hb
      clear hb hp0
      go_wp2
      all_goals try simp only [beq_iff_eq, beq_eq_false_iff_ne, ne_eq] at *
      all_goals first
        | (go_ret2; exact ⟨ret_val (by rw [← Hr.out, nameGo, if_pos ((nameB_iff _).2 (by have := Hb.out; omega)), if_pos (by omega)]; rfl), rfl⟩)
        | (go_ret2; exact ⟨ret_val (by rw [← Hr.out, nameGo, if_neg (not_of (nameB_iff _) (by have := Hb.out; omega))]; rfl), rfl⟩)
        | exact ⟨⟨i + 1, f, by have := Hif.out; omega, by omega, by go_num, Lib.hid (by rw [← Hr.out, nameGo, if_pos ((nameB_iff _).2 (by have := Hb.out; omega)), if_neg (by omega)])⟩, by simp [intOf]; omega⟩
    · obtain rfl : f = 0 := by have := Hif.out; omega
      have H0 := Lib.hid hp0
      clear hp0
      go_wp2
      go_ret2
      exact ⟨ret_val (by rw [← Hr.out, H0.out]; rfl), rfl⟩

set_option maxHeartbeats 1000000 in
theorem number_any (s : ByteArray) (p : Nat) (w : World) (hs : s.size ≤ 140737488351232) (hp : p ≤ s.size) :
    Calls Tryd.prog 64 #[.string s, .int .i64 p] w fun e w' => e = .returned (.tuple #[.int .i64 (numberN s p).1, .int .i64 (numberN s p).2.1, .bool (numberN s p).2.2]) ∧ w = w' := by
  go_enter Tryd.func64, Tryd.ntmps64
  go_wp2_with fail
  go_loop [1, 4] (fun v v4 => ∃ i f n : Nat, i + f = s.size ∧ p ≤ i ∧ n ≤ 65535 ∧ v = .int .i64 i ∧ v4 = .int .i64 n ∧ Hid (numberGo s p f i n = numberN s p)) (fun v _ => s.size - (intOf v).toNat)
  case atStart => exact ⟨p, s.size - p, 0, by omega, by omega, by omega, rfl, rfl, Lib.hid rfl⟩
  case round =>
    obtain ⟨i, f, n, hif, hpi, hn, rfl, rfl, Hr⟩ := hrel
    have Hif := Lib.hid hif
    have hi : i ≤ s.size := by omega
    clear hif
    by_cases hlt : i < s.size
    · obtain ⟨f, rfl⟩ : ∃ g, f = g + 1 := ⟨f - 1, by have := Hif.out; omega⟩
      have Hb := Lib.hid (B_at hlt)
      have hc : (s[i]'hlt).toNat < 256 := UInt8.toNat_lt _
      by_cases hd : 48 ≤ (s[i]'hlt).toNat ∧ (s[i]'hlt).toNat ≤ 57
      · obtain ⟨hd1, hd2⟩ := hd
        have e0 : numberGo s p (f + 1) i n = if (p < i ∧ n = 0) ∨ 65535 < n * 10 + ((s[i]'hlt).toNat - 48) then (0, i, false) else numberGo s p f (i + 1) (n * 10 + ((s[i]'hlt).toNat - 48)) := by
          rw [numberGo, if_pos ((digitB_iff _).2 (by have := Hb.out; omega)), Hb.out]
        have E0 := Lib.hid e0
        clear e0
        go_wp2
        all_goals try simp only [beq_iff_eq, beq_eq_false_iff_ne, ne_eq] at *
        all_goals first
          | (go_ret3; exact ⟨ret_val (by rw [← Hr.out, E0.out, if_pos (by omega)]; rfl), rfl⟩)
          | exact ⟨⟨i + 1, f, n * 10 + ((s[i]'hlt).toNat - 48), by have := Hif.out; omega, by omega, by omega, by go_num, by congr 1; omega, Lib.hid (by rw [← Hr.out, E0.out, if_neg (by omega)])⟩, by simp [intOf]; omega⟩
      · have Hd := Lib.hid hd
        clear hd
        go_wp2
        all_goals first | (exfalso; have := Hd.out; omega) | (go_ret3; exact ⟨ret_val (by rw [← Hr.out, numberGo, if_neg (not_of (digitB_iff _) (by have := Hb.out; have := Hd.out; omega))]; rfl), rfl⟩)
    · obtain rfl : f = 0 := by have := Hif.out; omega
      go_wp2
      all_goals (go_ret3; exact ⟨ret_val (by rw [← Hr.out]; rfl), rfl⟩)

set_option maxHeartbeats 1000000 in
set_option maxRecDepth 100000 in
theorem remark_any (s : ByteArray) (p : Nat) (w : World) (hs : s.size ≤ 140737488351232) (hp : p ≤ s.size) (hT : Tabs w) :
    Calls Tryd.prog 62 #[.string s, .int .i64 p] w fun e w' => e = .returned (.tuple #[.int .i64 (remarkN s p).1, .bool (remarkN s p).2]) ∧ Below w.heap.size w w' := by
  go_enter Tryd.func62, Tryd.ntmps62
  go_wp2_with fail
  go_loopw [1] (fun v wr => ∃ i f : Nat, s.size ≤ i + f ∧ i ≤ s.size ∧ v = .int .i64 i ∧ Hid (remarkGo s f i = remarkN s p) ∧ Below w.heap.size w wr) (fun v _ => s.size - (intOf v).toNat)
  case atStart => exact ⟨p, s.size - p, by omega, by omega, rfl, Lib.hid rfl, Below.refl _ _⟩
  case round =>
    obtain ⟨i, f, hif, hi, rfl, Hr, hB⟩ := hrel
    have hT2 : Tabs wr := Utf8Tabs_below hT hB
    by_cases hlt : i < s.size
    · obtain ⟨f, rfl⟩ : ∃ g, f = g + 1 := ⟨f - 1, by omega⟩
      have Hb := Lib.hid (B_at hlt)
      have Hd := Lib.hid (decodeGo_tail hlt)
      have hw := dec_width s i
      have hf := dec_fits hlt
      have e0 : ¬ (s[i]'hlt).toNat = 10 → remarkGo s (f + 1) i = if goodAt s i then remarkGo s f (i + (Utf8.decode s i).2) else (wrongAt s i, false) := by
        intro h
        rw [remarkGo, if_pos ⟨hlt, by rw [Hb.out]; exact h⟩]
      have E0 := Lib.hid e0
      clear e0
      go_wp2_with fail
      · go_wp2_with fail
        refine (Tryd.utf8_DecodeRuneInString _ _ hT2).mono ?_
        rintro e w2 ⟨rfl, hB2⟩
        rw [Hd.out]
        have hT3 := Utf8Tabs_below hT2 hB2
        generalize hR : (Utf8.decode s i).1 = R at *
        generalize hK : (Utf8.decode s i).2 = K at *
        have HR := Lib.hid hR
        have HK := Lib.hid hK
        clear hR hK
        go_wp2_with (first | (go_at_call 90; refine (broken_any _ _ _ hs hlt hT3).mono ?_; rintro e w3 ⟨rfl, hB3⟩))
        all_goals
          have h10 : ¬ (s[i]'hlt).toNat = 10 := by intro e; have h : (((s[i]'hlt).toNat : Int) != 10) = true := by assumption
                                                   rw [e] at h; exact absurd h (by decide)
          have hb' := Hb.out
        · have hg : goodAt s i = false := by simp only [goodAt, HK.out, hb']; simp; omega
          go_ret2
          exact ⟨ret_val (by rw [← Hr.out, E0.out h10, if_neg (by rw [hg]; decide), broken_wrong hlt hg]; rfl), hB.trans ((hB2.trans (hB3.mono hB2.size)).mono hB.size)⟩
        · have hg : goodAt s i = true := by simp only [goodAt, HK.out, hb']; simp; omega
          exact ⟨⟨i + 1, f, by omega, by omega, by go_num, Lib.hid (by rw [← Hr.out, E0.out h10, if_pos hg]; congr 1; omega), hB.trans (hB2.mono hB.size)⟩, by simp [intOf]; omega⟩
        · have hg : goodAt s i = true := by simp only [goodAt, HK.out, hb']; simp; omega
          exact ⟨⟨i + K, f, by omega, by omega, by go_num, Lib.hid (by rw [← Hr.out, E0.out h10, if_pos hg]), hB.trans (hB2.mono hB.size)⟩, by simp [intOf]; omega⟩
      · have h : (((s[i]'hlt).toNat : Int) != 10) = false := by assumption
        have h10 : (s[i]'hlt).toNat = 10 := by have := bne_eq_false_iff_eq.1 h; omega
        go_ret2
        exact ⟨ret_val (by rw [← Hr.out, remarkGo, if_neg (by rw [Hb.out]; omega)]; rfl), hB⟩
    · have e0 : remarkGo s f i = (i, true) := by
        cases f with
        | zero => rfl
        | succ f => rw [remarkGo, if_neg (by omega)]
      have E0 := Lib.hid e0
      clear e0
      go_wp2
      go_ret2
      exact ⟨ret_val (by rw [← Hr.out, E0.out]; rfl), hB⟩
end Go.Proofs.YtpdaciljdcfikaaDoor
