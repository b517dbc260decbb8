/- guiseref4.value, plus and quoted walked. -/
import Derived.Test.YtpdaciljdcfikaaDoorRefSmall
import Derived.Test.YtpdaciljdcfikaaDoorRefSeq
import Derived.Test.YtpdaciljdcfikaaDoorScanPoint
namespace Go.Proofs.YtpdaciljdcfikaaDoor
open Go.RowKit Go.Shelf
set_option linter.unusedVariables false
set_option linter.unusedSimpArgs false

/-- The number of k hexadecimal digits from a on. -/
def hexAcc (s : ByteArray) (a : Nat) : Nat → Nat
  | 0 => 0
  | k + 1 => hexAcc s a k * 16 + hexV (B s (a + k))
theorem hexAcc_lt (s : ByteArray) (a : Nat) : ∀ k, (∀ j, j < k → hexB (B s (a + j)) = true) → hexAcc s a k < 16 ^ k := by
  intro k
  induction k with
  | zero => intro _; simp [hexAcc]
  | succ k ih =>
    intro h
    have h1 := ih (fun j hj => h j (by omega))
    have h2 := hexV_lt (h k (by omega))
    rw [hexAcc, Nat.pow_succ]
    omega
theorem hexAcc_lt6 {s : ByteArray} {a k : Nat} (hk : k ≤ 6) (h : ∀ j, j < k → hexB (B s (a + j)) = true) : hexAcc s a k < 16777216 := by
  have h1 := hexAcc_lt s a k h
  have : (16 : Nat) ^ k ≤ 16 ^ 6 := Nat.pow_le_pow_right (by omega) hk
  omega
theorem hexAcc_extract {s : ByteArray} {a b : Nat} (hb : b ≤ s.size) : ∀ k, a + k ≤ b → hexAcc (s.extract a b) 0 k = hexAcc s a k := by
  intro k
  induction k with
  | zero => intro _; rfl
  | succ k ih =>
    intro h
    rw [hexAcc, hexAcc, ih (by omega), Nat.zero_add, B_extract s a b k (by omega) hb]
theorem okRune_nat (r : Nat) : okRune (r : Int) = scalarB r := by
  rw [Bool.eq_iff_iff, scalarB_iff]
  simp [okRune]; omega

set_option maxHeartbeats 1000000 in
theorem rvalue_any (s : ByteArray) (w : World) (hs : s.size ≤ 6) (hx : ∀ j, j < s.size → hexB (B s j) = true) :
    Calls Tryd.prog 93 #[.string s] w fun e w' => e = .returned (.int .i64 (hexAcc s 0 s.size)) ∧ w = w' := by
  have Hx := Lib.hid hx
  clear hx
  go_enter Tryd.func93, Tryd.ntmps93
  go_wp2_with fail
  go_loop [3, 4] (fun v3 v4 => ∃ i : Nat, i ≤ s.size ∧ v3 = .int .i64 (hexAcc s 0 i) ∧ v4 = .int .i64 i) (fun _ v4 => s.size - (intOf v4).toNat)
  case atStart => exact ⟨0, by omega, rfl, rfl⟩
  case round =>
    obtain ⟨i, hi, rfl, rfl⟩ := hrel
    have hlt6 := hexAcc_lt6 (s := s) (a := 0) (k := i) (by omega) (fun j hj => by rw [Nat.zero_add]; exact Hx.out j (by omega))
    have e1 : hexAcc s 0 (i + 1) = hexAcc s 0 i * 16 + hexV (B s i) := by rw [hexAcc, Nat.zero_add]
    by_cases hlt : i < s.size
    · have hb := Hx.out i hlt
      have E1 := Lib.hid e1
      clear e1
      generalize hexAcc s 0 i = r at *
      have Hb := Lib.hid (B_at hlt)
      rw [Hb.out] at hb
      have hbx := (hexB_iff _).1 hb
      have hbd := digitB_iff (s[i]'hlt).toNat
      cases hd : digitB (s[i]'hlt).toNat with
      | true =>
        obtain ⟨hd1, hd2⟩ := hbd.1 hd
        have Hd := Lib.hid hd
        clear hd hb hbx hbd
        go_wp2_with (go_at_call 71; refine (rdigit_any _ _).mono ?_; rintro e w' ⟨rfl, rfl⟩; rw [Hd.out])
        exact ⟨⟨i + 1, by omega, by rw [E1.out, Hb.out]; congr 1; unfold hexV; rw [if_pos hd2]; omega, by go_num⟩, by simp [intOf]; omega⟩
      | false =>
        have hd1 : 65 ≤ (s[i]'hlt).toNat ∧ (s[i]'hlt).toNat ≤ 70 := by
          rcases hbx with h | h
          · rw [hbd.2 h] at hd; cases hd
          · exact h
        have Hd := Lib.hid hd
        clear hd hb hbx hbd
        go_wp2_with (go_at_call 71; refine (rdigit_any _ _).mono ?_; rintro e w' ⟨rfl, rfl⟩; rw [Hd.out])
        exact ⟨⟨i + 1, by omega, by rw [E1.out, Hb.out]; congr 1; unfold hexV; rw [if_neg (by omega)]; omega, by go_num⟩, by simp [intOf]; omega⟩
    · have hii : i = s.size := by omega
      subst hii
      clear e1 hlt6
      go_wp2
      all_goals (go_ret; exact ⟨rfl, rfl⟩)

set_option maxHeartbeats 1000000 in
set_option maxRecDepth 100000 in
theorem rquoted_any (s : ByteArray) (p : Nat) (w : World) (hs : s.size ≤ 1000000) (hp : p < s.size) :
    Calls Tryd.prog 74 #[.string s, .int .i64 p] w fun e w' => ∃ r : Nat, e = .returned (.tuple #[.int .i32 r, .int .i64 (quotedN s p).2.1, .bool (quotedN s p).2.2]) ∧ ((quotedN s p).2.2 = true → r = (quotedN s p).1) ∧ w = w' := by
  have hq := fun W => sequence_any s (p + 1) W (by omega) (by omega)
  by_cases hlt : p + 1 < s.size
  · have E := seqT_eq hlt
    have hd := dec_rune s (p + 1)
    have hf := dec_fits hlt
    cases hg : goodAt s (p + 1) with
    | false =>
      have E2 : quotedN s p = (0, wrongAt s (p + 1), false) := by rw [quotedN, if_neg (by omega), if_pos hg]
      rw [hg, if_neg (by decide)] at E
      rw [E] at hq
      rw [E2]
      have Hq := Lib.hid hq
      clear hq E E2 hg hd hf
      go_enter Tryd.func74, Tryd.ntmps74
      go_wp2_with fail
      refine Calls.mono (Hq.out _) ?_
      rintro e w' ⟨rfl, hw'⟩
      obtain rfl : w = w' := hw'
      go_wp2_with fail
      go_ret3
      first | exact ⟨0, rfl, fun h => (by cases h), rfl⟩ | exact ⟨⟨0, rfl⟩, rfl⟩
    | true =>
      rw [hg, if_pos rfl] at E
      rw [E] at hq
      by_cases hr : (Utf8.decode s (p + 1)).1 < 32 ∨ (Utf8.decode s (p + 1)).1 = 39 ∨ (Utf8.decode s (p + 1)).1 = 127
      · have E2 : quotedN s p = (0, p + 1, false) := by rw [quotedN, if_neg (by omega), if_neg (by rw [hg]; decide), if_pos hr]
        rw [E2]
        generalize (Utf8.decode s (p + 1)).1 = R at *
        generalize (Utf8.decode s (p + 1)).2 = K at *
        have Hq := Lib.hid hq
        clear hq E E2 hg
        go_enter Tryd.func74, Tryd.ntmps74
        go_wp2_with fail
        refine Calls.mono (Hq.out _) ?_
        rintro e w' ⟨rfl, hw'⟩
        obtain rfl : w = w' := hw'
        rcases hr with h | h | h
        · go_wp2_with fail
          go_ret3
          first | exact ⟨0, rfl, fun h => (by cases h), rfl⟩ | exact ⟨⟨0, rfl⟩, rfl⟩
        · subst h
          go_wp2_with fail
          go_ret3
          first | exact ⟨0, rfl, fun h => (by cases h), rfl⟩ | exact ⟨⟨0, rfl⟩, rfl⟩
        · subst h
          go_wp2_with fail
          go_ret3
          first | exact ⟨0, rfl, fun h => (by cases h), rfl⟩ | exact ⟨⟨0, rfl⟩, rfl⟩
      · have hr1 : ¬ (Utf8.decode s (p + 1)).1 < 32 := fun h => hr (Or.inl h)
        have hr2 : ¬ (Utf8.decode s (p + 1)).1 = 39 := fun h => hr (Or.inr (Or.inl h))
        have hr3 : ¬ (Utf8.decode s (p + 1)).1 = 127 := fun h => hr (Or.inr (Or.inr h))
        have E2 : quotedN s p = if B s (p + 1 + (Utf8.decode s (p + 1)).2) = 39 then ((Utf8.decode s (p + 1)).1, p + 1 + (Utf8.decode s (p + 1)).2 + 1, true) else (0, p + 1 + (Utf8.decode s (p + 1)).2, false) := by
          rw [quotedN, if_neg (by omega), if_neg (by rw [hg]; decide), if_neg hr]
        generalize (Utf8.decode s (p + 1)).1 = R at *
        generalize (Utf8.decode s (p + 1)).2 = K at *
        have d1 : decide ((R : Int) < 32) = false := by rw [decide_eq_false_iff_not]; omega
        have d2 : ((R : Int) == 39) = false := by rw [beq_eq_false_iff_ne]; omega
        have d3 : ((R : Int) == 127) = false := by rw [beq_eq_false_iff_ne]; omega
        have Hq := Lib.hid hq
        clear hq E hg hr hr1 hr2 hr3
        by_cases hin : p + 1 + K < s.size
        · have hb := B_at hin
          by_cases h39 : B s (p + 1 + K) = 39
          · rw [E2, if_pos h39]
            rw [hb] at h39
            have d4 : ((((s[p + 1 + K]'hin).toNat : Nat) : Int) != 39) = false := by rw [h39]; rfl
            clear E2 hb
            go_enter Tryd.func74, Tryd.ntmps74
            go_wp2_with fail
            refine Calls.mono (Hq.out _) ?_
            rintro e w' ⟨rfl, hw'⟩
            obtain rfl : w = w' := hw'
            go_wp2_with fail
            go_ret3
            first | exact ⟨R, rfl, fun _ => rfl, rfl⟩ | exact ⟨⟨R, rfl, rfl⟩, rfl⟩
          · rw [E2, if_neg h39]
            rw [hb] at h39
            have d4 : ((((s[p + 1 + K]'hin).toNat : Nat) : Int) != 39) = true := by rw [bne_iff_ne]; omega
            clear E2 hb
            go_enter Tryd.func74, Tryd.ntmps74
            go_wp2_with fail
            refine Calls.mono (Hq.out _) ?_
            rintro e w' ⟨rfl, hw'⟩
            obtain rfl : w = w' := hw'
            go_wp2_with fail
            go_ret3
            first | exact ⟨0, rfl, fun h => (by cases h), rfl⟩ | exact ⟨⟨0, rfl⟩, rfl⟩
        · have hb := B_out (s := s) (i := p + 1 + K) (by omega)
          rw [E2, if_neg (by omega)]
          clear E2 hb
          go_enter Tryd.func74, Tryd.ntmps74
          go_wp2_with fail
          refine Calls.mono (Hq.out _) ?_
          rintro e w' ⟨rfl, hw'⟩
          obtain rfl : w = w' := hw'
          go_wp2_with fail
          go_ret3
          first | exact ⟨0, rfl, fun h => (by cases h), rfl⟩ | exact ⟨⟨0, rfl⟩, rfl⟩
  · have E : seqT s (p + 1) = (0, p + 1, false) := by unfold seqT; rw [if_pos (by omega)]
    have E2 : quotedN s p = (0, p + 1, false) := by rw [quotedN, if_pos (by omega)]
    rw [E] at hq
    rw [E2]
    have Hq := Lib.hid hq
    clear hq E E2
    go_enter Tryd.func74, Tryd.ntmps74
    go_wp2_with fail
    refine Calls.mono (Hq.out _) ?_
    rintro e w' ⟨rfl, hw'⟩
    obtain rfl : w = w' := hw'
    go_wp2_with fail
    go_ret3
    first | exact ⟨0, rfl, fun h => (by cases h), rfl⟩ | exact ⟨⟨0, rfl⟩, rfl⟩

set_option maxHeartbeats 3000000 in
set_option maxRecDepth 100000 in
theorem rplus_any (s : ByteArray) (p : Nat) (w : World) (hs : s.size ≤ 1000000) (hp : p < s.size) :
    Calls Tryd.prog 73 #[.string s, .int .i64 p] w fun e w' => ∃ r : Nat, e = .returned (.tuple #[.int .i32 r, .int .i64 (pointN s p).2.1, .bool (pointN s p).2.2]) ∧ ((pointN s p).2.2 = true → r = (pointN s p).1) ∧ w = w' := by
  by_cases hlt1 : p + 1 < s.size
  · by_cases h43 : B s (p + 1) = 43
    · have E1 := Lib.hid (show pointN s p = pointGo s p (s.size - (p + 2)) (p + 2) 0 by rw [pointN, if_pos h43])
      rw [B_at hlt1] at h43
      have d1 : ((((s[p + 1]'hlt1).toNat : Nat) : Int) != 43) = false := by rw [h43]; rfl
      have d0 : decide ((s.size : Int) ≤ (p : Int) + 1) = false := by rw [decide_eq_false_iff_not]; omega
      clear h43
      go_enter Tryd.func73, Tryd.ntmps73
      go_wp2_with fail
      clear d1
      try simp only [d0]
      clear d0
      go_loop [1] (fun v => ∃ i f : Nat, i + f = s.size ∧ p + 2 ≤ i ∧ i ≤ p + 8 ∧ v = .int .i64 i ∧ Hid (∀ j, p + 2 ≤ j → j < i → hexB (B s j) = true) ∧ Hid (pointGo s p f i (hexAcc s (p + 2) (i - (p + 2))) = pointN s p)) (fun v => s.size - (intOf v).toNat)
      case atStart => exact ⟨p + 2, s.size - (p + 2), by omega, by omega, by omega, by go_num, Lib.hid (fun j h1 h2 => absurd h1 (by omega)), Lib.hid (by rw [Nat.sub_self]; exact E1.out.symm)⟩
      case round =>
        obtain ⟨i, f, hif, hpi, hi8, rfl, Hx, Hr⟩ := hrel
        have Hif := Lib.hid hif
        have hi : i ≤ s.size := by omega
        clear hif
        cases hx : hexB (B s i) with
        | true =>
          have hlt : i < s.size := by
            by_cases c : i < s.size
            · exact c
            · rw [B_out (by omega)] at hx; exact absurd hx (by decide)
          have HX := Lib.hid hx
          obtain ⟨f, rfl⟩ : ∃ g, f = g + 1 := ⟨f - 1, by have := Hif.out; omega⟩
          have Hbi := Lib.hid (B_at hlt)
          have hlt2 : p + 1 + 1 < s.size := by omega
          have h2 : B s (p + 2) = (s[p + 1 + 1]'hlt2).toNat := B_at hlt2
          have e1 : tooLong s p i = true → pointN s p = (0, i, false) := fun e => by rw [← Hr.out, pointGo, if_pos hx, if_pos e]
          have e2 : tooLong s p i = false → pointGo s p f (i + 1) (hexAcc s (p + 2) (i + 1 - (p + 2))) = pointN s p := fun e => by
            rw [← Hr.out, pointGo, if_pos hx, if_neg (by rw [e]; decide), show i + 1 - (p + 2) = (i - (p + 2)) + 1 by omega, hexAcc, show p + 2 + (i - (p + 2)) = i by omega]
          have hxs : Hid (∀ j, p + 2 ≤ j → j < i + 1 → hexB (B s j) = true) := Lib.hid fun j h1 h2 => by
            by_cases c : j < i
            · exact Hx.out j h1 c
            · rw [show j = i by omega]; exact HX.out
          have E1' := Lib.hid e1
          have E2 := Lib.hid e2
          clear e1 e2 hx
          by_cases k6 : i - p - 2 = 6
          · have ht : tooLong s p i = true := (tooLong_iff s p i).2 (Or.inl k6)
            have d1 : decide ((6 : Int) < (i : Int) - ((p : Int) + 1 + 1) + 1) = true := by rw [decide_eq_true_iff]; omega
            go_wp2_with (go_at_call 92; refine (rhex_any _ _).mono ?_; rintro e w' ⟨rfl, rfl⟩; rw [← Hbi.out, HX.out])
            go_ret3
            exact ⟨0, ret_val (by rw [E1'.out ht]; rfl), fun h => (by rw [E1'.out ht] at h; cases h), rfl⟩
          · have d1 : decide ((6 : Int) < (i : Int) - ((p : Int) + 1 + 1) + 1) = false := by rw [decide_eq_false_iff_not]; omega
            by_cases k4 : 4 ≤ i - p - 2
            · have d2 : decide ((4 : Int) < (i : Int) - ((p : Int) + 1 + 1) + 1) = true := by rw [decide_eq_true_iff]; omega
              by_cases b48 : B s (p + 2) = 48
              · have ht : tooLong s p i = true := (tooLong_iff s p i).2 (Or.inr (Or.inl ⟨k4, b48⟩))
                have d3 : ((((s[p + 1 + 1]'hlt2).toNat : Nat) : Int) == 48) = true := by rw [beq_iff_eq, ← h2, b48]; rfl
                go_wp2_with (go_at_call 92; refine (rhex_any _ _).mono ?_; rintro e w' ⟨rfl, rfl⟩; rw [← Hbi.out, HX.out])
                go_ret3
                exact ⟨0, ret_val (by rw [E1'.out ht]; rfl), fun h => (by rw [E1'.out ht] at h; cases h), rfl⟩
              · have d3 : ((((s[p + 1 + 1]'hlt2).toNat : Nat) : Int) == 48) = false := by rw [beq_eq_false_iff_ne, ← h2]; omega
                by_cases k5 : i - p - 2 = 5
                · have d4 : (((i : Int) - ((p : Int) + 1 + 1) + 1) == 6) = true := by rw [beq_iff_eq]; omega
                  have hlt3 : p + 1 + 1 + 1 < s.size := by omega
                  have h3 : B s (p + 3) = (s[p + 1 + 1 + 1]'hlt3).toNat := B_at hlt3
                  by_cases b49 : B s (p + 2) = 49
                  · have d5 : ((((s[p + 1 + 1]'hlt2).toNat : Nat) : Int) != 49) = false := by rw [← h2, b49]; rfl
                    by_cases c48 : B s (p + 3) = 48
                    · have d6 : ((((s[p + 1 + 1 + 1]'hlt3).toNat : Nat) : Int) != 48) = false := by rw [← h3, c48]; rfl
                      have ht : tooLong s p i = false := false_of (tooLong_iff s p i) (by omega)
                      go_wp2_with (go_at_call 92; refine (rhex_any _ _).mono ?_; rintro e w' ⟨rfl, rfl⟩; rw [← Hbi.out, HX.out])
                      exact ⟨⟨i + 1, f, by have := Hif.out; omega, by omega, by omega, by go_num, hxs, Lib.hid (E2.out ht)⟩, by simp [intOf]; omega⟩
                    · have d6 : ((((s[p + 1 + 1 + 1]'hlt3).toNat : Nat) : Int) != 48) = true := by rw [bne_iff_ne, ← h3]; omega
                      have ht : tooLong s p i = true := (tooLong_iff s p i).2 (by omega)
                      go_wp2_with (go_at_call 92; refine (rhex_any _ _).mono ?_; rintro e w' ⟨rfl, rfl⟩; rw [← Hbi.out, HX.out])
                      go_ret3
                      exact ⟨0, ret_val (by rw [E1'.out ht]; rfl), fun h => (by rw [E1'.out ht] at h; cases h), rfl⟩
                  · have d5 : ((((s[p + 1 + 1]'hlt2).toNat : Nat) : Int) != 49) = true := by rw [bne_iff_ne, ← h2]; omega
                    have ht : tooLong s p i = true := (tooLong_iff s p i).2 (by omega)
                    go_wp2_with (go_at_call 92; refine (rhex_any _ _).mono ?_; rintro e w' ⟨rfl, rfl⟩; rw [← Hbi.out, HX.out])
                    go_ret3
                    exact ⟨0, ret_val (by rw [E1'.out ht]; rfl), fun h => (by rw [E1'.out ht] at h; cases h), rfl⟩
                · have d4 : (((i : Int) - ((p : Int) + 1 + 1) + 1) == 6) = false := by rw [beq_eq_false_iff_ne]; omega
                  have ht : tooLong s p i = false := false_of (tooLong_iff s p i) (by omega)
                  go_wp2_with (go_at_call 92; refine (rhex_any _ _).mono ?_; rintro e w' ⟨rfl, rfl⟩; rw [← Hbi.out, HX.out])
                  exact ⟨⟨i + 1, f, by have := Hif.out; omega, by omega, by omega, by go_num, hxs, Lib.hid (E2.out ht)⟩, by simp [intOf]; omega⟩
            · have d2 : decide ((4 : Int) < (i : Int) - ((p : Int) + 1 + 1) + 1) = false := by rw [decide_eq_false_iff_not]; omega
              have d4 : (((i : Int) - ((p : Int) + 1 + 1) + 1) == 6) = false := by rw [beq_eq_false_iff_ne]; omega
              have ht : tooLong s p i = false := false_of (tooLong_iff s p i) (by omega)
              go_wp2_with (go_at_call 92; refine (rhex_any _ _).mono ?_; rintro e w' ⟨rfl, rfl⟩; rw [← Hbi.out, HX.out])
              exact ⟨⟨i + 1, f, by have := Hif.out; omega, by omega, by omega, by go_num, hxs, Lib.hid (E2.out ht)⟩, by simp [intOf]; omega⟩
        | false =>
          have e1 : pointN s p = pointEnd p i (hexAcc s (p + 2) (i - (p + 2))) := by
            rw [← Hr.out]
            cases f with
            | zero => rfl
            | succ f => rw [pointGo, if_neg (by rw [hx]; decide)]
          have hva := fun W => rvalue_any (s.extract (p + 2) i) W (by simp; omega) (fun j hj => by
            have hj' : j < i - (p + 2) := by simp at hj; omega
            rw [B_extract s (p + 2) i j (by omega) hi]; exact Hx.out _ (by omega) (by omega))
          rw [show (s.extract (p + 2) i).size = i - (p + 2) by simp; omega, hexAcc_extract hi (i - (p + 2)) (by omega)] at hva
          have hr := hexAcc_lt6 (s := s) (a := p + 2) (k := i - (p + 2)) (by omega) (fun j hj => Hx.out _ (by omega) (by omega))
          generalize hexAcc s (p + 2) (i - (p + 2)) = r at *
          have E1f := Lib.hid e1
          have Hva := Lib.hid hva
          have HX := Lib.hid hx
          clear e1 hva hx Hr
          by_cases hlt : i < s.size
          · have Hbi := Lib.hid (B_at hlt)
            by_cases h6 : 6 ≤ i - p
            · have d1 : decide ((i : Int) - ((p : Int) + 1 + 1) < 4) = false := by rw [decide_eq_false_iff_not]; omega
              cases hsc : scalarB r with
              | true =>
                have Hsc := Lib.hid hsc
                have hr2 := ((scalarB_iff r).1 hsc).1
                have E3 := Lib.hid (show pointN s p = (r, i, true) by rw [E1f.out, pointEnd, decide_eq_true h6, Hsc.out]; rfl)
                clear hsc
                go_wp2_with (first | (go_at_call 92; refine (rhex_any _ _).mono ?_; rintro e w' ⟨rfl, rfl⟩; rw [← Hbi.out, HX.out]) | (go_at_call 93; refine Calls.mono (Hva.out _) ?_; rintro e w' ⟨rfl, rfl⟩) | (go_at_call 35; refine (rscalar_any _ _).mono ?_; rintro e w' ⟨rfl, rfl⟩; rw [okRune_nat, Hsc.out]))
                go_ret3
                exact ⟨r, ret_val (by rw [E3.out]; rfl), fun _ => by rw [E3.out], rfl⟩
              | false =>
                have Hsc := Lib.hid hsc
                have E3 := Lib.hid (show pointN s p = (r, i, false) by rw [E1f.out, pointEnd, Hsc.out, Bool.and_false])
                clear hsc
                go_wp2_with (first | (go_at_call 92; refine (rhex_any _ _).mono ?_; rintro e w' ⟨rfl, rfl⟩; rw [← Hbi.out, HX.out]) | (go_at_call 93; refine Calls.mono (Hva.out _) ?_; rintro e w' ⟨rfl, rfl⟩) | (go_at_call 35; refine (rscalar_any _ _).mono ?_; rintro e w' ⟨rfl, rfl⟩; rw [okRune_nat, Hsc.out]))
                go_ret3
                exact ⟨0, ret_val (by rw [E3.out]; rfl), fun h => (by rw [E3.out] at h; cases h), rfl⟩
            · have d1 : decide ((i : Int) - ((p : Int) + 1 + 1) < 4) = true := by rw [decide_eq_true_iff]; omega
              have E3 := Lib.hid (show pointN s p = (r, i, false) by rw [E1f.out, pointEnd, decide_eq_false h6, Bool.false_and])
              go_wp2_with (go_at_call 92; refine (rhex_any _ _).mono ?_; rintro e w' ⟨rfl, rfl⟩; rw [← Hbi.out, HX.out])
              go_ret3
              exact ⟨0, ret_val (by rw [E3.out]; rfl), fun h => (by rw [E3.out] at h; cases h), rfl⟩
          · have hd0 : decide ((i : Int) < (s.size : Int)) = false := by rw [decide_eq_false_iff_not]; omega
            by_cases h6 : 6 ≤ i - p
            · have d1 : decide ((i : Int) - ((p : Int) + 1 + 1) < 4) = false := by rw [decide_eq_false_iff_not]; omega
              cases hsc : scalarB r with
              | true =>
                have Hsc := Lib.hid hsc
                have hr2 := ((scalarB_iff r).1 hsc).1
                have E3 := Lib.hid (show pointN s p = (r, i, true) by rw [E1f.out, pointEnd, decide_eq_true h6, Hsc.out]; rfl)
                clear hsc
                go_wp2_with (first | (go_at_call 93; refine Calls.mono (Hva.out _) ?_; rintro e w' ⟨rfl, rfl⟩) | (go_at_call 35; refine (rscalar_any _ _).mono ?_; rintro e w' ⟨rfl, rfl⟩; rw [okRune_nat, Hsc.out]))
                go_ret3
                exact ⟨r, ret_val (by rw [E3.out]; rfl), fun _ => by rw [E3.out], rfl⟩
              | false =>
                have Hsc := Lib.hid hsc
                have E3 := Lib.hid (show pointN s p = (r, i, false) by rw [E1f.out, pointEnd, Hsc.out, Bool.and_false])
                clear hsc
                go_wp2_with (first | (go_at_call 93; refine Calls.mono (Hva.out _) ?_; rintro e w' ⟨rfl, rfl⟩) | (go_at_call 35; refine (rscalar_any _ _).mono ?_; rintro e w' ⟨rfl, rfl⟩; rw [okRune_nat, Hsc.out]))
                go_ret3
                exact ⟨0, ret_val (by rw [E3.out]; rfl), fun h => (by rw [E3.out] at h; cases h), rfl⟩
            · have d1 : decide ((i : Int) - ((p : Int) + 1 + 1) < 4) = true := by rw [decide_eq_true_iff]; omega
              have E3 := Lib.hid (show pointN s p = (r, i, false) by rw [E1f.out, pointEnd, decide_eq_false h6, Bool.false_and])
              go_wp2_with fail
              go_ret3
              exact ⟨0, ret_val (by rw [E3.out]; rfl), fun h => (by rw [E3.out] at h; cases h), rfl⟩
    · have E1' := Lib.hid (show pointN s p = (0, p + 1, false) by rw [pointN, if_neg h43])
      have hb := B_at hlt1
      have d1 : ((((s[p + 1]'hlt1).toNat : Nat) : Int) != 43) = true := by rw [bne_iff_ne]; omega
      have d0 : decide ((s.size : Int) ≤ (p : Int) + 1) = false := by rw [decide_eq_false_iff_not]; omega
      clear h43 hb
      go_enter Tryd.func73, Tryd.ntmps73
      go_wp2_with fail
      go_ret3
      exact ⟨0, ret_val (by rw [E1'.out]; rfl), fun h => (by rw [E1'.out] at h; cases h), rfl⟩
  · have E1' := Lib.hid (show pointN s p = (0, p + 1, false) by rw [pointN, if_neg (by rw [B_out (by omega)]; decide)])
    have d0 : decide ((s.size : Int) ≤ (p : Int) + 1) = true := by rw [decide_eq_true_iff]; omega
    go_enter Tryd.func73, Tryd.ntmps73
    go_wp2_with fail
    go_ret3
    exact ⟨0, ret_val (by rw [E1'.out]; rfl), fun h => (by rw [E1'.out] at h; cases h), rfl⟩
end Go.Proofs.YtpdaciljdcfikaaDoor
