/- scan.quoted walked. -/
import Derived.Test.YtpdaciljdcfikaaDoorScanPoint
namespace Go.Proofs.YtpdaciljdcfikaaDoor
open Go.RowKit Go.Shelf
set_option linter.unusedVariables false
set_option linter.unusedSimpArgs false

theorem runeLen_any (r : Nat) (w : World) : Calls Tryd.prog 47 #[.int .i32 r] w fun e w' => e = .returned (.int .i64 (Lib.runeLen r)) ∧ w = w' :=
  (Tryd.utf8_RuneLen _ w).mono fun _ _ ⟨he, hw⟩ => ⟨he, hw.symm⟩

set_option maxHeartbeats 1000000 in
set_option maxRecDepth 100000 in
theorem quoted_any (s : ByteArray) (p : Nat) (w : World) (hs : s.size ≤ 140737488351232) (hp : p < s.size) (hT : Tabs w) :
    Calls Tryd.prog 66 #[.string s, .int .i64 p] w fun e w' => e = .returned (.tuple #[.int .i32 (quotedN s p).1, .int .i64 (quotedN s p).2.1, .bool (quotedN s p).2.2]) ∧ Below w.heap.size w w' := by
  by_cases hlt : p + 1 < s.size
  · have hx : 0 < (s.extract (p + 1) s.size).size := by simp; omega
    have hd : Utf8.decode (s.extract (p + 1) s.size) 0 = Utf8.decode s (p + 1) := dec_tail (by omega)
    have hn := fun ty => run_next_any (P := Tryd.prog) w (s.extract (p + 1) s.size) 0 ty hx
    rw [hd] at hn
    have hw := dec_width s (p + 1)
    have hf := dec_fits hlt
    have hrb := dec_rune s (p + 1)
    generalize hR : (Utf8.decode s (p + 1)).1 = R at *
    generalize hK : (Utf8.decode s (p + 1)).2 = K at *
    have HR := Lib.hid hR
    have HK := Lib.hid hK
    clear hR hK hd hx
    have hlen : goodAt s (p + 1) = true → Lib.runeLen R = K := fun h => by rw [← HR.out, ← HK.out]; exact runeLen_dec hlt h
    have hgd : goodAt s (p + 1) = false → R = 65533 := fun h => by rw [← HR.out]; exact bad_rune hlt h
    have hpf : R = 65533 → Lib.hasPrefix (s.extract (p + 1) s.size).data.toList [239, 191, 189] = goodAt s (p + 1) := fun h => fffd_prefix hlt (by rw [HR.out]; exact h)
    have Hlen := Lib.hid hlen
    have Hgd := Lib.hid hgd
    have Hpf := Lib.hid hpf
    clear hlen hgd hpf
    have hB0 : Below w.heap.size w (w.iter (s.extract (p + 1) s.size) K) := (Below.refl _ _).alloc (Nat.le_refl _) _
    have hT1 : Tabs (w.iter (s.extract (p + 1) s.size) K) := Utf8Tabs_below hT hB0
    have q0 : quotedN s p = if goodAt s (p + 1) = false then (0, wrongAt s (p + 1), false) else if R < 32 ∨ R = 39 ∨ R = 127 then (0, p + 1, false) else if B s (p + 1 + K) = 39 then (R, p + 1 + K + 1, true) else (0, p + 1 + K, false) := by
      rw [quotedN, if_neg (by omega), HR.out, HK.out]
    have Q0 := Lib.hid q0
    clear q0
    cases hg : goodAt s (p + 1) with
    | false =>
      have hR1 := Hgd.out hg
      have Hg := Lib.hid hg
      subst hR1
      have hp1 := Hpf.out rfl
      rw [hg] at hp1
      have Hp1 := Lib.hid hp1
      clear hg hp1
      go_enter Tryd.func66, Tryd.ntmps66
      go_wp2_with fail
      refine wp_loop_rounds 1 ?_
      rw [rounds_succ]
      go_wp2_with (first | (go_at_call 48; refine (Tryd.strings_HasPrefix _ _ _).mono ?_; rintro e w' ⟨rfl, rfl⟩; rw [Hp1.out]) | (go_at_call 90; refine (broken_any s (p + 1) _ hs hlt (by assumption)).mono ?_; rintro e w3 ⟨rfl, hB3⟩))
      go_ret3
      exact ⟨ret_val (by rw [Q0.out, if_pos Hg.out, broken_wrong hlt Hg.out]; rfl), hB0.trans (hB3.mono hB0.size)⟩
    | true =>
      have Hl := Lib.hid (Hlen.out hg)
      have q1 : quotedN s p = if R < 32 ∨ R = 39 ∨ R = 127 then (0, p + 1, false) else if B s (p + 1 + K) = 39 then (R, p + 1 + K + 1, true) else (0, p + 1 + K, false) := by
        rw [Q0.out, if_neg (by rw [hg]; decide)]
      have Q1 := Lib.hid q1
      have Hnx : Hid (∀ W, Calls Tryd.prog 68 #[.string s, .int .i64 ((p : Int) + 1 + K)] W fun e w' => e = .returned (.int .u8 (B s (p + 1 + K))) ∧ W = w') := fun W => by
        have := next_any s (p + 1 + K) W hs
        rwa [show (((p + 1 + K : Nat)) : Int) = (p : Int) + 1 + K by omega] at this
      by_cases h65 : R = 65533
      · subst h65
        have hp1 := Hpf.out rfl
        rw [hg] at hp1
        have Hp1 := Lib.hid hp1
        clear hg hp1 q1
        go_enter Tryd.func66, Tryd.ntmps66
        go_wp2_with fail
        refine wp_loop_rounds 1 ?_
        rw [rounds_succ]
        go_wp2_with (first | (go_at_call 48; refine (Tryd.strings_HasPrefix _ _ _).mono ?_; rintro e w' ⟨rfl, rfl⟩; rw [Hp1.out]) | (go_at_call 47; refine (runeLen_any 65533 _).mono ?_; rintro e w3 ⟨rfl, rfl⟩; rw [Hl.out]) | (go_at_call 68; refine (Hnx.out _).mono ?_; rintro e w' ⟨rfl, rfl⟩))
        all_goals try simp only [beq_iff_eq, beq_eq_false_iff_ne, ne_eq, bne_iff_ne, bne_eq_false_iff_eq] at *
        all_goals
          go_ret3
          exact ⟨ret_val (by rw [Q1.out, if_neg (by omega)]; (first | rw [if_pos (by omega)] | rw [if_neg (by omega)]); first | rfl | (push_cast; rfl)), hB0⟩
      · clear hg q1
        go_enter Tryd.func66, Tryd.ntmps66
        go_wp2_with fail
        refine wp_loop_rounds 1 ?_
        rw [rounds_succ]
        go_wp2_with (first | (go_at_call 47; refine (runeLen_any R _).mono ?_; rintro e w3 ⟨rfl, rfl⟩; rw [Hl.out]) | (go_at_call 68; refine (Hnx.out _).mono ?_; rintro e w' ⟨rfl, rfl⟩))
        all_goals try simp only [beq_iff_eq, beq_eq_false_iff_ne, ne_eq, bne_iff_ne, bne_eq_false_iff_eq] at *
        all_goals first
          | (exfalso; omega)
          | (go_ret3; exact ⟨ret_val (by rw [Q1.out, if_pos (by omega)]; rfl), hB0⟩)
          | (go_ret3; exact ⟨ret_val (by rw [Q1.out, if_neg (by omega), if_pos (by omega)]; first | rfl | (push_cast; rfl)), hB0⟩)
          | (go_ret3; exact ⟨ret_val (by rw [Q1.out, if_neg (by omega), if_neg (by omega)]; first | rfl | (push_cast; rfl)), hB0⟩)
  · go_enter Tryd.func66, Tryd.ntmps66
    go_wp2_with fail
    have hn := fun ty => run_next_end (P := Tryd.prog) w (s.extract (p + 1) s.size) 0 ty (by simp; omega)
    refine wp_loop_rounds 1 ?_
    rw [rounds_succ]
    go_wp2_with fail
    all_goals first
      | (exfalso; have h : ((p : Int) + 1 == s.size) = false := by assumption
         simp at h; omega)
      | (go_ret3; exact ⟨ret_val (by rw [quotedN, if_pos (by omega)]; rfl), (Below.refl _ _).alloc (Nat.le_refl _) _⟩)
end Go.Proofs.YtpdaciljdcfikaaDoor
