/- scan.point walked. -/
import Derived.Test.YtpdaciljdcfikaaDoorScanToks
namespace Go.Proofs.YtpdaciljdcfikaaDoor
open Go.RowKit Go.Shelf
set_option linter.unusedVariables false
set_option linter.unusedSimpArgs false

theorem ext_two (s : ByteArray) (q : Nat) (h : q + 2 ≤ s.size) : ((s.extract q (q + 2)).toList == [49, 48]) = (B s q == 49 && B s (q + 1) == 48) := by
  have e : (s.extract q (q + 2)).toList = [s[q]'(by omega), s[q + 1]'(by omega)] := by
    rw [Lib.toList_data, Lib.extract_data]
    apply List.ext_getElem
    · simp; omega
    · intro n h1 h2
      have : n = 0 ∨ n = 1 := by simp at h2; omega
      rcases this with rfl | rfl <;> simp <;> rfl
  rw [e, B_at (by omega), B_at (by omega), Bool.eq_iff_iff]
  simp only [beq_iff_eq, List.cons.injEq, and_true, Bool.and_eq_true]
  constructor
  · rintro ⟨h1, h2⟩; rw [h1, h2]; exact ⟨rfl, rfl⟩
  · rintro ⟨h1, h2⟩; exact ⟨UInt8.toNat_inj.1 h1, UInt8.toNat_inj.1 h2⟩
theorem tooLong_iff (s : ByteArray) (p i : Nat) : tooLong s p i = true ↔ (i - p - 2 = 6 ∨ (4 ≤ i - p - 2 ∧ B s (p + 2) = 48) ∨ (i - p - 2 = 5 ∧ ¬ (B s (p + 2) = 49 ∧ B s (p + 3) = 48))) := by
  simp [tooLong, or_assoc]; omega
theorem hexIdx : ∀ c : Nat, c < 256 → hexB c = true → Lib.indexByte [48, 49, 50, 51, 52, 53, 54, 55, 56, 57, 65, 66, 67, 68, 69, 70] (c : Int).toNat.toUInt8 = hexV c := by
  have h : ∀ c : Fin 256, hexB c.1 = true → Lib.indexByte [48, 49, 50, 51, 52, 53, 54, 55, 56, 57, 65, 66, 67, 68, 69, 70] ((c.1 : Nat) : Int).toNat.toUInt8 = hexV c.1 := by decide +kernel
  exact fun c hc => h ⟨c, hc⟩
theorem hexV_lt {c : Nat} (h : hexB c = true) : hexV c < 16 := by
  have := (hexB_iff c).1 h
  unfold hexV; split <;> omega
theorem valid_any (r : Nat) (w : World) : Calls Tryd.prog 31 #[.int .i32 r] w fun e w' => e = .returned (.bool (scalarB r)) ∧ w = w' :=
  (Tryd.utf8_ValidRune _ w).mono fun _ _ ⟨he, hw⟩ => ⟨by rw [he]; exact ret_bool (by rw [Bool.eq_iff_iff, scalarB_iff]; simp [Lib.validRune]; omega), hw.symm⟩
theorem or16 (r v : Nat) (hr : r < 16777216) (hv : v < 16) : Go.bits .or .i32 ((r : Int) * 16) v = ((r * 16 + v : Nat) : Int) := by
  rw [bits_join .i32 31 (by decide) wraps_i32 4 ((r : Int) * 16) v (by omega) (by omega) (by omega) (by omega) (by omega) (by omega)]
  push_cast; rfl
theorem hexIdx_any (c : Nat) (hc : c < 256) (h : hexB c = true) (w : World) :
    Calls Tryd.prog 61 #[.string { data := #[48, 49, 50, 51, 52, 53, 54, 55, 56, 57, 65, 66, 67, 68, 69, 70] }, .int .u8 c] w fun e w' => e = .returned (.int .i64 (hexV c)) ∧ w = w' :=
  (Tryd.strings_IndexByte _ c w).mono fun _ _ ⟨he, hw⟩ => ⟨by rw [he, ← hexIdx c hc h], hw.symm⟩

set_option maxHeartbeats 1000000 in
set_option maxRecDepth 100000 in
theorem point_any (s : ByteArray) (p : Nat) (w : World) (hs : s.size ≤ 140737488351232) (hp : p < s.size) :
    Calls Tryd.prog 65 #[.string s, .int .i64 p] w fun e w' => ∃ r : Nat, e = .returned (.tuple #[.int .i32 r, .int .i64 (pointN s p).2.1, .bool (pointN s p).2.2]) ∧ ((pointN s p).2.2 = true → r = (pointN s p).1) ∧ w = w' := by
  by_cases h43 : B s (p + 1) = 43
  · have H43 := Lib.hid h43
    clear h43
    go_enter Tryd.func65, Tryd.ntmps65
    go_wp2_with (go_at_call 68; refine (next_any _ (p + 1) _ hs).mono ?_; rintro e w' ⟨rfl, rfl⟩; rw [H43.out])
    go_loop [1, 4] (fun v v4 => ∃ i f r : Nat, i + f = s.size ∧ p + 2 ≤ i ∧ i ≤ p + 8 ∧ r < 16 ^ (i - p - 2) ∧ v = .int .i64 i ∧ v4 = .int .i32 r ∧ Hid (pointGo s p f i r = pointN s p)) (fun v _ => s.size - (intOf v).toNat)
    case atStart => 
      have : p + 1 < s.size := by
        by_cases c : p + 1 < s.size
        · exact c
        · have := B_out (s := s) (i := p + 1) (by omega); have := H43.out; omega
      exact ⟨p + 2, s.size - (p + 2), 0, by omega, by omega, by omega, by simp, by go_num, rfl, Lib.hid (by rw [pointN, if_pos H43.out])⟩
    case round =>
      obtain ⟨i, f, r, hif, hpi, hi8, hr, rfl, rfl, Hr⟩ := hrel
      have Hif := Lib.hid hif
      have hi : i ≤ s.size := by omega
      clear hif
      have Hr16 := Lib.hid hr
      have hr24 : r < 16777216 := by
        have : (16 : Nat) ^ (i - p - 2) ≤ 16 ^ 6 := Nat.pow_le_pow_right (by omega) (by omega)
        omega
      clear hr
      cases hx : hexB (B s i) with
      | true =>
        have Hx := Lib.hid hx
        have hlt : i < s.size := by
          by_cases c : i < s.size
          · exact c
          · rw [B_out (by omega)] at hx; exact absurd hx (by decide)
        clear hx
        obtain ⟨f, rfl⟩ : ∃ g, f = g + 1 := ⟨f - 1, by have := Hif.out; omega⟩
        have hp8 : i < p + 8 ∨ i = p + 8 := by omega
        have H2 : Hid (∀ h : p + 2 < s.size, (s[p + 2]'h).toNat = B s (p + 2)) := fun h => (B_at h).symm
        have H3 : Hid (p + 4 ≤ s.size → ((s.extract (p + 2) (p + 4)).toList == [49, 48]) = (B s (p + 2) == 49 && B s (p + 3) == 48)) := ext_two s (p + 2)
        have hbl := B_lt s i
        have Hbi := Lib.hid (B_at hlt)
        have e1 : tooLong s p i = true → pointN s p = (0, i, false) := fun e => by rw [← Hr.out, pointGo, if_pos Hx.out, if_pos e]
        have e2 : tooLong s p i = false → pointGo s p f (i + 1) (r * 16 + hexV (B s i)) = pointN s p := fun e => by rw [← Hr.out, pointGo, if_pos Hx.out, if_neg (by rw [e]; decide)]
        have E1 := Lib.hid e1
        have E2 := Lib.hid e2
        have hv := hexV_lt Hx.out
        clear e1 e2
        go_wp2_with (first | (go_at_call 68; refine (next_any _ _ _ hs).mono ?_; rintro e w' ⟨rfl, rfl⟩) | (go_at_call 91; refine (hex_any _ _).mono ?_; rintro e w' ⟨rfl, rfl⟩; rw [Hx.out]) | (go_at_call 61; rw [← Hbi.out]; refine (hexIdx_any _ hbl Hx.out _).mono ?_; rintro e w' ⟨rfl, rfl⟩))
        all_goals first
          | (have e : tooLong s p i = true := by
               rw [tooLong_iff]
               have H2' := H2.out
               have H3' := H3.out
               by_cases c4 : p + 4 ≤ s.size
               · simp only [H2' (by omega), H3' c4, beq_iff_eq, beq_eq_false_iff_ne, ne_eq, Bool.not_eq_true', Bool.and_eq_false_imp] at *
                 omega
               · omega
             go_ret3
             refine ⟨0, ret_val (by rw [E1.out e]; rfl), fun h => ?_, rfl⟩
             rw [E1.out e] at h; cases h)
          | (have e : tooLong s p i = false := by
               apply false_of (tooLong_iff s p i)
               have H2' := H2.out
               have H3' := H3.out
               by_cases c4 : p + 4 ≤ s.size
               · simp only [H2' (by omega), H3' c4, beq_iff_eq, beq_eq_false_iff_ne, ne_eq, Bool.not_eq_false', Bool.and_eq_true] at *
                 omega
               · omega
             refine ⟨⟨i + 1, f, r * 16 + hexV (B s i), by have := Hif.out; omega, by omega, ?_, ?_, by go_num, ?_, Lib.hid (E2.out e)⟩, by simp [intOf]; omega⟩
             · have := mt (tooLong_iff s p i).2 (by rw [e]; decide)
               omega
             · rw [show i + 1 - p - 2 = (i - p - 2) + 1 by omega, Nat.pow_succ]
               have := Hr16.out
               omega
             · rw [or16 r _ hr24 hv])
      | false =>
        have Hx := Lib.hid hx
        clear hx
        have e1 : pointN s p = pointEnd p i r := by
          rw [← Hr.out]
          cases f with
          | zero => rfl
          | succ f => rw [pointGo, if_neg (by rw [Hx.out]; decide)]
        have E1 := Lib.hid e1
        clear e1
        go_wp2_with (first | (go_at_call 68; refine (next_any _ _ _ hs).mono ?_; rintro e w' ⟨rfl, rfl⟩) | (go_at_call 91; refine (hex_any _ _).mono ?_; rintro e w' ⟨rfl, rfl⟩; rw [Hx.out]) | (go_at_call 31; refine (valid_any _ _).mono ?_; rintro e w' ⟨rfl, rfl⟩))
        all_goals
          go_ret3
          refine ⟨r, ret_val (by rw [E1.out, pointEnd]; (first | rw [decide_eq_true (by omega)] | rw [decide_eq_false (by omega)]); rfl), fun _ => by rw [E1.out, pointEnd], rfl⟩
  · have H43 : Hid (((B s (p + 1) : Int) != 43) = true) := by
      show _ = _
      rw [bne_iff_ne]; omega
    have e1 : pointN s p = (0, p + 1, false) := by rw [pointN, if_neg h43]
    have E1 := Lib.hid e1
    clear h43 e1
    go_enter Tryd.func65, Tryd.ntmps65
    have h43 := H43.out
    go_wp2_with (go_at_call 68; refine (next_any _ (p + 1) _ hs).mono ?_; rintro e w' ⟨rfl, rfl⟩)
    go_ret3
    exact ⟨0, ret_val (by rw [E1.out]; rfl), fun _ => by rw [E1.out], rfl⟩
end Go.Proofs.YtpdaciljdcfikaaDoor
