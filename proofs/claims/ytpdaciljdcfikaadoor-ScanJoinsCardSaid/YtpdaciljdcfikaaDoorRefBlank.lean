/- guiseref4.blank walked. -/
import Derived.Test.YtpdaciljdcfikaaDoorRefSeq
import Derived.Test.YtpdaciljdcfikaaDoorLexRef
import Derived.Test.YtpdaciljdcfikaaDoorLexBound
namespace Go.Proofs.YtpdaciljdcfikaaDoor
open Go.RowKit Go.Shelf
set_option linter.unusedVariables false
set_option linter.unusedSimpArgs false

theorem bs_bad' {s : ByteArray} {p i q : Nat} (h : BState s p true i) (hi : i < s.size) (g : goodAt s i = false) (e : seqT s i = (0, q, false)) : ∀ f l, s.size - p ≤ f → lexGo s f p l = (l, some q) := by
  rw [seqT_eq hi, g, if_neg (by decide)] at e
  have e2 : wrongAt s i = q := by simpa using e
  rw [← e2]
  exact bs_bad h hi g

set_option maxHeartbeats 3000000 in
set_option maxRecDepth 100000 in
theorem rblank_any (s : ByteArray) (p : Nat) (w : World) (hs : s.size ≤ 1000000) (hp : p ≤ s.size) :
    Calls Tryd.prog 44 #[.string s, .int .i64 p] w fun e w' => ∃ (q : Nat) (ok : Bool), e = .returned (.tuple #[.int .i64 q, .bool ok]) ∧ BPost s p q ok ∧ w = w' := by
  go_enter Tryd.func44, Tryd.ntmps44
  go_wp2_with fail
  go_loop [1, 6] (fun v1 v6 => ∃ (i : Nat) (rm : Bool), v1 = .int .i64 i ∧ v6 = .bool rm ∧ i ≤ s.size ∧ p ≤ i ∧ Hid (BState s p rm i)) (fun v1 _ => s.size - (intOf v1).toNat)
  case atStart => exact ⟨p, false, rfl, rfl, hp, Nat.le_refl _, Lib.hid (bs_start s p)⟩
  case round =>
    obtain ⟨i, rm, rfl, rfl, hi, hpi, Hb⟩ := hrel
    by_cases hlt : i < s.size
    · have d1 : decide ((i : Int) < (s.size : Int)) = true := by rw [decide_eq_true_iff]; omega
      have HB := Lib.hid (B_at hlt)
      have hw4 := dec_width s i
      have hfit := dec_fits hlt
      cases rm with
      | true =>
        have E := Lib.hid (seqT_eq hlt)
        have hwr := wrongAt_le hlt
        cases hg : goodAt s i with
        | false =>
          rw [hg, if_neg (by decide)] at E
          have Hg := Lib.hid hg
          clear hg
          generalize wrongAt s i = q at *
          go_wp2_with fail
          refine (sequence_any s i _ (by omega) (by omega)).mono ?_
          rintro e w' ⟨rfl, hw'⟩
          obtain rfl : w = w' := hw'
          rw [E.out]
          go_wp2_with fail
          go_ret2
          have hP : BPost s p q false := ⟨hwr.1, by omega, fun h => (by cases h), fun _ => bs_bad' Hb.out hlt Hg.out E.out⟩
          first | exact ⟨q, false, rfl, hP, rfl⟩ | exact ⟨q, Or.inl ⟨rfl, hP, rfl⟩⟩
        | true =>
          rw [hg, if_pos rfl] at E
          have Hg := Lib.hid hg
          have hgo := bs_good Hb.out hlt hg
          have hnl := bs_nl Hb.out hlt
          have hd10 : B s i = 10 → (Utf8.decode s i).2 = 1 := fun e => by rw [dec_ascii (by omega)]
          clear hg
          generalize (Utf8.decode s i).1 = R at *
          generalize (Utf8.decode s i).2 = K at *
          have Hgo := Lib.hid hgo
          have Hnl := Lib.hid hnl
          clear hgo hnl hwr
          by_cases h10 : B s i = 10
          · have hK := hd10 h10
            subst hK
            have hn := Lib.hid (Hnl.out h10)
            rw [HB.out] at h10
            have d2 : ((((s[i]'hlt).toNat : Nat) : Int) != 10) = false := by rw [h10]; rfl
            clear hd10 h10
            go_wp2_with fail
            refine (sequence_any s i _ (by omega) (by omega)).mono ?_
            rintro e w' ⟨rfl, hw'⟩
            obtain rfl : w = w' := hw'
            rw [E.out]
            go_wp2_with fail
            exact ⟨⟨i + 1, false, by go_num, rfl, by omega, by omega, hn⟩, by simp [intOf]; omega⟩
          · have hn := Lib.hid (Hgo.out h10)
            rw [HB.out] at h10
            have d2 : ((((s[i]'hlt).toNat : Nat) : Int) != 10) = true := by rw [bne_iff_ne]; omega
            clear hd10 h10
            go_wp2_with fail
            refine (sequence_any s i _ (by omega) (by omega)).mono ?_
            rintro e w' ⟨rfl, hw'⟩
            obtain rfl : w = w' := hw'
            rw [E.out]
            go_wp2_with fail
            exact ⟨⟨i + K, true, by go_num, rfl, by omega, by omega, hn⟩, by simp [intOf]; omega⟩
      | false =>
        have hc := UInt8.toNat_lt (s[i]'hlt)
        by_cases hbl : B s i = 9 ∨ B s i = 10 ∨ B s i = 13 ∨ B s i = 32
        · have hn := Lib.hid (bs_blank Hb.out hlt ((blankB_iff _).2 (by omega)))
          rw [HB.out] at hbl
          rcases hbl with h | h | h | h
          all_goals
            have q1 : ((((s[i]'hlt).toNat : Nat) : Int) == 35) = false := by rw [h]; rfl
          · have d2 : ((((s[i]'hlt).toNat : Nat) : Int) != 9) = false := by rw [h]; rfl
            clear h
            go_wp2_with fail
            exact ⟨⟨i + 1, false, by go_num, rfl, by omega, by omega, hn⟩, by simp [intOf]; omega⟩
          · have d1 : ((((s[i]'hlt).toNat : Nat) : Int) != 9) = true := by rw [h]; rfl
            have d2 : ((((s[i]'hlt).toNat : Nat) : Int) != 10) = false := by rw [h]; rfl
            clear h
            go_wp2_with fail
            exact ⟨⟨i + 1, false, by go_num, rfl, by omega, by omega, hn⟩, by simp [intOf]; omega⟩
          · have d1 : ((((s[i]'hlt).toNat : Nat) : Int) != 9) = true := by rw [h]; rfl
            have d2 : ((((s[i]'hlt).toNat : Nat) : Int) != 10) = true := by rw [h]; rfl
            have d3 : ((((s[i]'hlt).toNat : Nat) : Int) != 13) = false := by rw [h]; rfl
            clear h
            go_wp2_with fail
            exact ⟨⟨i + 1, false, by go_num, rfl, by omega, by omega, hn⟩, by simp [intOf]; omega⟩
          · have d1 : ((((s[i]'hlt).toNat : Nat) : Int) != 9) = true := by rw [h]; rfl
            have d2 : ((((s[i]'hlt).toNat : Nat) : Int) != 10) = true := by rw [h]; rfl
            have d3 : ((((s[i]'hlt).toNat : Nat) : Int) != 13) = true := by rw [h]; rfl
            have d4 : ((((s[i]'hlt).toNat : Nat) : Int) != 32) = false := by rw [h]; rfl
            clear h
            go_wp2_with fail
            exact ⟨⟨i + 1, false, by go_num, rfl, by omega, by omega, hn⟩, by simp [intOf]; omega⟩
        · have hb0 := HB.out
          have d1 : ((((s[i]'hlt).toNat : Nat) : Int) != 9) = true := by rw [bne_iff_ne]; omega
          have d2 : ((((s[i]'hlt).toNat : Nat) : Int) != 10) = true := by rw [bne_iff_ne]; omega
          have d3 : ((((s[i]'hlt).toNat : Nat) : Int) != 13) = true := by rw [bne_iff_ne]; omega
          have d4 : ((((s[i]'hlt).toNat : Nat) : Int) != 32) = true := by rw [bne_iff_ne]; omega
          by_cases h35 : B s i = 35
          · have hn := Lib.hid (bs_hash Hb.out hlt h35)
            rw [hb0] at h35
            have d5 : ((((s[i]'hlt).toNat : Nat) : Int) != 35) = false := by rw [h35]; rfl
            have d6 : ((((s[i]'hlt).toNat : Nat) : Int) == 35) = true := by rw [h35]; rfl
            clear h35 hb0 hbl
            go_wp2_with fail
            exact ⟨⟨i + 1, true, by go_num, rfl, by omega, by omega, hn⟩, by simp [intOf]; omega⟩
          · have Hno : Hid (¬ (B s i = 32 ∨ B s i = 9 ∨ B s i = 10 ∨ B s i = 13) ∧ ¬ B s i = 35) := Lib.hid ⟨by omega, h35⟩
            have d5 : ((((s[i]'hlt).toNat : Nat) : Int) != 35) = true := by rw [bne_iff_ne]; omega
            clear h35 hb0 hbl
            go_wp2_with fail
            go_ret2
            have hP : BPost s p i true := ⟨hi, hpi, fun _ => ⟨fun _ => Hno.out, Hb.out⟩, fun h => (by cases h)⟩
            first | exact ⟨i, true, rfl, hP, rfl⟩ | exact ⟨i, Or.inr ⟨rfl, hP, rfl⟩⟩
    · have d1 : decide ((i : Int) < (s.size : Int)) = false := by rw [decide_eq_false_iff_not]; omega
      go_wp2_with fail
      go_ret2
      have hP : BPost s p i true := ⟨hi, hpi, fun _ => ⟨fun h => absurd h hlt, bs_end Hb.out (by omega)⟩, fun h => (by cases h)⟩
      first | exact ⟨i, true, rfl, hP, rfl⟩ | exact ⟨i, Or.inr ⟨rfl, hP, rfl⟩⟩
end Go.Proofs.YtpdaciljdcfikaaDoor
