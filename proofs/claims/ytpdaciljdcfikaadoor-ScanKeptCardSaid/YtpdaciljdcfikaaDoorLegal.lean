/- scan.Legal walked. -/
import Derived.Test.YtpdaciljdcfikaaDoorLexSteps
import Derived.Test.YtpdaciljdcfikaaDoorLexBroken
import Derived.Test.YtpdaciljdcfikaaDoorScanSmall
namespace Go.Proofs.YtpdaciljdcfikaaDoor
open Go.RowKit Go.Shelf Go.Lib
set_option linter.unusedVariables false
set_option linter.unusedSimpArgs false

theorem dec_high {s : ByteArray} {i : Nat} (h : 128 ≤ B s i) : 128 ≤ (Utf8.decode s i).1 := by
  rw [dec_eq]
  rcases decodeN_cases (s.size - i) (B s i) (B s (i + 1)) (B s (i + 2)) (B s (i + 3)) (B_lt _ _) (B_lt _ _) (B_lt _ _) (B_lt _ _) with ⟨h1, e⟩ | ⟨h1, h2, e⟩ | ⟨h1, h2, e⟩ | ⟨h1, h2, e⟩ | ⟨h1, h2, h3, h4, e⟩
  · omega
  · rw [e]; unfold Seq at h2; simp only []; omega
  · rw [e]; unfold Seq at h2; simp only []; omega
  · rw [e]; unfold Seq at h2; simp only []; omega
  · rw [e]; simp
/-- Is a text a name? -/
def legalB (s : ByteArray) : Bool := decide (1 ≤ s.size ∧ s.size ≤ 32 ∧ smallB (B s 0) = true ∧ ∀ i, i < s.size → nameB (B s i) = true)
def illegalR (r : Nat) : Bool := decide (127 < r) || !nameB r
theorem idx_names (s : ByteArray) : ∀ f i, s.size ≤ i + f → (idxFuncFrom illegalR true s f i < 0 ↔ ∀ j, i ≤ j → j < s.size → nameB (B s j) = true) := by
  intro f
  induction f with
  | zero => intro i h; constructor
            · intro _ j h1 h2; omega
            · intro _; show (-1 : Int) < 0; decide
  | succ f ih =>
    intro i h
    rw [idxFuncFrom]
    by_cases hi : i < s.size
    · rw [if_pos hi]
      by_cases hb : B s i < 128
      · rw [dec_ascii hb]
        by_cases hn : nameB (B s i) = true
        · have hp : illegalR (B s i) = false := by simp [illegalR, hn]; omega
          simp only [hp, Bool.false_eq_true, if_false]
          rw [ih (i + 1) (by omega)]
          constructor
          · intro h1 j h2 h3
            by_cases e : j = i
            · rw [e]; exact hn
            · exact h1 j (by omega) h3
          · intro h1 j h2 h3; exact h1 j (by omega) h3
        · have hp : illegalR (B s i) = true := by simp [illegalR, hn]
          simp only [hp, if_true]
          constructor
          · intro h1; omega
          · intro h1; exact absurd (h1 i (Nat.le_refl _) hi) hn
      · have hd := dec_high (s := s) (i := i) (by omega)
        have hp : illegalR (Utf8.decode s i).1 = true := by simp [illegalR]; omega
        simp only [hp, if_true]
        constructor
        · intro h1; omega
        · intro h1
          have := (nameB_iff _).1 (h1 i (Nat.le_refl _) hi)
          omega
    · rw [if_neg hi]
      constructor
      · intro _ j h1 h2; omega
      · intro _; decide
theorem closure_any (x : Nat) (hx : x ≤ 1114111) (w : World) :
    Calls Tryd.prog 38 #[.int .i32 x] w fun e w' => e = .returned (.bool (illegalR x)) ∧ w = w' := by
  by_cases hbig : 127 < x
  · have hr : illegalR x = true := by simp [illegalR]; omega
    have hd1 : decide (127 < (x : Int)) = true := by rw [decide_eq_true_iff]; omega
    have Hr := Lib.hid hr
    clear hr
    go_enter Tryd.func38, Tryd.ntmps38
    go_wp2_with fail
    go_ret
    exact ⟨ret_bool Hr.out.symm, rfl⟩
  · have hd1 : decide (127 < (x : Int)) = false := by rw [decide_eq_false_iff_not]; omega
    have hw : IntKind.u8.wrap (x : Int) = (x : Int) := by simp [IntKind.wrap, IntKind.signed, IntKind.bits]; omega
    have hs := fun W => small_any x W
    have hg := fun W => digit_any x W
    have hr : illegalR x = !nameB x := by simp [illegalR, hbig]
    have Hr := Lib.hid hr
    have Hs := Lib.hid hs
    have Hg := Lib.hid hg
    clear hr hs hg
    cases hs1 : smallB x with
    | true =>
      have hn : nameB x = true := by simp [nameB, hs1]
      have Hn := Lib.hid hn
      clear hn
      rw [hs1] at Hs
      go_enter Tryd.func38, Tryd.ntmps38
      go_wp2_with fail
      refine (Hs.out _).mono ?_
      rintro e w' ⟨rfl, rfl⟩
      go_wp2_with fail
      go_ret
      exact ⟨ret_bool (by rw [Hr.out, Hn.out]; rfl), rfl⟩
    | false =>
      rw [hs1] at Hs
      cases hd : digitB x with
      | true =>
        have hn : nameB x = true := by simp [nameB, hs1, hd]
        have Hn := Lib.hid hn
        clear hn
        rw [hd] at Hg
        go_enter Tryd.func38, Tryd.ntmps38
        go_wp2_with fail
        refine (Hs.out _).mono ?_
        rintro e w' ⟨rfl, rfl⟩
        go_wp2_with fail
        refine (Hg.out _).mono ?_
        rintro e w' ⟨rfl, rfl⟩
        go_wp2_with fail
        go_ret
        exact ⟨ret_bool (by rw [Hr.out, Hn.out]; rfl), rfl⟩
      | false =>
        have hn : nameB x = (x == 45) := by simp [nameB, hs1, hd]
        have Hn := Lib.hid hn
        clear hn
        rw [hd] at Hg
        go_enter Tryd.func38, Tryd.ntmps38
        go_wp2_with fail
        refine (Hs.out _).mono ?_
        rintro e w' ⟨rfl, rfl⟩
        go_wp2_with fail
        refine (Hg.out _).mono ?_
        rintro e w' ⟨rfl, rfl⟩
        go_wp2_with fail
        go_ret
        refine ⟨ret_bool ?_, rfl⟩
        rw [Hr.out, Hn.out]
        rw [bne]
        congr 1
        rw [Bool.eq_iff_iff]; simp; omega

theorem legal_false {s : ByteArray} (h : ¬ (1 ≤ s.size ∧ s.size ≤ 32 ∧ smallB (B s 0) = true)) : legalB s = false := by
  unfold legalB
  rw [decide_eq_false_iff_not]
  rintro ⟨h1, h2, h3, _⟩
  exact h ⟨h1, h2, h3⟩
theorem legal_true {s : ByteArray} (h : 1 ≤ s.size ∧ s.size ≤ 32 ∧ smallB (B s 0) = true) : legalB s = decide (idxFunc illegalR true s < 0) := by
  unfold legalB idxFunc
  rw [Bool.eq_iff_iff, decide_eq_true_iff, decide_eq_true_iff, idx_names s s.size 0 (by omega)]
  constructor
  · rintro ⟨_, _, _, h4⟩ j _ hj; exact h4 j hj
  · intro h4; exact ⟨h.1, h.2.1, h.2.2, fun i hi => h4 i (Nat.zero_le _) hi⟩

set_option maxRecDepth 100000 in
set_option maxHeartbeats 4000000 in
theorem legal_any (s : ByteArray) (w : World) (hs : s.size ≤ 140737488351232) :
    Calls Tryd.prog 20 #[.string s] w fun e w' => e = .returned (.bool (legalB s)) ∧ Below w.heap.size w w' := by
  have hidx := fun W => Tryd.strings_IndexFunc_grows 38 #[] (enters_of Tryd.func38 (by kernel_rfl) rfl) illegalR s W (fun W' x hx _ => (closure_any x hx W').mono fun _ _ ⟨h1, h2⟩ => ⟨h1, h2 ▸ Below.refl _ _⟩)
  by_cases h0 : s.size = 0
  · have hl := legal_false (s := s) (by omega)
    obtain rfl : s = ⟨#[]⟩ := by
      cases s with | mk d => 
      congr 1
      exact Array.eq_empty_of_size_eq_zero h0
    have Hl := Lib.hid hl
    clear hl hidx h0 hs
    go_enter Tryd.func20, Tryd.ntmps20
    go_wp2_with fail
    go_ret
    exact ⟨ret_bool Hl.out.symm, Below.refl _ _⟩
  · have hne' : ¬ s.toList = [] := by
      rw [ByteArray.toList_eq]
      intro e
      apply h0
      show s.data.size = 0
      rw [← Array.length_toList, e]; rfl
    have hne : s.toList.isEmpty = false := by rw [List.isEmpty_eq_false_iff]; exact hne'
    by_cases h32 : 32 < s.size
    · have hd : decide (32 < (s.size : Int)) = true := by rw [decide_eq_true_iff]; omega
      have Hl := Lib.hid (legal_false (s := s) (by omega))
      clear hidx
      go_enter Tryd.func20, Tryd.ntmps20
      go_wp2_with fail
      go_ret
      exact ⟨ret_bool Hl.out.symm, Below.refl _ _⟩
    · have hd : decide (32 < (s.size : Int)) = false := by rw [decide_eq_false_iff_not]; omega
      have hlt : 0 < s.size := by omega
      have hsm := fun W => small_any (s[0]'hlt).toNat W
      rw [← B_at hlt] at hsm
      have HB := Lib.hid (B_at hlt)
      cases hsb : smallB (B s 0) with
      | false =>
        have Hl := Lib.hid (legal_false (s := s) (by rw [hsb]; simp))
        rw [hsb, HB.out] at hsm
        have Hsm := Lib.hid hsm
        clear hsm hidx
        go_enter Tryd.func20, Tryd.ntmps20
        go_wp2_with fail
        refine (Hsm.out _).mono ?_
        rintro e w' ⟨rfl, rfl⟩
        go_wp2_with fail
        go_ret
        exact ⟨ret_bool Hl.out.symm, Below.refl _ _⟩
      | true =>
        have Hl := Lib.hid (legal_true (s := s) ⟨by omega, by omega, hsb⟩)
        rw [hsb, HB.out] at hsm
        have Hsm := Lib.hid hsm
        have Hidx := Lib.hid hidx
        clear hsm hidx
        go_enter Tryd.func20, Tryd.ntmps20
        go_wp2_with fail
        refine (Hsm.out _).mono ?_
        rintro e w' ⟨rfl, rfl⟩
        go_wp2_with fail
        refine (Hidx.out _).mono ?_
        rintro e w' ⟨rfl, hB⟩
        generalize idxFunc illegalR true s = I at *
        go_wp2_with fail
        go_ret
        exact ⟨ret_bool Hl.out.symm, hB⟩
end Go.Proofs.YtpdaciljdcfikaaDoor
