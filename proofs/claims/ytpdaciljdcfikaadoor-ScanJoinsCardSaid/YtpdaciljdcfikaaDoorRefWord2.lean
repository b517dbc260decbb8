/- guiseref4.word walked: numbers, runes, signs (printed by gen_word.py). -/
import Derived.Test.YtpdaciljdcfikaaDoorRefWord
namespace Go.Proofs.YtpdaciljdcfikaaDoor
open Go.RowKit Go.Shelf
set_option linter.unusedVariables false
set_option linter.unusedSimpArgs false

theorem sign_grown {c : Nat} (h : ¬ signN c = 0) : grownB c = false := by
  have hk : c = 123 ∨ c = 125 ∨ c = 59 ∨ c = 61 ∨ c = 43 := by
    unfold signN at h; repeat' split at h
    all_goals first | omega | exact absurd rfl h
  rcases hk with rfl | rfl | rfl | rfl | rfl <;> rfl
/-- The sign that was found among the first i signs. -/
def signTo (c i : Nat) : Nat := if signN c = 0 then 0 else if signN c - 4 < i then signN c else 0
theorem sign_to (c : Nat) : signTo c 0 = 0 ∧ signTo c 5 = signN c := by
  have hk : signN c = 0 ∨ (4 ≤ signN c ∧ signN c ≤ 8) := by
    unfold signN; repeat' split
    all_goals omega
  unfold signTo
  constructor
  · split
    · rfl
    · rw [if_neg (by omega)]
  · split
    · omega
    · rw [if_pos (by omega)]
theorem sign_at {c i : Nat} (h : i < 5) : signTo c (i + 1) = if c = (if i = 0 then 123 else if i = 1 then 125 else if i = 2 then 59 else if i = 3 then 61 else 43) then 4 + i else signTo c i := by
  unfold signTo signN
  repeat' split
  all_goals omega
theorem pointGo_ok (s : ByteArray) (p : Nat) : ∀ f i r, (pointGo s p f i r).2.2 = true → 6 ≤ (pointGo s p f i r).2.1 - p := by
  intro f
  induction f with
  | zero => intro i r h; simp only [pointGo, pointEnd, Bool.and_eq_true, decide_eq_true_eq] at h ⊢; exact h.1
  | succ f ih =>
    intro i r h
    rw [pointGo] at h ⊢
    split
    · rename_i c
      rw [if_pos c] at h
      split
      · rename_i c2; rw [if_pos c2] at h; cases h
      · rename_i c2; rw [if_neg c2] at h; exact ih _ _ h
    · rename_i c
      rw [if_neg c] at h
      simp only [pointEnd, Bool.and_eq_true, decide_eq_true_eq] at h ⊢; exact h.1
theorem pointN_end {s : ByteArray} {p : Nat} (hp : p < s.size) (h : B s p = 85) : p < (pointN s p).2.1 ∧ (pointN s p).2.1 ≤ s.size ∧ ((pointN s p).2.2 = true → hexB (B s ((pointN s p).2.1 - 1)) = true) := by
  have h0 := pointN_spec hp h
  refine ⟨h0.1, h0.2.1, ?_⟩
  unfold pointN
  by_cases h43 : B s (p + 1) = 43
  · have hlt : p + 1 < s.size := by
      by_cases c : p + 1 < s.size
      · exact c
      · rw [B_out (by omega)] at h43; omega
    rw [if_pos h43]
    obtain ⟨a, b, c⟩ := pointGo_spec s p (s.size - (p + 2)) (p + 2) 0 (by omega)
    intro hok
    have h6 := pointGo_ok s p _ _ _ hok
    exact c _ (by omega) (by omega)
  · rw [if_neg h43]; intro e; cases e
theorem quoted_last {s : ByteArray} {p : Nat} (hp : p < s.size) : (quotedN s p).2.2 = true → 1 ≤ (quotedN s p).2.1 ∧ B s ((quotedN s p).2.1 - 1) = 39 := by
  unfold quotedN
  repeat' split
  all_goals first | (intro _; exact ⟨by simp only []; omega, by simp only [Nat.add_sub_cancel]; assumption⟩) | (intro e; cases e)

set_option maxHeartbeats 4000000 in
set_option maxRecDepth 100000 in
theorem rword_number (s : ByteArray) (p : Nat) (w : World) (hs : s.size ≤ 1000000) (hp : p < s.size) (hc : digitB (B s p) = true) :
    Calls Tryd.prog 45 #[.string s, .int .i64 p] w (RWPost s p w) := by
  have HB := Lib.hid (B_at hp)
  have hd := (digitB_iff _).1 hc
  have hb := HB.out
  have Hsp := numberN_spec hp hc
  have hwd := word_number hc
  have hnum := fun W => rnumber_any s p W (by omega) (by omega)
  have Hdg2 : Hid (digitB (s[p]'hp).toNat = true) := Lib.hid (by rw [← hb]; exact hc)
  have Hsm2 : Hid (smallB (s[p]'hp).toNat = false) := Lib.hid (false_of (smallB_iff _) (by omega))
  have h39 : (((s[p]'hp).toNat : Int) != 39) = true := by rw [bne_iff_ne]; omega
  rcases hN : numberN s p with ⟨n, q, ok⟩
  simp only [hN] at hwd hnum Hsp
  obtain ⟨hpq, hqs, hall⟩ := Hsp
  have hl := hall (q - 1) (by omega) (by omega)
  have hil : q - 1 < s.size := by omega
  have Hlast : Hid (grownB ((s[q - 1]'hil).toNat) = true) := Lib.hid (by
    rw [← B_at hil]
    have h1 := (digitB_iff _).1 hl
    exact (grownB_iff _).2 (by omega))
  have Hnum := Lib.hid hnum
  have hlt16 : n ≤ 65535 ∨ True := Or.inr trivial
  clear hc hd hb hnum hN hall hl hlt16
  go_enter Tryd.func45, Tryd.ntmps45
  go_wp2_with (first | (go_at_call 70; refine (rsmall_any _ _).mono ?_; rintro e w' ⟨rfl, rfl⟩; rw [Hsm2.out]) | (go_at_call 71; refine (rdigit_any _ _).mono ?_; rintro e w' ⟨rfl, rfl⟩; rw [Hdg2.out]))
  have bR := (Blk.new' w #[.int .i64 0, .string { data := #[] }, .int .i32 0, .int .i64 0, .int .i64 0, .int .i64 0] 59).alloc (.cells #[.int .i64 2, .string { data := #[] }, .int .i32 0, .int .i64 0, .int .i64 p, .int .i64 0] 59)
  have bW := Blk.new' (w.alloc (.cells #[.int .i64 0, .string { data := #[] }, .int .i32 0, .int .i64 0, .int .i64 0, .int .i64 0] 59)) #[.int .i64 2, .string { data := #[] }, .int .i32 0, .int .i64 0, .int .i64 p, .int .i64 0] 59
  rw [World.size_alloc] at bW
  have hB : Below w.heap.size w ((w.alloc (.cells #[.int .i64 0, .string { data := #[] }, .int .i32 0, .int .i64 0, .int .i64 0, .int .i64 0] 59)).alloc (.cells #[.int .i64 2, .string { data := #[] }, .int .i32 0, .int .i64 0, .int .i64 p, .int .i64 0] 59)) := ((Below.refl _ w).alloc (Nat.le_refl _) _).alloc (by simp) _
  generalize (w.alloc (.cells #[.int .i64 0, .string { data := #[] }, .int .i32 0, .int .i64 0, .int .i64 0, .int .i64 0] 59)).alloc (.cells #[.int .i64 2, .string { data := #[] }, .int .i32 0, .int .i64 0, .int .i64 p, .int .i64 0] 59) = W1 at *
  have bR0 := bR.cell 0
  have bRf0 := bR.frozen 0
  have bR1 := bR.cell 1
  have bRf1 := bR.frozen 1
  have bR2 := bR.cell 2
  have bRf2 := bR.frozen 2
  have bR3 := bR.cell 3
  have bRf3 := bR.frozen 3
  have bR4 := bR.cell 4
  have bRf4 := bR.frozen 4
  have bR5 := bR.cell 5
  have bRf5 := bR.frozen 5
  have bW0 := bW.cell 0
  have bWf0 := bW.frozen 0
  have bW1 := bW.cell 1
  have bWf1 := bW.frozen 1
  have bW2 := bW.cell 2
  have bWf2 := bW.frozen 2
  have bW3 := bW.cell 3
  have bWf3 := bW.frozen 3
  have bW4 := bW.cell 4
  have bWf4 := bW.frozen 4
  have bW5 := bW.cell 5
  have bWf5 := bW.frozen 5
  refine Calls.mono (Hnum.out _) ?_
  rintro e w' ⟨rfl, rfl⟩
  cases ok with
  | false =>
    have hbad : Hid (wordN s p = (⟨0, 0, 0, ByteArray.empty, 0, 0⟩, q, false)) := Lib.hid hwd
    clear hwd
    go_wp2_with fail
    have b6 := (((((((bR.other (p := ⟨w.heap.size + 1, 3, none⟩) (by simp) (.int .i64 n)).set 0 (.int .i64 0)).set 1 (.string { data := #[] })).set 2 (.int .i32 0)).set 3 (.int .i64 0)).set 4 (.int .i64 0)).set 5 (.int .i64 0))
    have z0 := b6.cell 0
    have z1 := b6.cell 1
    have z2 := b6.cell 2
    have z3 := b6.cell 3
    have z4 := b6.cell 4
    have z5 := b6.cell 5
    refine bodyPost_ret (v := .tuple #[.agg #[.int .i64 0, .string { data := #[] }, .int .i32 0, .int .i64 0, .int .i64 0, .int .i64 0], .int .i64 q, .bool false]) (by simp [results, Tryd.results45, go_sem, z0, z1, z2, z3, z4, z5]) rfl ?_
    exact rw_bad 0 { data := #[] } 0 0 0 0 hbad.out ((((((((hB.setCell (p := ⟨w.heap.size + 1, 3, none⟩) (by simp) _).setCell (p := ⟨w.heap.size, 0, none⟩) (by simp) _).setCell (p := ⟨w.heap.size, 1, none⟩) (by simp) _).setCell (p := ⟨w.heap.size, 2, none⟩) (by simp) _).setCell (p := ⟨w.heap.size, 3, none⟩) (by simp) _).setCell (p := ⟨w.heap.size, 4, none⟩) (by simp) _).setCell (p := ⟨w.heap.size, 5, none⟩) (by simp) _))
  | true =>
    have HW : Hid (wordN s p = apartN s ⟨2, p, q, ByteArray.empty, 0, n⟩ q) := Lib.hid hwd
    clear hwd
    go_wp2_with fail
    have bWx := (bW.set 3 (.int .i64 n))
    have bRx := (bR.other (p := ⟨w.heap.size + 1, 3, none⟩) (by simp) (.int .i64 n))
    have hBx := (hB.setCell (p := ⟨w.heap.size + 1, 3, none⟩) (by simp) (.int .i64 n))
    simp only [List.set] at bWx
    clear bW bR hB bR0 bRf0 bW0 bWf0 bR1 bRf1 bW1 bWf1 bR2 bRf2 bW2 bWf2 bR3 bRf3 bW3 bWf3 bR4 bRf4 bW4 bWf4 bR5 bRf5 bW5 bWf5
    generalize (W1.setCell ⟨w.heap.size + 1, 3, none⟩ (.int .i64 n)) = W2 at *
    have bRx0 := bRx.cell 0
    have bRxf0 := bRx.frozen 0
    have bRx1 := bRx.cell 1
    have bRxf1 := bRx.frozen 1
    have bRx2 := bRx.cell 2
    have bRxf2 := bRx.frozen 2
    have bRx3 := bRx.cell 3
    have bRxf3 := bRx.frozen 3
    have bRx4 := bRx.cell 4
    have bRxf4 := bRx.frozen 4
    have bRx5 := bRx.cell 5
    have bRxf5 := bRx.frozen 5
    have bWx0 := bWx.cell 0
    have bWxf0 := bWx.frozen 0
    have bWx1 := bWx.cell 1
    have bWxf1 := bWx.frozen 1
    have bWx2 := bWx.cell 2
    have bWxf2 := bWx.frozen 2
    have bWx3 := bWx.cell 3
    have bWxf3 := bWx.frozen 3
    have bWx4 := bWx.cell 4
    have bWxf4 := bWx.frozen 4
    have bWx5 := bWx.cell 5
    have bWxf5 := bWx.frozen 5
    refine (rclose_any _ _).mono ?_
    rintro e w' ⟨rfl, rfl⟩
    rw [Hlast.out]
    by_cases hlt : q < s.size
    · have Hbi := Lib.hid (B_at hlt)
      cases hgr : grownB (B s q) with
      | true =>
        have Hgr := Lib.hid hgr
        have Hgr2 : Hid (grownB (s[q]'hlt).toNat = true) := Lib.hid (by rw [← Hbi.out]; exact hgr)
        have hbad : Hid (wordN s p = (⟨2, p, q, ByteArray.empty, 0, n⟩, q, false)) := Lib.hid (by rw [HW.out, apartN, Hgr.out]; rfl)
        clear hgr
        go_wp2_with (go_at_call 75; refine (rclose_any _ _).mono ?_; rintro e w' ⟨rfl, rfl⟩; rw [Hgr2.out])
        have b6 := ((((((bRx.set 0 (.int .i64 0)).set 1 (.string { data := #[] })).set 2 (.int .i32 0)).set 3 (.int .i64 0)).set 4 (.int .i64 0)).set 5 (.int .i64 0))
        have z0 := b6.cell 0
        have z1 := b6.cell 1
        have z2 := b6.cell 2
        have z3 := b6.cell 3
        have z4 := b6.cell 4
        have z5 := b6.cell 5
        refine bodyPost_ret (v := .tuple #[.agg #[.int .i64 0, .string { data := #[] }, .int .i32 0, .int .i64 0, .int .i64 0, .int .i64 0], .int .i64 q, .bool false]) (by simp [results, Tryd.results45, go_sem, z0, z1, z2, z3, z4, z5]) rfl ?_
        exact rw_bad 0 { data := #[] } 0 0 0 0 hbad.out (((((((hBx.setCell (p := ⟨w.heap.size, 0, none⟩) (by simp) _).setCell (p := ⟨w.heap.size, 1, none⟩) (by simp) _).setCell (p := ⟨w.heap.size, 2, none⟩) (by simp) _).setCell (p := ⟨w.heap.size, 3, none⟩) (by simp) _).setCell (p := ⟨w.heap.size, 4, none⟩) (by simp) _).setCell (p := ⟨w.heap.size, 5, none⟩) (by simp) _))
      | false =>
        have Hgr := Lib.hid hgr
        have Hgr2 : Hid (grownB (s[q]'hlt).toNat = false) := Lib.hid (by rw [← Hbi.out]; exact hgr)
        have hgood : Hid (wordN s p = (⟨2, p, q, ByteArray.empty, 0, n⟩, q, true)) := Lib.hid (by rw [HW.out, apartN, Hgr.out]; rfl)
        clear hgr
        go_wp2_with (go_at_call 75; refine (rclose_any _ _).mono ?_; rintro e w' ⟨rfl, rfl⟩; rw [Hgr2.out])
        have bRe := bRx.other (p := ⟨w.heap.size + 1, 5, none⟩) (by simp) (.int .i64 q)
        have b6 := ((((((bRe.set 0 (.int .i64 2)).set 1 (.string { data := #[] })).set 2 (.int .i32 0)).set 3 (.int .i64 n)).set 4 (.int .i64 p)).set 5 (.int .i64 q))
        have z0 := b6.cell 0
        have z1 := b6.cell 1
        have z2 := b6.cell 2
        have z3 := b6.cell 3
        have z4 := b6.cell 4
        have z5 := b6.cell 5
        refine bodyPost_ret (v := .tuple #[.agg #[.int .i64 2, .string { data := #[] }, .int .i32 0, .int .i64 n, .int .i64 p, .int .i64 q], .int .i64 q, .bool true]) (by simp [results, Tryd.results45, go_sem, z0, z1, z2, z3, z4, z5]) rfl ?_
        exact rw_good hgood.out ((((((((hBx.setCell (p := ⟨w.heap.size + 1, 5, none⟩) (by simp) _).setCell (p := ⟨w.heap.size, 0, none⟩) (by simp) _).setCell (p := ⟨w.heap.size, 1, none⟩) (by simp) _).setCell (p := ⟨w.heap.size, 2, none⟩) (by simp) _).setCell (p := ⟨w.heap.size, 3, none⟩) (by simp) _).setCell (p := ⟨w.heap.size, 4, none⟩) (by simp) _).setCell (p := ⟨w.heap.size, 5, none⟩) (by simp) _))
    · have hd1 : decide ((q : Int) < (s.size : Int)) = false := by rw [decide_eq_false_iff_not]; omega
      have hgood : Hid (wordN s p = (⟨2, p, q, ByteArray.empty, 0, n⟩, q, true)) := Lib.hid (by rw [HW.out, apartN, B_out (s := s) (i := q) (by omega)]; rfl)
      go_wp2_with fail
      have bRe := bRx.other (p := ⟨w.heap.size + 1, 5, none⟩) (by simp) (.int .i64 q)
      have b6 := ((((((bRe.set 0 (.int .i64 2)).set 1 (.string { data := #[] })).set 2 (.int .i32 0)).set 3 (.int .i64 n)).set 4 (.int .i64 p)).set 5 (.int .i64 q))
      have z0 := b6.cell 0
      have z1 := b6.cell 1
      have z2 := b6.cell 2
      have z3 := b6.cell 3
      have z4 := b6.cell 4
      have z5 := b6.cell 5
      refine bodyPost_ret (v := .tuple #[.agg #[.int .i64 2, .string { data := #[] }, .int .i32 0, .int .i64 n, .int .i64 p, .int .i64 q], .int .i64 q, .bool true]) (by simp [results, Tryd.results45, go_sem, z0, z1, z2, z3, z4, z5]) rfl ?_
      exact rw_good hgood.out ((((((((hBx.setCell (p := ⟨w.heap.size + 1, 5, none⟩) (by simp) _).setCell (p := ⟨w.heap.size, 0, none⟩) (by simp) _).setCell (p := ⟨w.heap.size, 1, none⟩) (by simp) _).setCell (p := ⟨w.heap.size, 2, none⟩) (by simp) _).setCell (p := ⟨w.heap.size, 3, none⟩) (by simp) _).setCell (p := ⟨w.heap.size, 4, none⟩) (by simp) _).setCell (p := ⟨w.heap.size, 5, none⟩) (by simp) _))
set_option maxHeartbeats 4000000 in
set_option maxRecDepth 100000 in
theorem rword_plus (s : ByteArray) (p : Nat) (w : World) (hs : s.size ≤ 1000000) (hp : p < s.size) (hc : B s p = 85) :
    Calls Tryd.prog 45 #[.string s, .int .i64 p] w (RWPost s p w) := by
  have HB := Lib.hid (B_at hp)
  have hb := HB.out
  have hsm := (show smallB (B s p) = false by rw [hc]; rfl)
  have hdg := (show digitB (B s p) = false by rw [hc]; rfl)
  have hwd := word_point hc
  have Hfn := Lib.hid (fun W => rplus_any s p W (by omega) (by omega))
  have Hsp := pointN_end hp hc
  have Hdg2 : Hid (digitB (s[p]'hp).toNat = false) := Lib.hid (by rw [← hb]; exact hdg)
  have Hsm2 : Hid (smallB (s[p]'hp).toNat = false) := Lib.hid (by rw [← hb]; exact hsm)
  have h85 : (((s[p]'hp).toNat : Int) == 85) = true := by rw [← hb, hc]; rfl
  have h39 : (((s[p]'hp).toNat : Int) != 39) = true := by rw [← hb, hc]; rfl
  rcases hN : pointN s p with ⟨r0, q, ok⟩
  simp only [hN] at hwd Hfn Hsp
  obtain ⟨hpq, hqs, hl⟩ := Hsp
  have hil : q - 1 < s.size := by omega
  have Hlast' : Hid (ok = true → grownB ((s[q - 1]'hil).toNat) = true) := Lib.hid (fun ho => by
    rw [← B_at hil]
    have h1 := (hexB_iff _).1 (hl ho)
    exact (grownB_iff _).2 (by omega))
  clear hc hb hsm hdg hN hl
  go_enter Tryd.func45, Tryd.ntmps45
  go_wp2_with (first | (go_at_call 70; refine (rsmall_any _ _).mono ?_; rintro e w' ⟨rfl, rfl⟩; rw [Hsm2.out]) | (go_at_call 71; refine (rdigit_any _ _).mono ?_; rintro e w' ⟨rfl, rfl⟩; rw [Hdg2.out]))
  have bR := (Blk.new' w #[.int .i64 0, .string { data := #[] }, .int .i32 0, .int .i64 0, .int .i64 0, .int .i64 0] 59).alloc (.cells #[.int .i64 3, .string { data := #[] }, .int .i32 0, .int .i64 0, .int .i64 p, .int .i64 0] 59)
  have bW := Blk.new' (w.alloc (.cells #[.int .i64 0, .string { data := #[] }, .int .i32 0, .int .i64 0, .int .i64 0, .int .i64 0] 59)) #[.int .i64 3, .string { data := #[] }, .int .i32 0, .int .i64 0, .int .i64 p, .int .i64 0] 59
  rw [World.size_alloc] at bW
  have hB : Below w.heap.size w ((w.alloc (.cells #[.int .i64 0, .string { data := #[] }, .int .i32 0, .int .i64 0, .int .i64 0, .int .i64 0] 59)).alloc (.cells #[.int .i64 3, .string { data := #[] }, .int .i32 0, .int .i64 0, .int .i64 p, .int .i64 0] 59)) := ((Below.refl _ w).alloc (Nat.le_refl _) _).alloc (by simp) _
  generalize (w.alloc (.cells #[.int .i64 0, .string { data := #[] }, .int .i32 0, .int .i64 0, .int .i64 0, .int .i64 0] 59)).alloc (.cells #[.int .i64 3, .string { data := #[] }, .int .i32 0, .int .i64 0, .int .i64 p, .int .i64 0] 59) = W1 at *
  have bR0 := bR.cell 0
  have bRf0 := bR.frozen 0
  have bR1 := bR.cell 1
  have bRf1 := bR.frozen 1
  have bR2 := bR.cell 2
  have bRf2 := bR.frozen 2
  have bR3 := bR.cell 3
  have bRf3 := bR.frozen 3
  have bR4 := bR.cell 4
  have bRf4 := bR.frozen 4
  have bR5 := bR.cell 5
  have bRf5 := bR.frozen 5
  have bW0 := bW.cell 0
  have bWf0 := bW.frozen 0
  have bW1 := bW.cell 1
  have bWf1 := bW.frozen 1
  have bW2 := bW.cell 2
  have bWf2 := bW.frozen 2
  have bW3 := bW.cell 3
  have bWf3 := bW.frozen 3
  have bW4 := bW.cell 4
  have bWf4 := bW.frozen 4
  have bW5 := bW.cell 5
  have bWf5 := bW.frozen 5
  refine Calls.mono (Hfn.out _) ?_
  rintro e w' ⟨r, rfl, Hr, rfl⟩
  have HR := Lib.hid Hr
  clear Hr
  cases ok with
  | false =>
    have hbad : Hid (wordN s p = (⟨0, 0, 0, ByteArray.empty, 0, 0⟩, q, false)) := Lib.hid hwd
    clear hwd
    go_wp2_with fail
    have b6 := (((((((bR.other (p := ⟨w.heap.size + 1, 2, none⟩) (by simp) (.int .i32 r)).set 0 (.int .i64 0)).set 1 (.string { data := #[] })).set 2 (.int .i32 0)).set 3 (.int .i64 0)).set 4 (.int .i64 0)).set 5 (.int .i64 0))
    have z0 := b6.cell 0
    have z1 := b6.cell 1
    have z2 := b6.cell 2
    have z3 := b6.cell 3
    have z4 := b6.cell 4
    have z5 := b6.cell 5
    refine bodyPost_ret (v := .tuple #[.agg #[.int .i64 0, .string { data := #[] }, .int .i32 0, .int .i64 0, .int .i64 0, .int .i64 0], .int .i64 q, .bool false]) (by simp [results, Tryd.results45, go_sem, z0, z1, z2, z3, z4, z5]) rfl ?_
    exact rw_bad 0 { data := #[] } 0 0 0 0 hbad.out ((((((((hB.setCell (p := ⟨w.heap.size + 1, 2, none⟩) (by simp) _).setCell (p := ⟨w.heap.size, 0, none⟩) (by simp) _).setCell (p := ⟨w.heap.size, 1, none⟩) (by simp) _).setCell (p := ⟨w.heap.size, 2, none⟩) (by simp) _).setCell (p := ⟨w.heap.size, 3, none⟩) (by simp) _).setCell (p := ⟨w.heap.size, 4, none⟩) (by simp) _).setCell (p := ⟨w.heap.size, 5, none⟩) (by simp) _))
  | true =>
    obtain rfl : r = r0 := HR.out rfl
    have Hlast := Lib.hid (Hlast'.out rfl)
    have HW : Hid (wordN s p = apartN s ⟨3, p, q, ByteArray.empty, r, 0⟩ q) := Lib.hid hwd
    clear hwd
    go_wp2_with fail
    have bWx := (bW.set 2 (.int .i32 r))
    have bRx := (bR.other (p := ⟨w.heap.size + 1, 2, none⟩) (by simp) (.int .i32 r))
    have hBx := (hB.setCell (p := ⟨w.heap.size + 1, 2, none⟩) (by simp) (.int .i32 r))
    simp only [List.set] at bWx
    clear bW bR hB bR0 bRf0 bW0 bWf0 bR1 bRf1 bW1 bWf1 bR2 bRf2 bW2 bWf2 bR3 bRf3 bW3 bWf3 bR4 bRf4 bW4 bWf4 bR5 bRf5 bW5 bWf5
    generalize (W1.setCell ⟨w.heap.size + 1, 2, none⟩ (.int .i32 r)) = W2 at *
    have bRx0 := bRx.cell 0
    have bRxf0 := bRx.frozen 0
    have bRx1 := bRx.cell 1
    have bRxf1 := bRx.frozen 1
    have bRx2 := bRx.cell 2
    have bRxf2 := bRx.frozen 2
    have bRx3 := bRx.cell 3
    have bRxf3 := bRx.frozen 3
    have bRx4 := bRx.cell 4
    have bRxf4 := bRx.frozen 4
    have bRx5 := bRx.cell 5
    have bRxf5 := bRx.frozen 5
    have bWx0 := bWx.cell 0
    have bWxf0 := bWx.frozen 0
    have bWx1 := bWx.cell 1
    have bWxf1 := bWx.frozen 1
    have bWx2 := bWx.cell 2
    have bWxf2 := bWx.frozen 2
    have bWx3 := bWx.cell 3
    have bWxf3 := bWx.frozen 3
    have bWx4 := bWx.cell 4
    have bWxf4 := bWx.frozen 4
    have bWx5 := bWx.cell 5
    have bWxf5 := bWx.frozen 5
    refine (rclose_any _ _).mono ?_
    rintro e w' ⟨rfl, rfl⟩
    rw [Hlast.out]
    by_cases hlt : q < s.size
    · have Hbi := Lib.hid (B_at hlt)
      cases hgr : grownB (B s q) with
      | true =>
        have Hgr := Lib.hid hgr
        have Hgr2 : Hid (grownB (s[q]'hlt).toNat = true) := Lib.hid (by rw [← Hbi.out]; exact hgr)
        have hbad : Hid (wordN s p = (⟨3, p, q, ByteArray.empty, r, 0⟩, q, false)) := Lib.hid (by rw [HW.out, apartN, Hgr.out]; rfl)
        clear hgr
        go_wp2_with (go_at_call 75; refine (rclose_any _ _).mono ?_; rintro e w' ⟨rfl, rfl⟩; rw [Hgr2.out])
        have b6 := ((((((bRx.set 0 (.int .i64 0)).set 1 (.string { data := #[] })).set 2 (.int .i32 0)).set 3 (.int .i64 0)).set 4 (.int .i64 0)).set 5 (.int .i64 0))
        have z0 := b6.cell 0
        have z1 := b6.cell 1
        have z2 := b6.cell 2
        have z3 := b6.cell 3
        have z4 := b6.cell 4
        have z5 := b6.cell 5
        refine bodyPost_ret (v := .tuple #[.agg #[.int .i64 0, .string { data := #[] }, .int .i32 0, .int .i64 0, .int .i64 0, .int .i64 0], .int .i64 q, .bool false]) (by simp [results, Tryd.results45, go_sem, z0, z1, z2, z3, z4, z5]) rfl ?_
        exact rw_bad 0 { data := #[] } 0 0 0 0 hbad.out (((((((hBx.setCell (p := ⟨w.heap.size, 0, none⟩) (by simp) _).setCell (p := ⟨w.heap.size, 1, none⟩) (by simp) _).setCell (p := ⟨w.heap.size, 2, none⟩) (by simp) _).setCell (p := ⟨w.heap.size, 3, none⟩) (by simp) _).setCell (p := ⟨w.heap.size, 4, none⟩) (by simp) _).setCell (p := ⟨w.heap.size, 5, none⟩) (by simp) _))
      | false =>
        have Hgr := Lib.hid hgr
        have Hgr2 : Hid (grownB (s[q]'hlt).toNat = false) := Lib.hid (by rw [← Hbi.out]; exact hgr)
        have hgood : Hid (wordN s p = (⟨3, p, q, ByteArray.empty, r, 0⟩, q, true)) := Lib.hid (by rw [HW.out, apartN, Hgr.out]; rfl)
        clear hgr
        go_wp2_with (go_at_call 75; refine (rclose_any _ _).mono ?_; rintro e w' ⟨rfl, rfl⟩; rw [Hgr2.out])
        have bRe := bRx.other (p := ⟨w.heap.size + 1, 5, none⟩) (by simp) (.int .i64 q)
        have b6 := ((((((bRe.set 0 (.int .i64 3)).set 1 (.string { data := #[] })).set 2 (.int .i32 r)).set 3 (.int .i64 0)).set 4 (.int .i64 p)).set 5 (.int .i64 q))
        have z0 := b6.cell 0
        have z1 := b6.cell 1
        have z2 := b6.cell 2
        have z3 := b6.cell 3
        have z4 := b6.cell 4
        have z5 := b6.cell 5
        refine bodyPost_ret (v := .tuple #[.agg #[.int .i64 3, .string { data := #[] }, .int .i32 r, .int .i64 0, .int .i64 p, .int .i64 q], .int .i64 q, .bool true]) (by simp [results, Tryd.results45, go_sem, z0, z1, z2, z3, z4, z5]) rfl ?_
        exact rw_good hgood.out ((((((((hBx.setCell (p := ⟨w.heap.size + 1, 5, none⟩) (by simp) _).setCell (p := ⟨w.heap.size, 0, none⟩) (by simp) _).setCell (p := ⟨w.heap.size, 1, none⟩) (by simp) _).setCell (p := ⟨w.heap.size, 2, none⟩) (by simp) _).setCell (p := ⟨w.heap.size, 3, none⟩) (by simp) _).setCell (p := ⟨w.heap.size, 4, none⟩) (by simp) _).setCell (p := ⟨w.heap.size, 5, none⟩) (by simp) _))
    · have hd1 : decide ((q : Int) < (s.size : Int)) = false := by rw [decide_eq_false_iff_not]; omega
      have hgood : Hid (wordN s p = (⟨3, p, q, ByteArray.empty, r, 0⟩, q, true)) := Lib.hid (by rw [HW.out, apartN, B_out (s := s) (i := q) (by omega)]; rfl)
      go_wp2_with fail
      have bRe := bRx.other (p := ⟨w.heap.size + 1, 5, none⟩) (by simp) (.int .i64 q)
      have b6 := ((((((bRe.set 0 (.int .i64 3)).set 1 (.string { data := #[] })).set 2 (.int .i32 r)).set 3 (.int .i64 0)).set 4 (.int .i64 p)).set 5 (.int .i64 q))
      have z0 := b6.cell 0
      have z1 := b6.cell 1
      have z2 := b6.cell 2
      have z3 := b6.cell 3
      have z4 := b6.cell 4
      have z5 := b6.cell 5
      refine bodyPost_ret (v := .tuple #[.agg #[.int .i64 3, .string { data := #[] }, .int .i32 r, .int .i64 0, .int .i64 p, .int .i64 q], .int .i64 q, .bool true]) (by simp [results, Tryd.results45, go_sem, z0, z1, z2, z3, z4, z5]) rfl ?_
      exact rw_good hgood.out ((((((((hBx.setCell (p := ⟨w.heap.size + 1, 5, none⟩) (by simp) _).setCell (p := ⟨w.heap.size, 0, none⟩) (by simp) _).setCell (p := ⟨w.heap.size, 1, none⟩) (by simp) _).setCell (p := ⟨w.heap.size, 2, none⟩) (by simp) _).setCell (p := ⟨w.heap.size, 3, none⟩) (by simp) _).setCell (p := ⟨w.heap.size, 4, none⟩) (by simp) _).setCell (p := ⟨w.heap.size, 5, none⟩) (by simp) _))
set_option maxHeartbeats 4000000 in
set_option maxRecDepth 100000 in
theorem rword_quoted (s : ByteArray) (p : Nat) (w : World) (hs : s.size ≤ 1000000) (hp : p < s.size) (hc : B s p = 39) :
    Calls Tryd.prog 45 #[.string s, .int .i64 p] w (RWPost s p w) := by
  have HB := Lib.hid (B_at hp)
  have hb := HB.out
  have hsm := (show smallB (B s p) = false by rw [hc]; rfl)
  have hdg := (show digitB (B s p) = false by rw [hc]; rfl)
  have hwd := word_quoted hc
  have Hfn := Lib.hid (fun W => rquoted_any s p W (by omega) (by omega))
  have Hsp := quotedN_le hp
  have hlast := quoted_last hp
  have Hdg2 : Hid (digitB (s[p]'hp).toNat = false) := Lib.hid (by rw [← hb]; exact hdg)
  have Hsm2 : Hid (smallB (s[p]'hp).toNat = false) := Lib.hid (by rw [← hb]; exact hsm)
  have h85 : (((s[p]'hp).toNat : Int) == 85) = false := by rw [← hb, hc]; rfl
  have h39 : (((s[p]'hp).toNat : Int) == 39) = true := by rw [← hb, hc]; rfl
  have h39b : (((s[p]'hp).toNat : Int) != 39) = false := by rw [← hb, hc]; rfl
  rcases hN : quotedN s p with ⟨r0, q, ok⟩
  simp only [hN] at hwd Hfn Hsp hlast
  obtain ⟨hqs, hpq0⟩ := Hsp
  clear hc hb hsm hdg hN
  go_enter Tryd.func45, Tryd.ntmps45
  go_wp2_with (first | (go_at_call 70; refine (rsmall_any _ _).mono ?_; rintro e w' ⟨rfl, rfl⟩; rw [Hsm2.out]) | (go_at_call 71; refine (rdigit_any _ _).mono ?_; rintro e w' ⟨rfl, rfl⟩; rw [Hdg2.out]))
  have bR := (Blk.new' w #[.int .i64 0, .string { data := #[] }, .int .i32 0, .int .i64 0, .int .i64 0, .int .i64 0] 59).alloc (.cells #[.int .i64 3, .string { data := #[] }, .int .i32 0, .int .i64 0, .int .i64 p, .int .i64 0] 59)
  have bW := Blk.new' (w.alloc (.cells #[.int .i64 0, .string { data := #[] }, .int .i32 0, .int .i64 0, .int .i64 0, .int .i64 0] 59)) #[.int .i64 3, .string { data := #[] }, .int .i32 0, .int .i64 0, .int .i64 p, .int .i64 0] 59
  rw [World.size_alloc] at bW
  have hB : Below w.heap.size w ((w.alloc (.cells #[.int .i64 0, .string { data := #[] }, .int .i32 0, .int .i64 0, .int .i64 0, .int .i64 0] 59)).alloc (.cells #[.int .i64 3, .string { data := #[] }, .int .i32 0, .int .i64 0, .int .i64 p, .int .i64 0] 59)) := ((Below.refl _ w).alloc (Nat.le_refl _) _).alloc (by simp) _
  generalize (w.alloc (.cells #[.int .i64 0, .string { data := #[] }, .int .i32 0, .int .i64 0, .int .i64 0, .int .i64 0] 59)).alloc (.cells #[.int .i64 3, .string { data := #[] }, .int .i32 0, .int .i64 0, .int .i64 p, .int .i64 0] 59) = W1 at *
  have bR0 := bR.cell 0
  have bRf0 := bR.frozen 0
  have bR1 := bR.cell 1
  have bRf1 := bR.frozen 1
  have bR2 := bR.cell 2
  have bRf2 := bR.frozen 2
  have bR3 := bR.cell 3
  have bRf3 := bR.frozen 3
  have bR4 := bR.cell 4
  have bRf4 := bR.frozen 4
  have bR5 := bR.cell 5
  have bRf5 := bR.frozen 5
  have bW0 := bW.cell 0
  have bWf0 := bW.frozen 0
  have bW1 := bW.cell 1
  have bWf1 := bW.frozen 1
  have bW2 := bW.cell 2
  have bWf2 := bW.frozen 2
  have bW3 := bW.cell 3
  have bWf3 := bW.frozen 3
  have bW4 := bW.cell 4
  have bWf4 := bW.frozen 4
  have bW5 := bW.cell 5
  have bWf5 := bW.frozen 5
  refine Calls.mono (Hfn.out _) ?_
  rintro e w' ⟨r, rfl, Hr, rfl⟩
  have HR := Lib.hid Hr
  clear Hr
  cases ok with
  | false =>
    have hbad : Hid (wordN s p = (⟨3, p, q, ByteArray.empty, r0, 0⟩, q, false)) := Lib.hid hwd
    clear hwd
    go_wp2_with fail
    have b6 := (((((((bR.other (p := ⟨w.heap.size + 1, 2, none⟩) (by simp) (.int .i32 r)).set 0 (.int .i64 0)).set 1 (.string { data := #[] })).set 2 (.int .i32 0)).set 3 (.int .i64 0)).set 4 (.int .i64 0)).set 5 (.int .i64 0))
    have z0 := b6.cell 0
    have z1 := b6.cell 1
    have z2 := b6.cell 2
    have z3 := b6.cell 3
    have z4 := b6.cell 4
    have z5 := b6.cell 5
    refine bodyPost_ret (v := .tuple #[.agg #[.int .i64 0, .string { data := #[] }, .int .i32 0, .int .i64 0, .int .i64 0, .int .i64 0], .int .i64 q, .bool false]) (by simp [results, Tryd.results45, go_sem, z0, z1, z2, z3, z4, z5]) rfl ?_
    exact rw_bad 0 { data := #[] } 0 0 0 0 hbad.out ((((((((hB.setCell (p := ⟨w.heap.size + 1, 2, none⟩) (by simp) _).setCell (p := ⟨w.heap.size, 0, none⟩) (by simp) _).setCell (p := ⟨w.heap.size, 1, none⟩) (by simp) _).setCell (p := ⟨w.heap.size, 2, none⟩) (by simp) _).setCell (p := ⟨w.heap.size, 3, none⟩) (by simp) _).setCell (p := ⟨w.heap.size, 4, none⟩) (by simp) _).setCell (p := ⟨w.heap.size, 5, none⟩) (by simp) _))
  | true =>
    obtain rfl : r = r0 := HR.out rfl
    have hgood : Hid (wordN s p = (⟨3, p, q, ByteArray.empty, r, 0⟩, q, true)) := Lib.hid hwd
    clear hwd
    have Hl39 := Lib.hid (hlast rfl).2
    have hpq := (hlast rfl).1
    have hil : q - 1 < s.size := by omega
    have Hlast : Hid (grownB ((s[q - 1]'hil).toNat) = false) := Lib.hid (by rw [← B_at hil, Hl39.out]; rfl)
    clear hlast
    go_wp2_with fail
    have bWx := (bW.set 2 (.int .i32 r))
    have bRx := (bR.other (p := ⟨w.heap.size + 1, 2, none⟩) (by simp) (.int .i32 r))
    have hBx := (hB.setCell (p := ⟨w.heap.size + 1, 2, none⟩) (by simp) (.int .i32 r))
    simp only [List.set] at bWx
    clear bW bR hB bR0 bRf0 bW0 bWf0 bR1 bRf1 bW1 bWf1 bR2 bRf2 bW2 bWf2 bR3 bRf3 bW3 bWf3 bR4 bRf4 bW4 bWf4 bR5 bRf5 bW5 bWf5
    generalize (W1.setCell ⟨w.heap.size + 1, 2, none⟩ (.int .i32 r)) = W2 at *
    have bRx0 := bRx.cell 0
    have bRxf0 := bRx.frozen 0
    have bRx1 := bRx.cell 1
    have bRxf1 := bRx.frozen 1
    have bRx2 := bRx.cell 2
    have bRxf2 := bRx.frozen 2
    have bRx3 := bRx.cell 3
    have bRxf3 := bRx.frozen 3
    have bRx4 := bRx.cell 4
    have bRxf4 := bRx.frozen 4
    have bRx5 := bRx.cell 5
    have bRxf5 := bRx.frozen 5
    have bWx0 := bWx.cell 0
    have bWxf0 := bWx.frozen 0
    have bWx1 := bWx.cell 1
    have bWxf1 := bWx.frozen 1
    have bWx2 := bWx.cell 2
    have bWxf2 := bWx.frozen 2
    have bWx3 := bWx.cell 3
    have bWxf3 := bWx.frozen 3
    have bWx4 := bWx.cell 4
    have bWxf4 := bWx.frozen 4
    have bWx5 := bWx.cell 5
    have bWxf5 := bWx.frozen 5
    refine (rclose_any _ _).mono ?_
    rintro e w' ⟨rfl, rfl⟩
    rw [Hlast.out]
    go_wp2_with fail
    have bRe := bRx.other (p := ⟨w.heap.size + 1, 5, none⟩) (by simp) (.int .i64 q)
    have b6 := ((((((bRe.set 0 (.int .i64 3)).set 1 (.string { data := #[] })).set 2 (.int .i32 r)).set 3 (.int .i64 0)).set 4 (.int .i64 p)).set 5 (.int .i64 q))
    have z0 := b6.cell 0
    have z1 := b6.cell 1
    have z2 := b6.cell 2
    have z3 := b6.cell 3
    have z4 := b6.cell 4
    have z5 := b6.cell 5
    refine bodyPost_ret (v := .tuple #[.agg #[.int .i64 3, .string { data := #[] }, .int .i32 r, .int .i64 0, .int .i64 p, .int .i64 q], .int .i64 q, .bool true]) (by simp [results, Tryd.results45, go_sem, z0, z1, z2, z3, z4, z5]) rfl ?_
    exact rw_good hgood.out ((((((((hBx.setCell (p := ⟨w.heap.size + 1, 5, none⟩) (by simp) _).setCell (p := ⟨w.heap.size, 0, none⟩) (by simp) _).setCell (p := ⟨w.heap.size, 1, none⟩) (by simp) _).setCell (p := ⟨w.heap.size, 2, none⟩) (by simp) _).setCell (p := ⟨w.heap.size, 3, none⟩) (by simp) _).setCell (p := ⟨w.heap.size, 4, none⟩) (by simp) _).setCell (p := ⟨w.heap.size, 5, none⟩) (by simp) _))
set_option maxHeartbeats 4000000 in
set_option maxRecDepth 100000 in
theorem rword_dots (s : ByteArray) (p : Nat) (w : World) (hs : s.size ≤ 1000000) (hp : p < s.size) (hc : B s p = 46) :
    Calls Tryd.prog 45 #[.string s, .int .i64 p] w (RWPost s p w) := by
  have HB := Lib.hid (B_at hp)
  have hb := HB.out
  have hsm := (show smallB (B s p) = false by rw [hc]; rfl)
  have hdg := (show digitB (B s p) = false by rw [hc]; rfl)
  have hwd := word_dots hc
  have Hdg2 : Hid (digitB (s[p]'hp).toNat = false) := Lib.hid (by rw [← hb]; exact hdg)
  have Hsm2 : Hid (smallB (s[p]'hp).toNat = false) := Lib.hid (by rw [← hb]; exact hsm)
  have h85 : (((s[p]'hp).toNat : Int) == 85) = false := by rw [← hb, hc]; rfl
  have h39 : (((s[p]'hp).toNat : Int) == 39) = false := by rw [← hb, hc]; rfl
  have h39b : (((s[p]'hp).toNat : Int) != 39) = true := by rw [← hb, hc]; rfl
  have h46 : (((s[p]'hp).toNat : Int) == 46) = true := by rw [← hb, hc]; rfl
  clear hc hb hsm hdg
  by_cases hlt1 : p + 1 < s.size
  · have HB1 := Lib.hid (B_at hlt1)
    by_cases h2 : B s (p + 1) = 46
    · have hgood : Hid (wordN s p = (⟨9, p, p + 2, ByteArray.empty, 0, 0⟩, p + 2, true)) := Lib.hid (by rw [hwd, if_pos h2, h2]; rfl)
      rw [HB1.out] at h2
      have h2d : (((s[p + 1]'hlt1).toNat : Int) == 46) = true := by rw [h2]; rfl
      have Hlast : Hid (grownB ((s[p + 1]'hlt1).toNat) = false) := Lib.hid (by rw [h2]; rfl)
      clear hwd h2
      go_enter Tryd.func45, Tryd.ntmps45
      go_wp2_with (first | (go_at_call 70; refine (rsmall_any _ _).mono ?_; rintro e w' ⟨rfl, rfl⟩; rw [Hsm2.out]) | (go_at_call 71; refine (rdigit_any _ _).mono ?_; rintro e w' ⟨rfl, rfl⟩; rw [Hdg2.out]))
      have bR := (Blk.new' w #[.int .i64 0, .string { data := #[] }, .int .i32 0, .int .i64 0, .int .i64 0, .int .i64 0] 59).alloc (.cells #[.int .i64 9, .string { data := #[] }, .int .i32 0, .int .i64 0, .int .i64 p, .int .i64 0] 59)
      have bW := Blk.new' (w.alloc (.cells #[.int .i64 0, .string { data := #[] }, .int .i32 0, .int .i64 0, .int .i64 0, .int .i64 0] 59)) #[.int .i64 9, .string { data := #[] }, .int .i32 0, .int .i64 0, .int .i64 p, .int .i64 0] 59
      rw [World.size_alloc] at bW
      have hB : Below w.heap.size w ((w.alloc (.cells #[.int .i64 0, .string { data := #[] }, .int .i32 0, .int .i64 0, .int .i64 0, .int .i64 0] 59)).alloc (.cells #[.int .i64 9, .string { data := #[] }, .int .i32 0, .int .i64 0, .int .i64 p, .int .i64 0] 59)) := ((Below.refl _ w).alloc (Nat.le_refl _) _).alloc (by simp) _
      generalize (w.alloc (.cells #[.int .i64 0, .string { data := #[] }, .int .i32 0, .int .i64 0, .int .i64 0, .int .i64 0] 59)).alloc (.cells #[.int .i64 9, .string { data := #[] }, .int .i32 0, .int .i64 0, .int .i64 p, .int .i64 0] 59) = W1 at *
      have bR0 := bR.cell 0
      have bRf0 := bR.frozen 0
      have bR1 := bR.cell 1
      have bRf1 := bR.frozen 1
      have bR2 := bR.cell 2
      have bRf2 := bR.frozen 2
      have bR3 := bR.cell 3
      have bRf3 := bR.frozen 3
      have bR4 := bR.cell 4
      have bRf4 := bR.frozen 4
      have bR5 := bR.cell 5
      have bRf5 := bR.frozen 5
      have bW0 := bW.cell 0
      have bWf0 := bW.frozen 0
      have bW1 := bW.cell 1
      have bWf1 := bW.frozen 1
      have bW2 := bW.cell 2
      have bWf2 := bW.frozen 2
      have bW3 := bW.cell 3
      have bWf3 := bW.frozen 3
      have bW4 := bW.cell 4
      have bWf4 := bW.frozen 4
      have bW5 := bW.cell 5
      have bWf5 := bW.frozen 5
      refine (rclose_any _ _).mono ?_
      rintro e w' ⟨rfl, rfl⟩
      rw [Hlast.out]
      have hz : ((p + 2 : Nat) : Int) = (p : Int) + 1 + 1 := by omega
      have hz0 := Lib.hid hz
      clear hz
      go_wp2_with fail
      have bRe := bR.other (p := ⟨w.heap.size + 1, 5, none⟩) (by simp) (.int .i64 ((p : Int) + 1 + 1))
      have b6 := ((((((bRe.set 0 (.int .i64 9)).set 1 (.string { data := #[] })).set 2 (.int .i32 0)).set 3 (.int .i64 0)).set 4 (.int .i64 p)).set 5 (.int .i64 ((p : Int) + 1 + 1)))
      have z0 := b6.cell 0
      have z1 := b6.cell 1
      have z2 := b6.cell 2
      have z3 := b6.cell 3
      have z4 := b6.cell 4
      have z5 := b6.cell 5
      refine bodyPost_ret (v := .tuple #[.agg #[.int .i64 9, .string { data := #[] }, .int .i32 0, .int .i64 0, .int .i64 p, .int .i64 ((p : Int) + 1 + 1)], .int .i64 ((p : Int) + 1 + 1), .bool true]) (by simp [results, Tryd.results45, go_sem, z0, z1, z2, z3, z4, z5]) rfl ?_
      rw [← hz0.out]
      exact rw_good hgood.out ((((((((hB.setCell (p := ⟨w.heap.size + 1, 5, none⟩) (by simp) _).setCell (p := ⟨w.heap.size, 0, none⟩) (by simp) _).setCell (p := ⟨w.heap.size, 1, none⟩) (by simp) _).setCell (p := ⟨w.heap.size, 2, none⟩) (by simp) _).setCell (p := ⟨w.heap.size, 3, none⟩) (by simp) _).setCell (p := ⟨w.heap.size, 4, none⟩) (by simp) _).setCell (p := ⟨w.heap.size, 5, none⟩) (by simp) _))
    · have hbad : Hid (wordN s p = (⟨9, p, p + 2, ByteArray.empty, 0, 0⟩, p + 1, false)) := Lib.hid (by rw [hwd, if_neg h2, show (B s (p + 1) == 46) = false from by rw [beq_eq_false_iff_ne]; exact h2])
      rw [HB1.out] at h2
      have h2d : (((s[p + 1]'hlt1).toNat : Int) == 46) = false := by rw [beq_eq_false_iff_ne]; omega
      clear hwd h2
      go_enter Tryd.func45, Tryd.ntmps45
      go_wp2_with (first | (go_at_call 70; refine (rsmall_any _ _).mono ?_; rintro e w' ⟨rfl, rfl⟩; rw [Hsm2.out]) | (go_at_call 71; refine (rdigit_any _ _).mono ?_; rintro e w' ⟨rfl, rfl⟩; rw [Hdg2.out]))
      have bR := (Blk.new' w #[.int .i64 0, .string { data := #[] }, .int .i32 0, .int .i64 0, .int .i64 0, .int .i64 0] 59).alloc (.cells #[.int .i64 9, .string { data := #[] }, .int .i32 0, .int .i64 0, .int .i64 p, .int .i64 0] 59)
      have bW := Blk.new' (w.alloc (.cells #[.int .i64 0, .string { data := #[] }, .int .i32 0, .int .i64 0, .int .i64 0, .int .i64 0] 59)) #[.int .i64 9, .string { data := #[] }, .int .i32 0, .int .i64 0, .int .i64 p, .int .i64 0] 59
      rw [World.size_alloc] at bW
      have hB : Below w.heap.size w ((w.alloc (.cells #[.int .i64 0, .string { data := #[] }, .int .i32 0, .int .i64 0, .int .i64 0, .int .i64 0] 59)).alloc (.cells #[.int .i64 9, .string { data := #[] }, .int .i32 0, .int .i64 0, .int .i64 p, .int .i64 0] 59)) := ((Below.refl _ w).alloc (Nat.le_refl _) _).alloc (by simp) _
      generalize (w.alloc (.cells #[.int .i64 0, .string { data := #[] }, .int .i32 0, .int .i64 0, .int .i64 0, .int .i64 0] 59)).alloc (.cells #[.int .i64 9, .string { data := #[] }, .int .i32 0, .int .i64 0, .int .i64 p, .int .i64 0] 59) = W1 at *
      have z0 := bR.cell 0
      have z1 := bR.cell 1
      have z2 := bR.cell 2
      have z3 := bR.cell 3
      have z4 := bR.cell 4
      have z5 := bR.cell 5
      have hz1 : ((p + 1 : Nat) : Int) = (p : Int) + 1 := by omega
      refine bodyPost_ret (v := .tuple #[.agg #[.int .i64 0, .string { data := #[] }, .int .i32 0, .int .i64 0, .int .i64 0, .int .i64 0], .int .i64 ((p : Int) + 1), .bool false]) (by simp [results, Tryd.results45, go_sem, z0, z1, z2, z3, z4, z5]) rfl ?_
      rw [← hz1]
      exact rw_bad 0 { data := #[] } 0 0 0 0 hbad.out hB
  · have h2 : ¬ B s (p + 1) = 46 := by rw [B_out (by omega)]; decide
    have hbad : Hid (wordN s p = (⟨9, p, p + 2, ByteArray.empty, 0, 0⟩, p + 1, false)) := Lib.hid (by rw [hwd, if_neg h2, show (B s (p + 1) == 46) = false from by rw [beq_eq_false_iff_ne]; exact h2])
    have hd : decide ((p : Int) + 1 < (s.size : Int)) = false := by rw [decide_eq_false_iff_not]; omega
    clear hwd h2
    go_enter Tryd.func45, Tryd.ntmps45
    go_wp2_with (first | (go_at_call 70; refine (rsmall_any _ _).mono ?_; rintro e w' ⟨rfl, rfl⟩; rw [Hsm2.out]) | (go_at_call 71; refine (rdigit_any _ _).mono ?_; rintro e w' ⟨rfl, rfl⟩; rw [Hdg2.out]))
    have bR := (Blk.new' w #[.int .i64 0, .string { data := #[] }, .int .i32 0, .int .i64 0, .int .i64 0, .int .i64 0] 59).alloc (.cells #[.int .i64 9, .string { data := #[] }, .int .i32 0, .int .i64 0, .int .i64 p, .int .i64 0] 59)
    have bW := Blk.new' (w.alloc (.cells #[.int .i64 0, .string { data := #[] }, .int .i32 0, .int .i64 0, .int .i64 0, .int .i64 0] 59)) #[.int .i64 9, .string { data := #[] }, .int .i32 0, .int .i64 0, .int .i64 p, .int .i64 0] 59
    rw [World.size_alloc] at bW
    have hB : Below w.heap.size w ((w.alloc (.cells #[.int .i64 0, .string { data := #[] }, .int .i32 0, .int .i64 0, .int .i64 0, .int .i64 0] 59)).alloc (.cells #[.int .i64 9, .string { data := #[] }, .int .i32 0, .int .i64 0, .int .i64 p, .int .i64 0] 59)) := ((Below.refl _ w).alloc (Nat.le_refl _) _).alloc (by simp) _
    generalize (w.alloc (.cells #[.int .i64 0, .string { data := #[] }, .int .i32 0, .int .i64 0, .int .i64 0, .int .i64 0] 59)).alloc (.cells #[.int .i64 9, .string { data := #[] }, .int .i32 0, .int .i64 0, .int .i64 p, .int .i64 0] 59) = W1 at *
    have z0 := bR.cell 0
    have z1 := bR.cell 1
    have z2 := bR.cell 2
    have z3 := bR.cell 3
    have z4 := bR.cell 4
    have z5 := bR.cell 5
    have hz1 : ((p + 1 : Nat) : Int) = (p : Int) + 1 := by omega
    refine bodyPost_ret (v := .tuple #[.agg #[.int .i64 0, .string { data := #[] }, .int .i32 0, .int .i64 0, .int .i64 0, .int .i64 0], .int .i64 ((p : Int) + 1), .bool false]) (by simp [results, Tryd.results45, go_sem, z0, z1, z2, z3, z4, z5]) rfl ?_
    rw [← hz1]
    exact rw_bad 0 { data := #[] } 0 0 0 0 hbad.out hB
set_option maxHeartbeats 4000000 in
set_option maxRecDepth 100000 in
theorem rword_sign (s : ByteArray) (p : Nat) (w : World) (hs : s.size ≤ 1000000) (hp : p < s.size) (hc : smallB (B s p) = false ∧ digitB (B s p) = false ∧ ¬ B s p = 85 ∧ ¬ B s p = 39 ∧ ¬ B s p = 46) :
    Calls Tryd.prog 45 #[.string s, .int .i64 p] w (RWPost s p w) := by
  have HB := Lib.hid (B_at hp)
  have hb := HB.out
  obtain ⟨c1, c2, c3, c4, c5⟩ := hc
  have Hdg2 : Hid (digitB (s[p]'hp).toNat = false) := Lib.hid (by rw [← hb]; exact c2)
  have Hsm2 : Hid (smallB (s[p]'hp).toNat = false) := Lib.hid (by rw [← hb]; exact c1)
  have h85 : (((s[p]'hp).toNat : Int) == 85) = false := by rw [← hb, beq_eq_false_iff_ne]; omega
  have h39 : (((s[p]'hp).toNat : Int) == 39) = false := by rw [← hb, beq_eq_false_iff_ne]; omega
  have h39b : (((s[p]'hp).toNat : Int) != 39) = true := by rw [← hb, bne_iff_ne]; omega
  have h46 : (((s[p]'hp).toNat : Int) == 46) = false := by rw [← hb, beq_eq_false_iff_ne]; omega
  have Hgr : Hid (¬ signN (B s p) = 0 → grownB (s[p]'hp).toNat = false) := Lib.hid (fun h => by rw [← hb]; exact sign_grown h)
  have hnone : Hid (signN (B s p) = 0 → wordN s p = (⟨0, 0, 0, ByteArray.empty, 0, 0⟩, p, false)) := Lib.hid (fun h => word_none (by rw [c1]; decide) (by rw [c2]; decide) c3 c4 c5 h)
  have hsign : Hid (¬ signN (B s p) = 0 → wordN s p = (⟨signN (B s p), p, p + 1, ByteArray.empty, 0, 0⟩, p + 1, true)) := Lib.hid (fun h => word_sign h)
  have hsg := fun i h => sign_at (c := (s[p]'hp).toNat) (i := i) h
  rw [hb] at hnone hsign Hgr
  have hst := sign_to (s[p]'hp).toNat
  have hc256 := UInt8.toNat_lt (s[p]'hp)
  generalize hcc : (s[p]'hp).toNat = c at *
  have Hcc := Lib.hid hcc
  have Hsg := Lib.hid hsg
  have Hst := Lib.hid hst
  clear hb c1 c2 c3 c4 c5 hsg hst hcc
  go_enter Tryd.func45, Tryd.ntmps45
  go_wp2_with (first | (go_at_call 70; refine (rsmall_any _ _).mono ?_; rintro e w' ⟨rfl, rfl⟩; (try rw [Hcc.out]); rw [Hsm2.out]) | (go_at_call 71; refine (rdigit_any _ _).mono ?_; rintro e w' ⟨rfl, rfl⟩; (try rw [Hcc.out]); rw [Hdg2.out]))
  have bR := (Blk.new' w #[.int .i64 0, .string { data := #[] }, .int .i32 0, .int .i64 0, .int .i64 0, .int .i64 0] 59).alloc (.cells #[.int .i64 0, .string { data := #[] }, .int .i32 0, .int .i64 0, .int .i64 p, .int .i64 0] 59)
  have bW := Blk.new' (w.alloc (.cells #[.int .i64 0, .string { data := #[] }, .int .i32 0, .int .i64 0, .int .i64 0, .int .i64 0] 59)) #[.int .i64 0, .string { data := #[] }, .int .i32 0, .int .i64 0, .int .i64 p, .int .i64 0] 59
  rw [World.size_alloc] at bW
  have hB : Below w.heap.size w ((w.alloc (.cells #[.int .i64 0, .string { data := #[] }, .int .i32 0, .int .i64 0, .int .i64 0, .int .i64 0] 59)).alloc (.cells #[.int .i64 0, .string { data := #[] }, .int .i32 0, .int .i64 0, .int .i64 p, .int .i64 0] 59)) := ((Below.refl _ w).alloc (Nat.le_refl _) _).alloc (by simp) _
  generalize (w.alloc (.cells #[.int .i64 0, .string { data := #[] }, .int .i32 0, .int .i64 0, .int .i64 0, .int .i64 0] 59)).alloc (.cells #[.int .i64 0, .string { data := #[] }, .int .i32 0, .int .i64 0, .int .i64 p, .int .i64 0] 59) = W1 at *
  go_loopw [12] (fun v12 wr => ∃ i : Nat, i ≤ 5 ∧ v12 = .int .i64 i ∧ Blk wr w.heap.size [.int .i64 0, .string { data := #[] }, .int .i32 0, .int .i64 0, .int .i64 0, .int .i64 0] 59 ∧ Blk wr (w.heap.size + 1) [.int .i64 (signTo c i : Nat), .string { data := #[] }, .int .i32 0, .int .i64 0, .int .i64 p, .int .i64 0] 59 ∧ Below w.heap.size w wr) (fun v12 _ => 5 - (intOf v12).toNat)
  case atStart => exact ⟨0, by omega, rfl, bR, by rw [Hst.out.1]; exact bW, hB⟩
  case round =>
    clear bR bW hB
    obtain ⟨i, hi, rfl, bR, bW, hB⟩ := hrel
    have bR0 := bR.cell 0
    have bRf0 := bR.frozen 0
    have bR1 := bR.cell 1
    have bRf1 := bR.frozen 1
    have bR2 := bR.cell 2
    have bRf2 := bR.frozen 2
    have bR3 := bR.cell 3
    have bRf3 := bR.frozen 3
    have bR4 := bR.cell 4
    have bRf4 := bR.frozen 4
    have bR5 := bR.cell 5
    have bRf5 := bR.frozen 5
    have bW0 := bW.cell 0
    have bWf0 := bW.frozen 0
    have bW1 := bW.cell 1
    have bWf1 := bW.frozen 1
    have bW2 := bW.cell 2
    have bWf2 := bW.frozen 2
    have bW3 := bW.cell 3
    have bWf3 := bW.frozen 3
    have bW4 := bW.cell 4
    have bWf4 := bW.frozen 4
    have bW5 := bW.cell 5
    have bWf5 := bW.frozen 5
    have hi5 : i = 0 ∨ i = 1 ∨ i = 2 ∨ i = 3 ∨ i = 4 ∨ i = 5 := by omega
    rcases hi5 with rfl | rfl | rfl | rfl | rfl | rfl
    · have e : signTo c 1 = if c = 123 then 4 else signTo c 0 := Hsg.out 0 (by omega)
      by_cases hL : c = 123
      · rw [if_pos hL] at e
        have HE := Lib.hid e
        have d : (((({ data := #[123, 125, 59, 61, 43] } : ByteArray)[0]'(by decide)).toNat : Int) == (c : Int)) = true := by
          change (((123 : Nat) : Int) == (c : Int)) = true
          rw [beq_iff_eq, hL]
        clear e hL
        go_wp2_with fail
        exact ⟨⟨1, by omega, rfl, bR.other (p := ⟨w.heap.size + 1, 0, none⟩) (by simp) _, by rw [HE.out]; exact bW.set 0 _, hB.setCell (p := ⟨w.heap.size + 1, 0, none⟩) (by simp) _⟩, by simp [intOf]⟩
      · rw [if_neg hL] at e
        have HE := Lib.hid e
        have d : (((({ data := #[123, 125, 59, 61, 43] } : ByteArray)[0]'(by decide)).toNat : Int) == (c : Int)) = false := by
          change (((123 : Nat) : Int) == (c : Int)) = false
          rw [beq_eq_false_iff_ne]; omega
        clear e hL
        go_wp2_with fail
        exact ⟨⟨1, by omega, rfl, bR, by rw [HE.out]; exact bW, hB⟩, by simp [intOf]⟩
    · have e : signTo c 2 = if c = 125 then 5 else signTo c 1 := Hsg.out 1 (by omega)
      by_cases hL : c = 125
      · rw [if_pos hL] at e
        have HE := Lib.hid e
        have d : (((({ data := #[123, 125, 59, 61, 43] } : ByteArray)[1]'(by decide)).toNat : Int) == (c : Int)) = true := by
          change (((125 : Nat) : Int) == (c : Int)) = true
          rw [beq_iff_eq, hL]
        clear e hL
        go_wp2_with fail
        exact ⟨⟨2, by omega, rfl, bR.other (p := ⟨w.heap.size + 1, 0, none⟩) (by simp) _, by rw [HE.out]; exact bW.set 0 _, hB.setCell (p := ⟨w.heap.size + 1, 0, none⟩) (by simp) _⟩, by simp [intOf]⟩
      · rw [if_neg hL] at e
        have HE := Lib.hid e
        have d : (((({ data := #[123, 125, 59, 61, 43] } : ByteArray)[1]'(by decide)).toNat : Int) == (c : Int)) = false := by
          change (((125 : Nat) : Int) == (c : Int)) = false
          rw [beq_eq_false_iff_ne]; omega
        clear e hL
        go_wp2_with fail
        exact ⟨⟨2, by omega, rfl, bR, by rw [HE.out]; exact bW, hB⟩, by simp [intOf]⟩
    · have e : signTo c 3 = if c = 59 then 6 else signTo c 2 := Hsg.out 2 (by omega)
      by_cases hL : c = 59
      · rw [if_pos hL] at e
        have HE := Lib.hid e
        have d : (((({ data := #[123, 125, 59, 61, 43] } : ByteArray)[2]'(by decide)).toNat : Int) == (c : Int)) = true := by
          change (((59 : Nat) : Int) == (c : Int)) = true
          rw [beq_iff_eq, hL]
        clear e hL
        go_wp2_with fail
        exact ⟨⟨3, by omega, rfl, bR.other (p := ⟨w.heap.size + 1, 0, none⟩) (by simp) _, by rw [HE.out]; exact bW.set 0 _, hB.setCell (p := ⟨w.heap.size + 1, 0, none⟩) (by simp) _⟩, by simp [intOf]⟩
      · rw [if_neg hL] at e
        have HE := Lib.hid e
        have d : (((({ data := #[123, 125, 59, 61, 43] } : ByteArray)[2]'(by decide)).toNat : Int) == (c : Int)) = false := by
          change (((59 : Nat) : Int) == (c : Int)) = false
          rw [beq_eq_false_iff_ne]; omega
        clear e hL
        go_wp2_with fail
        exact ⟨⟨3, by omega, rfl, bR, by rw [HE.out]; exact bW, hB⟩, by simp [intOf]⟩
    · have e : signTo c 4 = if c = 61 then 7 else signTo c 3 := Hsg.out 3 (by omega)
      by_cases hL : c = 61
      · rw [if_pos hL] at e
        have HE := Lib.hid e
        have d : (((({ data := #[123, 125, 59, 61, 43] } : ByteArray)[3]'(by decide)).toNat : Int) == (c : Int)) = true := by
          change (((61 : Nat) : Int) == (c : Int)) = true
          rw [beq_iff_eq, hL]
        clear e hL
        go_wp2_with fail
        exact ⟨⟨4, by omega, rfl, bR.other (p := ⟨w.heap.size + 1, 0, none⟩) (by simp) _, by rw [HE.out]; exact bW.set 0 _, hB.setCell (p := ⟨w.heap.size + 1, 0, none⟩) (by simp) _⟩, by simp [intOf]⟩
      · rw [if_neg hL] at e
        have HE := Lib.hid e
        have d : (((({ data := #[123, 125, 59, 61, 43] } : ByteArray)[3]'(by decide)).toNat : Int) == (c : Int)) = false := by
          change (((61 : Nat) : Int) == (c : Int)) = false
          rw [beq_eq_false_iff_ne]; omega
        clear e hL
        go_wp2_with fail
        exact ⟨⟨4, by omega, rfl, bR, by rw [HE.out]; exact bW, hB⟩, by simp [intOf]⟩
    · have e : signTo c 5 = if c = 43 then 8 else signTo c 4 := Hsg.out 4 (by omega)
      by_cases hL : c = 43
      · rw [if_pos hL] at e
        have HE := Lib.hid e
        have d : (((({ data := #[123, 125, 59, 61, 43] } : ByteArray)[4]'(by decide)).toNat : Int) == (c : Int)) = true := by
          change (((43 : Nat) : Int) == (c : Int)) = true
          rw [beq_iff_eq, hL]
        clear e hL
        go_wp2_with fail
        exact ⟨⟨5, by omega, rfl, bR.other (p := ⟨w.heap.size + 1, 0, none⟩) (by simp) _, by rw [HE.out]; exact bW.set 0 _, hB.setCell (p := ⟨w.heap.size + 1, 0, none⟩) (by simp) _⟩, by simp [intOf]⟩
      · rw [if_neg hL] at e
        have HE := Lib.hid e
        have d : (((({ data := #[123, 125, 59, 61, 43] } : ByteArray)[4]'(by decide)).toNat : Int) == (c : Int)) = false := by
          change (((43 : Nat) : Int) == (c : Int)) = false
          rw [beq_eq_false_iff_ne]; omega
        clear e hL
        go_wp2_with fail
        exact ⟨⟨5, by omega, rfl, bR, by rw [HE.out]; exact bW, hB⟩, by simp [intOf]⟩
    · rw [Hst.out.2] at bW bW0
      by_cases h0 : signN c = 0
      · have hbad := Lib.hid (hnone.out h0)
        rw [h0] at bW bW0
        clear h0
        go_wp2_with fail
        have b6 := ((((((bR.set 0 (.int .i64 0)).set 1 (.string { data := #[] })).set 2 (.int .i32 0)).set 3 (.int .i64 0)).set 4 (.int .i64 p)).set 5 (.int .i64 0))
        have z0 := b6.cell 0
        have z1 := b6.cell 1
        have z2 := b6.cell 2
        have z3 := b6.cell 3
        have z4 := b6.cell 4
        have z5 := b6.cell 5
        refine bodyPost_ret (v := .tuple #[.agg #[.int .i64 0, .string { data := #[] }, .int .i32 0, .int .i64 0, .int .i64 p, .int .i64 0], .int .i64 p, .bool false]) (by simp [results, Tryd.results45, go_sem, z0, z1, z2, z3, z4, z5]) rfl ?_
        exact rw_bad 0 { data := #[] } 0 0 p 0 hbad.out (((((((hB.setCell (p := ⟨w.heap.size, 0, none⟩) (by simp) _).setCell (p := ⟨w.heap.size, 1, none⟩) (by simp) _).setCell (p := ⟨w.heap.size, 2, none⟩) (by simp) _).setCell (p := ⟨w.heap.size, 3, none⟩) (by simp) _).setCell (p := ⟨w.heap.size, 4, none⟩) (by simp) _).setCell (p := ⟨w.heap.size, 5, none⟩) (by simp) _))
      · have hgood := Lib.hid (hsign.out h0)
        have Hgr0 := Lib.hid (Hgr.out h0)
        have d : (((signN c : Nat) : Int) == 0) = false := by rw [beq_eq_false_iff_ne]; omega
        have hz := Lib.hid (show ((p + 1 : Nat) : Int) = (p : Int) + 1 by omega)
        clear h0
        generalize signN c = sg at *
        go_wp2_with (go_at_call 75; refine (rclose_any _ _).mono ?_; rintro e w' ⟨rfl, rfl⟩; (try rw [Hcc.out]); rw [Hgr0.out])
        have bRe := bR.other (p := ⟨w.heap.size + 1, 5, none⟩) (by simp) (.int .i64 ((p : Int) + 1))
        have b6 := ((((((bRe.set 0 (.int .i64 (sg : Nat))).set 1 (.string { data := #[] })).set 2 (.int .i32 0)).set 3 (.int .i64 0)).set 4 (.int .i64 p)).set 5 (.int .i64 ((p : Int) + 1)))
        have z0 := b6.cell 0
        have z1 := b6.cell 1
        have z2 := b6.cell 2
        have z3 := b6.cell 3
        have z4 := b6.cell 4
        have z5 := b6.cell 5
        refine bodyPost_ret (v := .tuple #[.agg #[.int .i64 (sg : Nat), .string { data := #[] }, .int .i32 0, .int .i64 0, .int .i64 p, .int .i64 ((p : Int) + 1)], .int .i64 ((p : Int) + 1), .bool true]) (by simp [results, Tryd.results45, go_sem, z0, z1, z2, z3, z4, z5]) rfl ?_
        rw [← hz.out]
        exact rw_good hgood.out ((((((((hB.setCell (p := ⟨w.heap.size + 1, 5, none⟩) (by simp) _).setCell (p := ⟨w.heap.size, 0, none⟩) (by simp) _).setCell (p := ⟨w.heap.size, 1, none⟩) (by simp) _).setCell (p := ⟨w.heap.size, 2, none⟩) (by simp) _).setCell (p := ⟨w.heap.size, 3, none⟩) (by simp) _).setCell (p := ⟨w.heap.size, 4, none⟩) (by simp) _).setCell (p := ⟨w.heap.size, 5, none⟩) (by simp) _))
end Go.Proofs.YtpdaciljdcfikaaDoor
