/- guiseref4.word walked. -/
import Derived.Test.YtpdaciljdcfikaaDoorRefPlus
import Derived.Test.YtpdaciljdcfikaaDoorLexBound
import Derived.Test.YtpdaciljdcfikaaDoorKeep
namespace Go.Proofs.YtpdaciljdcfikaaDoor
open Go.RowKit Go.Shelf
set_option linter.unusedVariables false
set_option linter.unusedSimpArgs false

abbrev aggR (k : Nat) (x : ByteArray) (r n fr en : Nat) : Value := .agg #[.int .i64 k, .string x, .int .i32 r, .int .i64 n, .int .i64 fr, .int .i64 en]
/-- What word answers: the word if it is right, its end (or the first wrong place), whether it is right. -/
def RWPost (s : ByteArray) (p : Nat) (w : World) (e : Ending) (w' : World) : Prop :=
  ∃ (k : Nat) (x : ByteArray) (r n fr en : Nat), e = .returned (.tuple #[aggR k x r n fr en, .int .i64 (wordN s p).2.1, .bool (wordN s p).2.2]) ∧
    ((wordN s p).2.2 = true → k = (wordN s p).1.kind ∧ x = (wordN s p).1.txt ∧ r = (wordN s p).1.r ∧ n = (wordN s p).1.n ∧ fr = (wordN s p).1.fr ∧ en = (wordN s p).1.en) ∧ Below w.heap.size w w'
theorem rw_bad {s : ByteArray} {p : Nat} {w w' : World} (k : Nat) (x : ByteArray) (r n fr en : Nat) {q : Nat} {wd : Wd} (h : wordN s p = (wd, q, false)) (hb : Below w.heap.size w w') : RWPost s p w (.returned (.tuple #[aggR k x r n fr en, .int .i64 q, .bool false])) w' :=
  ⟨k, x, r, n, fr, en, by rw [h], fun e => (by rw [h] at e; cases e), hb⟩
theorem rw_good {s : ByteArray} {p : Nat} {w w' : World} {q : Nat} {wd : Wd} (h : wordN s p = (wd, q, true)) (hb : Below w.heap.size w w') : RWPost s p w (.returned (.tuple #[aggR wd.kind wd.txt wd.r wd.n wd.fr wd.en, .int .i64 q, .bool true])) w' :=
  ⟨wd.kind, wd.txt, wd.r, wd.n, wd.fr, wd.en, by rw [h], fun _ => by rw [h]; exact ⟨rfl, rfl, rfl, rfl, rfl, rfl⟩, hb⟩

set_option maxHeartbeats 4000000 in
set_option maxRecDepth 100000 in
theorem rword_name (s : ByteArray) (p : Nat) (w : World) (hs : s.size ≤ 1000000) (hp : p < s.size) (hsm : smallB (B s p) = true) :
    Calls Tryd.prog 45 #[.string s, .int .i64 p] w (RWPost s p w) := by
  have HB := Lib.hid (B_at hp)
  have Hsm := Lib.hid hsm
  have Hsp := Lib.hid (nameN_spec hp hsm)
  have h39 : (((s[p]'hp).toNat : Int) != 39) = true := by
    have h1 := (smallB_iff _).1 hsm
    have h2 := HB.out
    rw [bne_iff_ne]; omega
  have Hsm2 : Hid (smallB (s[p]'hp).toNat = true) := Lib.hid (by rw [← HB.out]; exact hsm)
  clear hsm
  go_enter Tryd.func45, Tryd.ntmps45
  go_wp2_with (go_at_call 70; refine (rsmall_any _ _).mono ?_; rintro e w' ⟨rfl, rfl⟩; rw [Hsm2.out])
  have bR := (Blk.new' w #[.int .i64 0, .string { data := #[] }, .int .i32 0, .int .i64 0, .int .i64 0, .int .i64 0] 59).alloc (.cells #[.int .i64 0, .string { data := #[] }, .int .i32 0, .int .i64 0, .int .i64 p, .int .i64 0] 59)
  have bW := Blk.new' (w.alloc (.cells #[.int .i64 0, .string { data := #[] }, .int .i32 0, .int .i64 0, .int .i64 0, .int .i64 0] 59)) #[.int .i64 0, .string { data := #[] }, .int .i32 0, .int .i64 0, .int .i64 p, .int .i64 0] 59
  rw [World.size_alloc] at bW
  have hB : Below w.heap.size w ((w.alloc (.cells #[.int .i64 0, .string { data := #[] }, .int .i32 0, .int .i64 0, .int .i64 0, .int .i64 0] 59)).alloc (.cells #[.int .i64 0, .string { data := #[] }, .int .i32 0, .int .i64 0, .int .i64 p, .int .i64 0] 59)) := ((Below.refl _ w).alloc (Nat.le_refl _) _).alloc (by simp) _
  generalize (w.alloc (.cells #[.int .i64 0, .string { data := #[] }, .int .i32 0, .int .i64 0, .int .i64 0, .int .i64 0] 59)).alloc (.cells #[.int .i64 0, .string { data := #[] }, .int .i32 0, .int .i64 0, .int .i64 p, .int .i64 0] 59) = W1 at *
  have bR0 := bR.cell 0
  have bRf0 := bR.frozen 0
  have bR1 := bR.cell 1
  have bRf1 := bR.frozen 1
  have bR2 := bR.cell 2
  have bRf2 := bR.frozen 2
  have bR3 := bR.cell 3
  have bRf3 := bR.frozen 3
  have bR4 := bR.cell 4
  have bRf4 := bR.frozen 4
  have bR5 := bR.cell 5
  have bRf5 := bR.frozen 5
  have bW0 := bW.cell 0
  have bWf0 := bW.frozen 0
  have bW1 := bW.cell 1
  have bWf1 := bW.frozen 1
  have bW2 := bW.cell 2
  have bWf2 := bW.frozen 2
  have bW3 := bW.cell 3
  have bWf3 := bW.frozen 3
  have bW4 := bW.cell 4
  have bWf4 := bW.frozen 4
  have bW5 := bW.cell 5
  have bWf5 := bW.frozen 5
  go_loop [8] (fun v8 => ∃ i f : Nat, i + f = s.size ∧ p ≤ i ∧ v8 = .int .i64 i ∧ Hid (nameGo s p f i = nameN s p)) (fun v8 => s.size - (intOf v8).toNat)
  case atStart => exact ⟨p, s.size - p, by omega, by omega, rfl, Lib.hid rfl⟩
  case round =>
    obtain ⟨i, f, hif, hpi, rfl, Hr⟩ := hrel
    have Hif := Lib.hid hif
    have hi : i ≤ s.size := by omega
    clear hif
    by_cases hn : i < s.size ∧ nameB (B s i) = true
    · obtain ⟨hlt, hnb⟩ := hn
      obtain ⟨f, rfl⟩ : ∃ g, f = g + 1 := ⟨f - 1, by have := Hif.out; omega⟩
      have Hbi := Lib.hid (B_at hlt)
      have hd1 : decide ((i : Int) < (s.size : Int)) = true := by rw [decide_eq_true_iff]; omega
      have e1 : nameN s p = if i - p = 32 then (i, false) else nameGo s p f (i + 1) := by rw [← Hr.out, nameGo, if_pos hnb]
      have Hnb := Lib.hid hnb
      have HE := Lib.hid e1
      clear hnb e1
      have hclass : smallB (s[i]'hlt).toNat = true ∨ (smallB (s[i]'hlt).toNat = false ∧ digitB (s[i]'hlt).toNat = true) ∨ (smallB (s[i]'hlt).toNat = false ∧ digitB (s[i]'hlt).toNat = false ∧ (((s[i]'hlt).toNat : Int) == 45) = true) := by
        have h1 := (nameB_iff _).1 Hnb.out
        have h2 := Hbi.out
        cases hs1 : smallB (s[i]'hlt).toNat with
        | true => exact Or.inl rfl
        | false =>
          cases hs2 : digitB (s[i]'hlt).toNat with
          | true => exact Or.inr (Or.inl ⟨rfl, rfl⟩)
          | false =>
            have n1 := false_iff_of hs1 (smallB_iff _)
            have n2 := false_iff_of hs2 (digitB_iff _)
            exact Or.inr (Or.inr ⟨rfl, rfl, by rw [beq_iff_eq]; omega⟩)
      by_cases h32 : i - p = 32
      · have hd2 : (((i : Int) - (p : Int)) == 32) = true := by rw [beq_iff_eq]; omega
        have hbad : Hid (wordN s p = (⟨0, 0, 0, ByteArray.empty, 0, 0⟩, i, false)) := Lib.hid (by rw [word_name Hsm.out, HE.out, if_pos h32]; rfl)
        rcases hclass with c1 | ⟨c1, c2⟩ | ⟨c1, c2, c3⟩
        · have C1 := Lib.hid c1
          clear c1
          go_wp2_with (go_at_call 70; refine (rsmall_any _ _).mono ?_; rintro e w' ⟨rfl, rfl⟩; rw [C1.out])
          have b6 := ((((((bR.set 0 (.int .i64 0)).set 1 (.string { data := #[] })).set 2 (.int .i32 0)).set 3 (.int .i64 0)).set 4 (.int .i64 p)).set 5 (.int .i64 0))
          have z0 := b6.cell 0
          have z1 := b6.cell 1
          have z2 := b6.cell 2
          have z3 := b6.cell 3
          have z4 := b6.cell 4
          have z5 := b6.cell 5
          refine bodyPost_ret (v := .tuple #[.agg #[.int .i64 0, .string { data := #[] }, .int .i32 0, .int .i64 0, .int .i64 p, .int .i64 0], .int .i64 i, .bool false]) (by simp [results, Tryd.results45, go_sem, z0, z1, z2, z3, z4, z5]) rfl ?_
          exact rw_bad 0 { data := #[] } 0 0 p 0 hbad.out (((((((hB.setCell (p := ⟨w.heap.size, 0, none⟩) (by simp) _).setCell (p := ⟨w.heap.size, 1, none⟩) (by simp) _).setCell (p := ⟨w.heap.size, 2, none⟩) (by simp) _).setCell (p := ⟨w.heap.size, 3, none⟩) (by simp) _).setCell (p := ⟨w.heap.size, 4, none⟩) (by simp) _).setCell (p := ⟨w.heap.size, 5, none⟩) (by simp) _))
        · have C1 := Lib.hid c1
          have C2 := Lib.hid c2
          clear c1 c2
          go_wp2_with (first | (go_at_call 70; refine (rsmall_any _ _).mono ?_; rintro e w' ⟨rfl, rfl⟩; rw [C1.out]) | (go_at_call 71; refine (rdigit_any _ _).mono ?_; rintro e w' ⟨rfl, rfl⟩; rw [C2.out]))
          have b6 := ((((((bR.set 0 (.int .i64 0)).set 1 (.string { data := #[] })).set 2 (.int .i32 0)).set 3 (.int .i64 0)).set 4 (.int .i64 p)).set 5 (.int .i64 0))
          have z0 := b6.cell 0
          have z1 := b6.cell 1
          have z2 := b6.cell 2
          have z3 := b6.cell 3
          have z4 := b6.cell 4
          have z5 := b6.cell 5
          refine bodyPost_ret (v := .tuple #[.agg #[.int .i64 0, .string { data := #[] }, .int .i32 0, .int .i64 0, .int .i64 p, .int .i64 0], .int .i64 i, .bool false]) (by simp [results, Tryd.results45, go_sem, z0, z1, z2, z3, z4, z5]) rfl ?_
          exact rw_bad 0 { data := #[] } 0 0 p 0 hbad.out (((((((hB.setCell (p := ⟨w.heap.size, 0, none⟩) (by simp) _).setCell (p := ⟨w.heap.size, 1, none⟩) (by simp) _).setCell (p := ⟨w.heap.size, 2, none⟩) (by simp) _).setCell (p := ⟨w.heap.size, 3, none⟩) (by simp) _).setCell (p := ⟨w.heap.size, 4, none⟩) (by simp) _).setCell (p := ⟨w.heap.size, 5, none⟩) (by simp) _))
        · have C1 := Lib.hid c1
          have C2 := Lib.hid c2
          clear c1 c2
          go_wp2_with (first | (go_at_call 70; refine (rsmall_any _ _).mono ?_; rintro e w' ⟨rfl, rfl⟩; rw [C1.out]) | (go_at_call 71; refine (rdigit_any _ _).mono ?_; rintro e w' ⟨rfl, rfl⟩; rw [C2.out]))
          have b6 := ((((((bR.set 0 (.int .i64 0)).set 1 (.string { data := #[] })).set 2 (.int .i32 0)).set 3 (.int .i64 0)).set 4 (.int .i64 p)).set 5 (.int .i64 0))
          have z0 := b6.cell 0
          have z1 := b6.cell 1
          have z2 := b6.cell 2
          have z3 := b6.cell 3
          have z4 := b6.cell 4
          have z5 := b6.cell 5
          refine bodyPost_ret (v := .tuple #[.agg #[.int .i64 0, .string { data := #[] }, .int .i32 0, .int .i64 0, .int .i64 p, .int .i64 0], .int .i64 i, .bool false]) (by simp [results, Tryd.results45, go_sem, z0, z1, z2, z3, z4, z5]) rfl ?_
          exact rw_bad 0 { data := #[] } 0 0 p 0 hbad.out (((((((hB.setCell (p := ⟨w.heap.size, 0, none⟩) (by simp) _).setCell (p := ⟨w.heap.size, 1, none⟩) (by simp) _).setCell (p := ⟨w.heap.size, 2, none⟩) (by simp) _).setCell (p := ⟨w.heap.size, 3, none⟩) (by simp) _).setCell (p := ⟨w.heap.size, 4, none⟩) (by simp) _).setCell (p := ⟨w.heap.size, 5, none⟩) (by simp) _))
      · have hd2 : (((i : Int) - (p : Int)) == 32) = false := by rw [beq_eq_false_iff_ne]; omega
        have hgo : Hid (nameGo s p f (i + 1) = nameN s p) := Lib.hid (by rw [HE.out, if_neg h32])
        rcases hclass with c1 | ⟨c1, c2⟩ | ⟨c1, c2, c3⟩
        · have C1 := Lib.hid c1
          clear c1
          go_wp2_with (go_at_call 70; refine (rsmall_any _ _).mono ?_; rintro e w' ⟨rfl, rfl⟩; rw [C1.out])
          exact ⟨⟨i + 1, f, by have := Hif.out; omega, by omega, by go_num, hgo⟩, by simp [intOf]; omega⟩
        · have C1 := Lib.hid c1
          have C2 := Lib.hid c2
          clear c1 c2
          go_wp2_with (first | (go_at_call 70; refine (rsmall_any _ _).mono ?_; rintro e w' ⟨rfl, rfl⟩; rw [C1.out]) | (go_at_call 71; refine (rdigit_any _ _).mono ?_; rintro e w' ⟨rfl, rfl⟩; rw [C2.out]))
          exact ⟨⟨i + 1, f, by have := Hif.out; omega, by omega, by go_num, hgo⟩, by simp [intOf]; omega⟩
        · have C1 := Lib.hid c1
          have C2 := Lib.hid c2
          clear c1 c2
          go_wp2_with (first | (go_at_call 70; refine (rsmall_any _ _).mono ?_; rintro e w' ⟨rfl, rfl⟩; rw [C1.out]) | (go_at_call 71; refine (rdigit_any _ _).mono ?_; rintro e w' ⟨rfl, rfl⟩; rw [C2.out]))
          exact ⟨⟨i + 1, f, by have := Hif.out; omega, by omega, by go_num, hgo⟩, by simp [intOf]; omega⟩
    · have e1 : nameN s p = (i, true) := by
        rw [← Hr.out]
        cases f with
        | zero => rfl
        | succ f => rw [nameGo, if_neg (fun h => hn ⟨by have := Hif.out; omega, h⟩)]
      have hpl := Hsp.out
      rw [e1] at hpl
      obtain ⟨hpl1, _, hpl2⟩ := hpl
      simp only at hpl1 hpl2
      have hl := hpl2 (i - 1) (by omega) (by omega)
      have hil : i - 1 < s.size := by omega
      have Hlast : Hid (grownB ((s[i - 1]'hil).toNat) = true) := Lib.hid (by
        rw [← B_at hil]
        have h1 := (nameB_iff _).1 hl
        exact (grownB_iff _).2 (by omega))
      have HE := Lib.hid e1
      have HW := Lib.hid (word_name Hsm.out)
      have hpi2 : p < i := hpl1
      clear e1 hpl2 hl Hsp Hr
      by_cases hlt : i < s.size
      · have Hbi := Lib.hid (B_at hlt)
        have hnb : nameB (B s i) = false := by
          cases h : nameB (B s i) with
          | true => exact absurd ⟨hlt, h⟩ hn
          | false => rfl
        have hno := false_iff_of hnb (nameB_iff _)
        have C1 : Hid (smallB (s[i]'hlt).toNat = false) := Lib.hid (by rw [← Hbi.out]; exact false_of (smallB_iff _) (by omega))
        have C2 : Hid (digitB (s[i]'hlt).toNat = false) := Lib.hid (by rw [← Hbi.out]; exact false_of (digitB_iff _) (by omega))
        have c3 : (((s[i]'hlt).toNat : Int) == 45) = false := by rw [beq_eq_false_iff_ne, ← Hbi.out]; omega
        clear hnb hno hn
        go_wp2_with (first | (go_at_call 70; refine (rsmall_any _ _).mono ?_; rintro e w' ⟨rfl, rfl⟩; rw [C1.out]) | (go_at_call 71; refine (rdigit_any _ _).mono ?_; rintro e w' ⟨rfl, rfl⟩; rw [C2.out]))
        refine (rclose_any _ _).mono ?_
        rintro e w' ⟨rfl, rfl⟩
        rw [Hlast.out]
        have bWx := ((bW.set 0 (.int .i64 1)).set 1 (.string (s.extract p i)))
        have bRx := ((bR.other (p := ⟨w.heap.size + 1, 0, none⟩) (by simp) (.int .i64 1)).other (p := ⟨w.heap.size + 1, 1, none⟩) (by simp) (.string (s.extract p i)))
        have hBx := ((hB.setCell (p := ⟨w.heap.size + 1, 0, none⟩) (by simp) (.int .i64 1)).setCell (p := ⟨w.heap.size + 1, 1, none⟩) (by simp) (.string (s.extract p i)))
        simp only [List.set] at bWx
        clear bW bR hB bR0 bRf0 bW0 bWf0 bR1 bRf1 bW1 bWf1 bR2 bRf2 bW2 bWf2 bR3 bRf3 bW3 bWf3 bR4 bRf4 bW4 bWf4 bR5 bRf5 bW5 bWf5
        generalize ((W1.setCell ⟨w.heap.size + 1, 0, none⟩ (.int .i64 1)).setCell ⟨w.heap.size + 1, 1, none⟩ (.string (s.extract p i))) = W2 at *
        have bRx0 := bRx.cell 0
        have bRxf0 := bRx.frozen 0
        have bRx1 := bRx.cell 1
        have bRxf1 := bRx.frozen 1
        have bRx2 := bRx.cell 2
        have bRxf2 := bRx.frozen 2
        have bRx3 := bRx.cell 3
        have bRxf3 := bRx.frozen 3
        have bRx4 := bRx.cell 4
        have bRxf4 := bRx.frozen 4
        have bRx5 := bRx.cell 5
        have bRxf5 := bRx.frozen 5
        have bWx0 := bWx.cell 0
        have bWxf0 := bWx.frozen 0
        have bWx1 := bWx.cell 1
        have bWxf1 := bWx.frozen 1
        have bWx2 := bWx.cell 2
        have bWxf2 := bWx.frozen 2
        have bWx3 := bWx.cell 3
        have bWxf3 := bWx.frozen 3
        have bWx4 := bWx.cell 4
        have bWxf4 := bWx.frozen 4
        have bWx5 := bWx.cell 5
        have bWxf5 := bWx.frozen 5
        cases hgr : grownB (B s i) with
        | true =>
          have Hgr := Lib.hid hgr
          have Hgr2 : Hid (grownB (s[i]'hlt).toNat = true) := Lib.hid (by rw [← Hbi.out]; exact hgr)
          have hbad : Hid (wordN s p = (⟨1, p, i, s.extract p i, 0, 0⟩, i, false)) := Lib.hid (by rw [HW.out, HE.out, if_pos rfl, apartN, Hgr.out]; rfl)
          clear hgr
          go_wp2_with (go_at_call 75; refine (rclose_any _ _).mono ?_; rintro e w' ⟨rfl, rfl⟩; rw [Hgr2.out])
          have b6 := ((((((bRx.set 0 (.int .i64 0)).set 1 (.string { data := #[] })).set 2 (.int .i32 0)).set 3 (.int .i64 0)).set 4 (.int .i64 0)).set 5 (.int .i64 0))
          have z0 := b6.cell 0
          have z1 := b6.cell 1
          have z2 := b6.cell 2
          have z3 := b6.cell 3
          have z4 := b6.cell 4
          have z5 := b6.cell 5
          refine bodyPost_ret (v := .tuple #[.agg #[.int .i64 0, .string { data := #[] }, .int .i32 0, .int .i64 0, .int .i64 0, .int .i64 0], .int .i64 i, .bool false]) (by simp [results, Tryd.results45, go_sem, z0, z1, z2, z3, z4, z5]) rfl ?_
          exact rw_bad 0 { data := #[] } 0 0 0 0 hbad.out (((((((hBx.setCell (p := ⟨w.heap.size, 0, none⟩) (by simp) _).setCell (p := ⟨w.heap.size, 1, none⟩) (by simp) _).setCell (p := ⟨w.heap.size, 2, none⟩) (by simp) _).setCell (p := ⟨w.heap.size, 3, none⟩) (by simp) _).setCell (p := ⟨w.heap.size, 4, none⟩) (by simp) _).setCell (p := ⟨w.heap.size, 5, none⟩) (by simp) _))
        | false =>
          have Hgr := Lib.hid hgr
          have Hgr2 : Hid (grownB (s[i]'hlt).toNat = false) := Lib.hid (by rw [← Hbi.out]; exact hgr)
          have hgood : Hid (wordN s p = (⟨1, p, i, s.extract p i, 0, 0⟩, i, true)) := Lib.hid (by rw [HW.out, HE.out, if_pos rfl, apartN, Hgr.out]; rfl)
          clear hgr
          go_wp2_with (go_at_call 75; refine (rclose_any _ _).mono ?_; rintro e w' ⟨rfl, rfl⟩; rw [Hgr2.out])
          have bRe := bRx.other (p := ⟨w.heap.size + 1, 5, none⟩) (by simp) (.int .i64 (i : Nat))
          have b6 := ((((((bRe.set 0 (.int .i64 1)).set 1 (.string (s.extract p i))).set 2 (.int .i32 0)).set 3 (.int .i64 0)).set 4 (.int .i64 p)).set 5 (.int .i64 i))
          have z0 := b6.cell 0
          have z1 := b6.cell 1
          have z2 := b6.cell 2
          have z3 := b6.cell 3
          have z4 := b6.cell 4
          have z5 := b6.cell 5
          refine bodyPost_ret (v := .tuple #[.agg #[.int .i64 1, .string (s.extract p i), .int .i32 0, .int .i64 0, .int .i64 p, .int .i64 i], .int .i64 i, .bool true]) (by simp [results, Tryd.results45, go_sem, z0, z1, z2, z3, z4, z5]) rfl ?_
          exact rw_good hgood.out ((((((((hBx.setCell (p := ⟨w.heap.size + 1, 5, none⟩) (by simp) _).setCell (p := ⟨w.heap.size, 0, none⟩) (by simp) _).setCell (p := ⟨w.heap.size, 1, none⟩) (by simp) _).setCell (p := ⟨w.heap.size, 2, none⟩) (by simp) _).setCell (p := ⟨w.heap.size, 3, none⟩) (by simp) _).setCell (p := ⟨w.heap.size, 4, none⟩) (by simp) _).setCell (p := ⟨w.heap.size, 5, none⟩) (by simp) _))
      · have hd1 : decide ((i : Int) < (s.size : Int)) = false := by rw [decide_eq_false_iff_not]; omega
        clear hn
        go_wp2_with fail
        refine (rclose_any _ _).mono ?_
        rintro e w' ⟨rfl, rfl⟩
        rw [Hlast.out]
        have bWx := ((bW.set 0 (.int .i64 1)).set 1 (.string (s.extract p i)))
        have bRx := ((bR.other (p := ⟨w.heap.size + 1, 0, none⟩) (by simp) (.int .i64 1)).other (p := ⟨w.heap.size + 1, 1, none⟩) (by simp) (.string (s.extract p i)))
        have hBx := ((hB.setCell (p := ⟨w.heap.size + 1, 0, none⟩) (by simp) (.int .i64 1)).setCell (p := ⟨w.heap.size + 1, 1, none⟩) (by simp) (.string (s.extract p i)))
        simp only [List.set] at bWx
        clear bW bR hB bR0 bRf0 bW0 bWf0 bR1 bRf1 bW1 bWf1 bR2 bRf2 bW2 bWf2 bR3 bRf3 bW3 bWf3 bR4 bRf4 bW4 bWf4 bR5 bRf5 bW5 bWf5
        generalize ((W1.setCell ⟨w.heap.size + 1, 0, none⟩ (.int .i64 1)).setCell ⟨w.heap.size + 1, 1, none⟩ (.string (s.extract p i))) = W2 at *
        have bRx0 := bRx.cell 0
        have bRxf0 := bRx.frozen 0
        have bRx1 := bRx.cell 1
        have bRxf1 := bRx.frozen 1
        have bRx2 := bRx.cell 2
        have bRxf2 := bRx.frozen 2
        have bRx3 := bRx.cell 3
        have bRxf3 := bRx.frozen 3
        have bRx4 := bRx.cell 4
        have bRxf4 := bRx.frozen 4
        have bRx5 := bRx.cell 5
        have bRxf5 := bRx.frozen 5
        have bWx0 := bWx.cell 0
        have bWxf0 := bWx.frozen 0
        have bWx1 := bWx.cell 1
        have bWxf1 := bWx.frozen 1
        have bWx2 := bWx.cell 2
        have bWxf2 := bWx.frozen 2
        have bWx3 := bWx.cell 3
        have bWxf3 := bWx.frozen 3
        have bWx4 := bWx.cell 4
        have bWxf4 := bWx.frozen 4
        have bWx5 := bWx.cell 5
        have bWxf5 := bWx.frozen 5
        have hgood : Hid (wordN s p = (⟨1, p, i, s.extract p i, 0, 0⟩, i, true)) := Lib.hid (by rw [HW.out, HE.out, if_pos rfl, apartN, B_out (s := s) (i := i) (by omega)]; rfl)
        go_wp2_with fail
        have bRe := bRx.other (p := ⟨w.heap.size + 1, 5, none⟩) (by simp) (.int .i64 (i : Nat))
        have b6 := ((((((bRe.set 0 (.int .i64 1)).set 1 (.string (s.extract p i))).set 2 (.int .i32 0)).set 3 (.int .i64 0)).set 4 (.int .i64 p)).set 5 (.int .i64 i))
        have z0 := b6.cell 0
        have z1 := b6.cell 1
        have z2 := b6.cell 2
        have z3 := b6.cell 3
        have z4 := b6.cell 4
        have z5 := b6.cell 5
        refine bodyPost_ret (v := .tuple #[.agg #[.int .i64 1, .string (s.extract p i), .int .i32 0, .int .i64 0, .int .i64 p, .int .i64 i], .int .i64 i, .bool true]) (by simp [results, Tryd.results45, go_sem, z0, z1, z2, z3, z4, z5]) rfl ?_
        exact rw_good hgood.out ((((((((hBx.setCell (p := ⟨w.heap.size + 1, 5, none⟩) (by simp) _).setCell (p := ⟨w.heap.size, 0, none⟩) (by simp) _).setCell (p := ⟨w.heap.size, 1, none⟩) (by simp) _).setCell (p := ⟨w.heap.size, 2, none⟩) (by simp) _).setCell (p := ⟨w.heap.size, 3, none⟩) (by simp) _).setCell (p := ⟨w.heap.size, 4, none⟩) (by simp) _).setCell (p := ⟨w.heap.size, 5, none⟩) (by simp) _))
end Go.Proofs.YtpdaciljdcfikaaDoor
