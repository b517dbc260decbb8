/- scan.Words walked. -/
import Derived.Test.YtpdaciljdcfikaaDoorLexBound
import Derived.Test.YtpdaciljdcfikaaDoorScanScan
import Derived.Test.YtpdaciljdcfikaaDoorWhere
namespace Go.Proofs.YtpdaciljdcfikaaDoor
open Go.RowKit Go.Shelf
set_option linter.unusedVariables false
set_option linter.unusedSimpArgs false

theorem clampN_in {s : ByteArray} {q : Nat} (h : q ≤ s.size) : clampN s q = q := by
  unfold clampN
  rw [if_neg (by omega), if_neg (by omega)]; rfl
/-- A row in its own new block is the same where more was laid behind it. -/
theorem owns_later {W W' : World} {base : Nat} {e : TypeId} {size : Nat} {v : Value} {n : Nat} {xs : List Value} (h : W.ownsRow base e size v n xs) (hB : Below W.heap.size W W') : W'.ownsRow base e size v n xs :=
  h.kept (row := none) ⟨hB.os, hB.tape, hB.output, hB.size, fun k hk _ => hB.block k hk⟩ (by cases v.ownBlock <;> simp)
def WPost (s : ByteArray) (w : World) (e : Ending) (w' : World) : Prop :=
  ∃ v, e = .returned (.tuple #[v, .agg #[.int .i64 (atN s).1, .int .i64 (atN s).2.1, .int .i64 (atN s).2.2], .int .i64 (errN s)]) ∧ w'.ownsRow w.heap.size 41 8 v (wdsN s).length ((wdsN s).flatMap (wcells s)) ∧ (wdsN s).length ≤ s.size ∧ (wdsN s = [] → v = .slice none 0 0) ∧ Below w.heap.size w w'

set_option maxRecDepth 100000 in
set_option maxHeartbeats 4000000 in
theorem words_any (s : ByteArray) (w : World) (hs : s.size ≤ 140737488351232) (hT : Tabs w) :
    Calls Tryd.prog 22 #[.string s] w (WPost s w) := by
  by_cases hbig : 262144 < s.size
  · obtain ⟨e1, e2, e3⟩ := long_spec hbig
    go_enter Tryd.func22, Tryd.ntmps22
    go_wp2_with fail
    have c0 : (w.alloc (.cells #[.int .i64 0, .int .i64 1, .int .i64 1] 28)).cell? ⟨w.heap.size, 0, none⟩ = some (.int .i64 0) := (Blk.new' w _ _).cell 0
    have c1 : (w.alloc (.cells #[.int .i64 0, .int .i64 1, .int .i64 1] 28)).cell? ⟨w.heap.size, 1, none⟩ = some (.int .i64 1) := (Blk.new' w _ _).cell 1
    have c2 : (w.alloc (.cells #[.int .i64 0, .int .i64 1, .int .i64 1] 28)).cell? ⟨w.heap.size, 2, none⟩ = some (.int .i64 1) := (Blk.new' w _ _).cell 2
    refine bodyPost_ret (v := .tuple #[.slice none 0 0, .agg #[.int .i64 0, .int .i64 1, .int .i64 1], .int .i64 3]) (by simp [results, Tryd.results22, go_sem, c0, c1, c2]) rfl ?_
    refine ⟨.slice none 0 0, by rw [e1, e2]; rfl, ?_, ?_, fun _ => rfl, (Below.refl _ w).alloc (Nat.le_refl _) _⟩
    · rw [e3]; exact World.ownsRow_nil _ _ _ _
    · rw [e3]; exact Nat.zero_le _
  · have hs2 : s.size ≤ 262144 := by omega
    go_enter Tryd.func22, Tryd.ntmps22
    go_wp2_with fail
    have b0 := Blk.new' w #[.int .i64 0, .int .i64 0, .int .i64 0] 28
    have hT1 : Tabs (w.alloc (.cells #[.int .i64 0, .int .i64 0, .int .i64 0] 28)) := Utf8Tabs_below hT ((Below.refl _ w).alloc (Nat.le_refl _) _)
    have hB1 : Below w.heap.size w (w.alloc (.cells #[.int .i64 0, .int .i64 0, .int .i64 0] 28)) := (Below.refl _ w).alloc (Nat.le_refl _) _
    have hz1 : (w.alloc (.cells #[.int .i64 0, .int .i64 0, .int .i64 0] 28)).heap.size = w.heap.size + 1 := by simp
    generalize w.alloc (.cells #[.int .i64 0, .int .i64 0, .int .i64 0] 28) = W1 at *
    refine (scan_any s W1 hs2 hT1).mono ?_
    rintro e w2 (⟨l, v, he, rfl, hown, hlen, hnil, hb2⟩ | ⟨l, q, he, rfl, hb2⟩)
    · obtain ⟨e1, e2, e3⟩ := good_spec hs2 he
      have b2 := b0.keep (Keep.of_below hb2 (fun _ => False)) (by simp)
      have c0 := b2.cell 0
      have c1 := b2.cell 1
      have c2 := b2.cell 2
      have f0 := b2.frozen 0
      have f1 := b2.frozen 1
      have f2 := b2.frozen 2
      have hq1 : ((-1 : Int) == (s.size : Int)) = false := by simp
      go_wp2_with fail
      have b3 := ((b2.set 0 (.int .i64 0)).set 1 (.int .i64 0)).set 2 (.int .i64 0)
      have r0 := b3.cell 0
      have r1 := b3.cell 1
      have r2 := b3.cell 2
      refine bodyPost_ret (v := .tuple #[v, .agg #[.int .i64 0, .int .i64 0, .int .i64 0], .int .i64 0]) (by simp [results, Tryd.results22, go_sem, r0, r1, r2]) rfl ?_
      refine ⟨v, by rw [e1, e2]; rfl, ?_, by rw [e3]; exact hlen, by rw [e3]; exact hnil, ?_⟩
      · rw [e3]
        exact owns_mono (ownsRow_setCell_below (ownsRow_setCell_below (ownsRow_setCell_below hown (by dsimp only; omega) _) (by dsimp only; omega) _) (by dsimp only; omega) _) (by omega)
      · exact (((hB1.trans (hb2.mono (by omega))).setCell (p := ⟨w.heap.size, 0, none⟩) (by simp) _).setCell (p := ⟨w.heap.size, 1, none⟩) (by simp) _).setCell (p := ⟨w.heap.size, 2, none⟩) (by simp) _
    · obtain ⟨e1, e2, e3⟩ := bad_spec hs2 he
      have hq := lexN_le he
      have b2 := b0.keep (Keep.of_below hb2 (fun _ => False)) (by simp)
      have c0 := b2.cell 0
      have c1 := b2.cell 1
      have c2 := b2.cell 2
      have f0 := b2.frozen 0
      have f1 := b2.frozen 1
      have f2 := b2.frozen 2
      have hw := fun W => where_any s q W hs (by omega) (by omega)
      rw [clampN_in hq] at hw
      have Hw := Lib.hid hw
      clear hw
      by_cases heq : q = s.size
      · subst heq
        generalize hL : (lcN s s.size 0 1 1).1 = L at *
        generalize hC : (lcN s s.size 0 1 1).2 = C at *
        have HL := Lib.hid hL
        have HC := Lib.hid hC
        clear hL hC
        go_wp2_with fail
        refine (Hw.out w2).mono ?_
        rintro e w3 ⟨rfl, hb3⟩
        have b3 := b2.keep (Keep.of_below hb3 (fun _ => False)) (by simp)
        have c0 := b3.cell 0
        have c1 := b3.cell 1
        have c2 := b3.cell 2
        have f0 := b3.frozen 0
        have f1 := b3.frozen 1
        have f2 := b3.frozen 2
        go_wp2_with fail
        have b4 := ((b3.set 0 (.int .i64 (s.size : Nat))).set 1 (.int .i64 (L : Nat))).set 2 (.int .i64 (C : Nat))
        have r0 := b4.cell 0
        have r1 := b4.cell 1
        have r2 := b4.cell 2
        refine bodyPost_ret (v := .tuple #[.slice none 0 0, .agg #[.int .i64 (s.size : Nat), .int .i64 L, .int .i64 C], .int .i64 21]) (by simp [results, Tryd.results22, go_sem, r0, r1, r2]) rfl ?_
        refine ⟨.slice none 0 0, by rw [e1, e2]; simp, ?_, by rw [e3]; exact Nat.zero_le _, fun _ => rfl, ?_⟩
        · rw [e3]; exact World.ownsRow_nil _ _ _ _
        · exact (((hB1.trans (hb2.mono (by omega))).trans (hb3.mono (by have := hb2.size; omega))).setCell (p := ⟨w.heap.size, 0, none⟩) (by simp) _).setCell (p := ⟨w.heap.size, 1, none⟩) (by simp) _ |>.setCell (p := ⟨w.heap.size, 2, none⟩) (by simp) _
      · have hq1 : ((q : Int) == (s.size : Int)) = false := by simp; omega
        generalize hL : (lcN s q 0 1 1).1 = L at *
        generalize hC : (lcN s q 0 1 1).2 = C at *
        have HL := Lib.hid hL
        have HC := Lib.hid hC
        clear hL hC
        go_wp2_with fail
        refine (Hw.out w2).mono ?_
        rintro e w3 ⟨rfl, hb3⟩
        have b3 := b2.keep (Keep.of_below hb3 (fun _ => False)) (by simp)
        have c0 := b3.cell 0
        have c1 := b3.cell 1
        have c2 := b3.cell 2
        have f0 := b3.frozen 0
        have f1 := b3.frozen 1
        have f2 := b3.frozen 2
        go_wp2_with fail
        have b4 := ((b3.set 0 (.int .i64 (q : Nat))).set 1 (.int .i64 (L : Nat))).set 2 (.int .i64 (C : Nat))
        have r0 := b4.cell 0
        have r1 := b4.cell 1
        have r2 := b4.cell 2
        refine bodyPost_ret (v := .tuple #[.slice none 0 0, .agg #[.int .i64 (q : Nat), .int .i64 L, .int .i64 C], .int .i64 20]) (by simp [results, Tryd.results22, go_sem, r0, r1, r2]) rfl ?_
        refine ⟨.slice none 0 0, by rw [e1, e2]; rw [if_neg heq]; rfl, ?_, by rw [e3]; exact Nat.zero_le _, fun _ => rfl, ?_⟩
        · rw [e3]; exact World.ownsRow_nil _ _ _ _
        · exact (((hB1.trans (hb2.mono (by omega))).trans (hb3.mono (by have := hb2.size; omega))).setCell (p := ⟨w.heap.size, 0, none⟩) (by simp) _).setCell (p := ⟨w.heap.size, 1, none⟩) (by simp) _ |>.setCell (p := ⟨w.heap.size, 2, none⟩) (by simp) _
end Go.Proofs.YtpdaciljdcfikaaDoor
