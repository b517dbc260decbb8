/- (*scan.cursor).to walked: it goes on over valid runes. -/
import Derived.Test.YtpdaciljdcfikaaDoorScanBase
import Derived.Test.YtpdaciljdcfikaaDoorLexWhere
import Derived.Test.YtpdaciljdcfikaaDoorKeep
import Derived.BigRegion
namespace Go.Proofs.YtpdaciljdcfikaaDoor
open Go.RowKit Go.Shelf
set_option linter.unusedVariables false
set_option linter.unusedSimpArgs false

def cur (s : ByteArray) (b l c : Nat) : List Value := [.string s, .int .i64 b, .int .i64 l, .int .i64 c]

set_option maxHeartbeats 2000000 in
set_option maxRecDepth 100000 in
theorem to_any (s : ByteArray) (bc a b l c : Nat) (w : World) (hs : s.size ≤ 140737488351232) (hc : Blk w bc (cur s a l c) 105) (hb : b ≤ s.size) (hg : Seg s a b) (hl : l ≤ a + 1) (hcl : c ≤ a + 1) :
    Calls Tryd.prog 69 #[.pointer (some ⟨bc, 0, none⟩), .int .i64 b] w fun e w' => e = .returned (.agg #[.int .i64 b, .int .i64 (lcN s b a l c).1, .int .i64 (lcN s b a l c).2]) ∧
      Blk w' bc (cur s b (lcN s b a l c).1 (lcN s b a l c).2) 105 ∧ Keep (· = bc) w w' := by
  have hab := hg.le
  have c0 : w.cell? ⟨bc, 0, none⟩ = some (.string s) := hc.cell 0
  have c1 : w.cell? ⟨bc, 1, none⟩ = some (.int .i64 a) := hc.cell 1
  have hbc := hc.lt
  go_enter Tryd.func69, Tryd.ntmps69
  go_wp2_with fail
  go_region
  go_wp2_with fail
  have hb0 : Blk ((w.alloc (Obj.cells #[Value.int IntKind.i64 0, Value.int IntKind.i64 0, Value.int IntKind.i64 0] 28)).drew.iter (s.extract a b) 0) w.heap.size [.int .i64 0, .int .i64 0, .int .i64 0] 28 := (Blk.new w [.int .i64 0, .int .i64 0, .int .i64 0] 28).drew.iter _ _
  have hi0 : Itr ((w.alloc (Obj.cells #[Value.int IntKind.i64 0, Value.int IntKind.i64 0, Value.int IntKind.i64 0] 28)).drew.iter (s.extract a b) 0) (w.heap.size + 1) (s.extract a b) 0 := by
    have := Itr.new (w.alloc (Obj.cells #[Value.int IntKind.i64 0, Value.int IntKind.i64 0, Value.int IntKind.i64 0] 28)).drew (s.extract a b) 0
    simpa using this
  have hc0 : Blk ((w.alloc (Obj.cells #[Value.int IntKind.i64 0, Value.int IntKind.i64 0, Value.int IntKind.i64 0] 28)).drew.iter (s.extract a b) 0) bc (cur s a l c) 105 := ((hc.alloc _).drew).iter _ _
  have hk0 : Keep (· = bc) w ((w.alloc (Obj.cells #[Value.int IntKind.i64 0, Value.int IntKind.i64 0, Value.int IntKind.i64 0] 28)).drew.iter (s.extract a b) 0) := (((Keep.refl _ w).alloc _).drew).iter _ _
  have hz0 : ((w.alloc (Obj.cells #[Value.int IntKind.i64 0, Value.int IntKind.i64 0, Value.int IntKind.i64 0] 28)).drew.iter (s.extract a b) 0).heap.size = w.heap.size + 2 := by simp [World.iter]
  generalize ((w.alloc (Obj.cells #[Value.int IntKind.i64 0, Value.int IntKind.i64 0, Value.int IntKind.i64 0] 28)).drew.iter (s.extract a b) 0) = W0 at *
  have Hz := Lib.hid hz0
  clear hz0 c0 c1
  go_loopg [] (b - a) (fun f wr => ∃ i l' c' : Nat, a ≤ i ∧ i ≤ b ∧ b - i ≤ f ∧ l' ≤ i + 1 ∧ c' ≤ i + 1 ∧ Hid (Seg s i b) ∧ Hid (lcN s b i l' c' = lcN s b a l c) ∧
    Blk wr w.heap.size [.int .i64 0, .int .i64 0, .int .i64 0] 28 ∧ Itr wr (w.heap.size + 1) (s.extract a b) (i - a) ∧ Blk wr bc (cur s a l' c') 105 ∧ Keep (· = bc) w wr)
  case atStart => exact ⟨a, l, c, Nat.le_refl _, hab, Nat.le_refl _, hl, hcl, Lib.hid hg, Lib.hid rfl, hb0, by rw [Nat.sub_self]; exact hi0, hc0, hk0⟩
  case round =>
    obtain ⟨i, l', c', hai, hib, hf, hl', hc', Hseg, Hlc, hb1, hi1, hc1, hk1⟩ := hrel
    have hx : (s.extract a b).size = b - a := by simp; omega
    by_cases hlt : i < b
    · obtain ⟨hi2, hgd, hseg⟩ := Hseg.out.first hlt
      have hw := dec_width s i
      have hle := hseg.le
      have hd := dec_extract hb hai hgd hle
      have hn := fun ty => Lib.run_next_any_at (P := Tryd.prog) wr _ _ _ ty hi1 (by omega)
      rw [hd] at hn
      have hrb := dec_rune s i
      have hst := lcN_step (t := b) l' c' hlt hle
      generalize hR : (Utf8.decode s i).1 = R at *
      generalize hK : (Utf8.decode s i).2 = K at *
      have c2 : (wr.iterAt (w.heap.size + 1) (s.extract a b) (i - a + K)).cell? ⟨bc, 2, none⟩ = some (.int .i64 l') := (hc1.iterAt (by omega) _ _).cell 2
      have c3 : (wr.iterAt (w.heap.size + 1) (s.extract a b) (i - a + K)).cell? ⟨bc, 3, none⟩ = some (.int .i64 c') := (hc1.iterAt (by omega) _ _).cell 3
      have f2 : (wr.iterAt (w.heap.size + 1) (s.extract a b) (i - a + K)).frozen? ⟨bc, 2, none⟩ = false := (hc1.iterAt (by omega) _ _).frozen 2
      have f3 : (wr.iterAt (w.heap.size + 1) (s.extract a b) (i - a + K)).frozen? ⟨bc, 3, none⟩ = false := (hc1.iterAt (by omega) _ _).frozen 3
      have Hst := Lib.hid hst
      have Hd := Lib.hid hd
      have HR := Lib.hid hR
      have HK := Lib.hid hK
      have Hx := Lib.hid hx
      clear hst hd hR hK hx
      go_wp2_with fail
      all_goals go_roundg (b - (i + K))
      case measure => omega
      case measure => omega
      · have h10 : R = 10 := by have : ((R : Int) == 10) = true := by assumption
                                simp at this; omega
        have hbi := hc1.iterAt (show bc ≠ w.heap.size + 1 by omega) (s.extract a b) (i - a + K)
        refine ⟨i + K, l' + 1, 1, by omega, by omega, by omega, by omega, by omega, Lib.hid hseg, Lib.hid (by rw [← Hlc.out, Hst.out, if_pos h10]), ?_, ?_, ?_, ?_⟩
        · exact (((hb1.iterAt (by omega) _ _).other (by dsimp only; omega) _).other (by dsimp only; omega) _).other (by dsimp only; omega) _
        · rw [show i + K - a = i - a + K by omega]
          exact (((hi1.at _).other (by dsimp only; omega) _).other (by dsimp only; omega) _).other (by dsimp only; omega) _
        · exact (((hbi.set 3 _).set 2 _).set 3 _).of_eq (by simp [cur])
        · exact (((hk1.iterAt (by omega) _ _).setCell (by simp) _).setCell (by simp) _).setCell (by simp) _
      · have h10 : ¬ R = 10 := by have : ((R : Int) == 10) = false := by assumption
                                  simp at this; omega
        have hbi := hc1.iterAt (show bc ≠ w.heap.size + 1 by omega) (s.extract a b) (i - a + K)
        refine ⟨i + K, l', c' + 1, by omega, by omega, by omega, by omega, by omega, Lib.hid hseg, Lib.hid (by rw [← Hlc.out, Hst.out, if_neg h10]), ?_, ?_, ?_, ?_⟩
        · exact (hb1.iterAt (by omega) _ _).other (by dsimp only; omega) _
        · rw [show i + K - a = i - a + K by omega]
          exact (hi1.at _).other (by dsimp only; omega) _
        · exact (hbi.set 3 _).of_eq (by simp [cur])
        · exact (hk1.iterAt (by omega) _ _).setCell (by simp) _
    · have hn := fun ty => Lib.run_next_end_at (P := Tryd.prog) wr _ _ _ ty hi1 (by omega)
      have hbe : i = b := by omega
      subst hbe
      have l0 := lcN_end s i i l' c' (Nat.le_refl _)
      rw [Hlc.out] at l0
      have L0 := Lib.hid l0
      have Hx := Lib.hid hx
      clear l0 hx hf
      have f1 := hc1.frozen 1
      have c1 : wr.cell? ⟨bc, 1, none⟩ = some (.int .i64 a) := hc1.cell 1
      have c2 : wr.cell? ⟨bc, 2, none⟩ = some (.int .i64 l') := hc1.cell 2
      have c3 : wr.cell? ⟨bc, 3, none⟩ = some (.int .i64 c') := hc1.cell 3
      have d0 : wr.cell? ⟨w.heap.size, 0, none⟩ = some (.int .i64 0) := hb1.cell 0
      have d1 : wr.cell? ⟨w.heap.size, 1, none⟩ = some (.int .i64 0) := hb1.cell 1
      have d2 : wr.cell? ⟨w.heap.size, 2, none⟩ = some (.int .i64 0) := hb1.cell 2
      have e0 := hb1.frozen 0
      have e1 := hb1.frozen 1
      have e2 := hb1.frozen 2
      go_wp2_with fail
      have hbf := hc1.set 1 (.int .i64 i)
      have h2 := (hb1.other (p := ⟨bc, 1, none⟩) (by dsimp only; omega) (.int .i64 i)).set 0 (.int .i64 i)
      have h3 := h2.set 1 (.int .i64 l')
      have h4 := h3.set 2 (.int .i64 c')
      have r0 := h2.cell 0
      have r1 := h3.cell 1
      have r2 := h4.cell 2
      simp only [List.set_cons_zero, List.set_cons_succ, List.getElem?_cons_zero, List.getElem?_cons_succ] at r0 r1 r2
      refine bodyPost_ret (v := .agg #[.int .i64 i, .int .i64 l', .int .i64 c']) (by simp [results, Tryd.results69, go_sem, r0, r1, r2]) rfl ⟨by rw [L0.out], ?_, ?_⟩
      · rw [L0.out]
        exact (((hbf.other (by dsimp only; omega) _).other (by dsimp only; omega) _).other (by dsimp only; omega) _).of_eq (by simp [cur])
      · exact (((hk1.setCell (by simp) _).setCell (by intro h; dsimp only at h; omega) _).setCell (by intro h; dsimp only at h; omega) _).setCell (by intro h; dsimp only at h; omega) _
end Go.Proofs.YtpdaciljdcfikaaDoor
