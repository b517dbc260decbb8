/- scan.begun and scan.broken walked: what they answer. -/
import Derived.Test.YtpdaciljdcfikaaDoorScanBase
namespace Go.Proofs.YtpdaciljdcfikaaDoor
open Go.RowKit Go.Shelf
set_option linter.unusedVariables false
set_option linter.unusedSimpArgs false

def tails : List ByteArray := [⟨#[]⟩, ⟨#[128]⟩, ⟨#[128, 128]⟩, ⟨#[128, 128, 128]⟩, ⟨#[191]⟩, ⟨#[191, 128]⟩, ⟨#[191, 128, 128]⟩]
def whole (s : ByteArray) : Bool := ((Lib.decodeGo s).2 == s.size) && (!((Lib.decodeGo s).1 == 65533) || (Lib.decodeGo s).2 == 3)
def begunB (s : ByteArray) : Bool := tails.any fun t => whole (s ++ t)

theorem whole_iff (x : ByteArray) : whole x = true ↔ ((Lib.decodeGo x).2 = x.size ∧ ((Lib.decodeGo x).1 ≠ 65533 ∨ (Lib.decodeGo x).2 = 3)) := by
  simp [whole]
theorem begunB_true {s t : ByteArray} {k : Nat} (hk : k < 7) (ht : tails.getD k ByteArray.empty = t) (h : (Lib.decodeGo (s ++ t)).2 = s.size + t.size ∧ ((Lib.decodeGo (s ++ t)).1 ≠ 65533 ∨ (Lib.decodeGo (s ++ t)).2 = 3)) : begunB s = true := by
  rw [begunB, List.any_eq_true]
  refine ⟨t, ?_, (whole_iff _).2 (by rw [ByteArray.size_append]; exact h)⟩
  rw [← ht, getD_lt _ _ _ (by simpa [tails] using hk)]
  exact List.getElem_mem _
theorem begunB_step {s t : ByteArray} {k : Nat} (hj : ∀ j, j < k → whole (s ++ tails.getD j ByteArray.empty) = false) (ht : tails.getD k ByteArray.empty = t)
    (h : ¬ ((Lib.decodeGo (s ++ t)).2 = s.size + t.size ∧ ((Lib.decodeGo (s ++ t)).1 ≠ 65533 ∨ (Lib.decodeGo (s ++ t)).2 = 3))) : ∀ j, j < k + 1 → whole (s ++ tails.getD j ByteArray.empty) = false := by
  intro j hlt
  by_cases e : j = k
  · subst e
    rw [ht]
    exact Bool.eq_false_iff.2 fun hw => h (by have := (whole_iff _).1 hw; rw [ByteArray.size_append] at this; exact this)
  · exact hj j (by omega)
theorem begunB_false {s : ByteArray} (hj : ∀ j, j < 7 → whole (s ++ tails.getD j ByteArray.empty) = false) : begunB s = false := by
  rw [begunB, List.any_eq_false]
  intro t ht
  obtain ⟨j, hlt, e⟩ := List.getElem_of_mem ht
  have := hj j (by simpa [tails] using hlt)
  rw [getD_lt _ _ _ hlt, e] at this
  simp [this]
theorem tails_size (k : Nat) : (tails.getD k ByteArray.empty).size ≤ 3 := by
  match k with
  | 0 => decide
  | 1 => decide
  | 2 => decide
  | 3 => decide
  | 4 => decide
  | 5 => decide
  | 6 => decide
  | k + 7 => simp [tails]

set_option maxHeartbeats 1000000 in
theorem begun_any (s : ByteArray) (w : World) (hs : s.size ≤ 140737488351232) (hT : Tabs w) :
    Calls Tryd.prog 105 #[.string s] w fun e w' => e = .returned (.bool (begunB s)) ∧ Below w.heap.size w w' := by
  go_enter Tryd.func105, Tryd.ntmps105
  go_wp2_with fail
  have hcells : ∀ k, k < 7 → (w.alloc (Obj.cells #[Value.string { data := #[] }, Value.string { data := #[128] }, Value.string { data := #[128, 128] }, Value.string { data := #[128, 128, 128] }, Value.string { data := #[191] }, Value.string { data := #[191, 128] }, Value.string { data := #[191, 128, 128] }] 9)).cell? ⟨w.heap.size, k, none⟩ = some (.string (tails.getD k ByteArray.empty)) := by
    intro k hk
    match k, hk with
    | 0, _ => rw [World.cell?_alloc_new]; rfl
    | 1, _ => rw [World.cell?_alloc_new]; rfl
    | 2, _ => rw [World.cell?_alloc_new]; rfl
    | 3, _ => rw [World.cell?_alloc_new]; rfl
    | 4, _ => rw [World.cell?_alloc_new]; rfl
    | 5, _ => rw [World.cell?_alloc_new]; rfl
    | 6, _ => rw [World.cell?_alloc_new]; rfl
    | k + 7, h => omega
  have hb0 : Below w.heap.size w (w.alloc (Obj.cells #[Value.string { data := #[] }, Value.string { data := #[128] }, Value.string { data := #[128, 128] }, Value.string { data := #[128, 128, 128] }, Value.string { data := #[191] }, Value.string { data := #[191, 128] }, Value.string { data := #[191, 128, 128] }] 9)) := (Below.refl _ _).alloc (Nat.le_refl _) _
  generalize hW : (w.alloc (Obj.cells #[Value.string { data := #[] }, Value.string { data := #[128] }, Value.string { data := #[128, 128] }, Value.string { data := #[128, 128, 128] }, Value.string { data := #[191] }, Value.string { data := #[191, 128] }, Value.string { data := #[191, 128, 128] }] 9)) = W1 at *
  have hsz : W1.heap.size = w.heap.size + 1 := by rw [← hW]; simp
  have hT1 : Tabs W1 := Utf8Tabs_below hT hb0
  have Hsz := Lib.hid hsz
  clear hsz hW
  have Hc := Lib.hid hcells
  clear hcells
  go_loopw [9] (fun i wr => ∃ k : Nat, k ≤ 7 ∧ i = .int .i64 k ∧ Hid (∀ j, j < k → whole (s ++ tails.getD j ByteArray.empty) = false) ∧ Below W1.heap.size W1 wr) (fun i _ => 7 - (intOf i).toNat)
  case atStart => exact ⟨0, by omega, rfl, Lib.hid (fun j h => by omega), Below.refl _ _⟩
  case round =>
    obtain ⟨k, hk, rfl, Hj, hB⟩ := hrel
    by_cases hlt : k < 7
    · have hc : wr.cell? ⟨w.heap.size, k, none⟩ = some (.string (tails.getD k ByteArray.empty)) := by
        rw [hB.cell (p := ⟨w.heap.size, k, none⟩) (by have := Hsz.out; simp; omega)]; exact Hc.out k hlt
      have hts := tails_size k
      generalize ht : tails.getD k ByteArray.empty = t at *
      have Ht := Lib.hid ht
      clear ht
      have hT2 : Tabs wr := Utf8Tabs_below hT1 hB
      go_wp2_with fail
      refine (Tryd.utf8_DecodeRuneInString _ _ hT2).mono ?_
      rintro e w2 ⟨rfl, hB2⟩
      go_wp2_with fail
      all_goals try simp only [beq_iff_eq, beq_eq_false_iff_ne] at *
      all_goals first | (go_ret; exact ⟨ret_bool (begunB_true hlt Ht.out (by omega)).symm, hb0.trans ((hB.trans (hB2.mono hB.size)).mono hb0.size)⟩) | (refine ⟨⟨k + 1, by omega, by go_num, begunB_step Hj.out Ht.out (by omega), hB.trans (hB2.mono hB.size)⟩, by simp [intOf]; omega⟩)
    · go_wp2_with fail
      go_ret
      exact ⟨ret_bool (begunB_false (fun j h => Hj.out j (by omega))).symm, hb0.trans (hB.mono hb0.size)⟩
end Go.Proofs.YtpdaciljdcfikaaDoor
