/- guiselaw4.ends and goes walked. -/
import Derived.Test.YtpdaciljdcfikaaDoorWords
import Derived.Test.YtpdaciljdcfikaaDoorFirstCut
namespace Go.Proofs.YtpdaciljdcfikaaDoor
open Go.RowKit Go.Shelf
set_option linter.unusedVariables false
set_option linter.unusedSimpArgs false

theorem ends_size : ∀ i (h : i < endsL.length), (endsL[i]).size ≤ 5 := by
  have h : ∀ e ∈ endsL, e.size ≤ 5 := by decide
  exact fun i hi => h _ (List.getElem_mem hi)
def goesB (s : ByteArray) : Bool := endsL.any (fun e => errN (s ++ e) == 0)
theorem goes_true {s : ByteArray} {i : Nat} (h : i < endsL.length) (e : errN (s ++ endsL[i]) = 0) : goesB s = true :=
  List.any_eq_true.2 ⟨_, List.getElem_mem h, by rw [e]; rfl⟩
theorem goes_false {s : ByteArray} (h : ∀ i (hi : i < endsL.length), ¬ errN (s ++ endsL[i]) = 0) : goesB s = false := by
  unfold goesB
  rw [List.any_eq_false]
  intro x hx
  obtain ⟨i, hi, rfl⟩ := List.mem_iff_getElem.1 hx
  have := h i hi
  simpa using this
set_option maxRecDepth 100000 in
theorem ends_any (w : World) : Calls Tryd.prog 41 #[] w fun e w' => e = .returned (.slice (some ⟨w.heap.size, 0, none⟩) 24 24) ∧ w.alloc (.cells (endsL.map .string).toArray 9) = w' := by
  go_enter Tryd.func41, Tryd.ntmps41
  go_wp2
  go_ret
  exact ⟨rfl, rfl⟩

set_option maxRecDepth 100000 in
set_option maxHeartbeats 3000000 in
theorem goes_any (s : ByteArray) (w : World) (hs : s.size ≤ 200000) (hT : Tabs w) :
    Calls Tryd.prog 23 #[.string s] w fun e w' => e = .returned (.bool (goesB s)) ∧ Below w.heap.size w w' := by
  have HT := Lib.hid hT
  clear hT
  go_enter Tryd.func23, Tryd.ntmps23
  go_wp2_with fail
  refine Calls.mono (ends_any _) ?_
  rintro e w' ⟨rfl, rfl⟩
  have hB0 : Below w.heap.size w (w.alloc (.cells (endsL.map .string).toArray 9)) := (Below.refl _ w).alloc (Nat.le_refl _) _
  have bE := Blk.new w (endsL.map .string) 9
  generalize w.alloc (.cells (endsL.map .string).toArray 9) = W0 at *
  go_wp2_with fail
  go_loopw [4] (fun v4 wr => ∃ i : Nat, v4 = .int .i64 i ∧ i ≤ 24 ∧ Hid (∀ j (hj : j < endsL.length), j < i → ¬ errN (s ++ endsL[j]) = 0) ∧ Blk wr w.heap.size (endsL.map .string) 9 ∧ Below w.heap.size w wr) (fun v4 _ => 24 - (intOf v4).toNat)
  case atStart => exact ⟨0, rfl, by omega, Lib.hid (fun j _ h => absurd h (by omega)), bE, hB0⟩
  case round =>
    clear bE hB0
    obtain ⟨i, rfl, hi, Hno, bE, hB⟩ := hrel
    by_cases hlt : i < 24
    · have hlt' : i < endsL.length := hlt
      have q0 : wr.cell? ⟨w.heap.size, i, none⟩ = some (.string endsL[i]) := by
        rw [bE.cell i, List.getElem?_map, List.getElem?_eq_getElem hlt']; rfl
      have hE5 := ends_size i hlt'
      have HG := Lib.hid (fun e => goes_true (s := s) hlt' e)
      have HN : Hid (¬ errN (s ++ endsL[i]) = 0 → ∀ j (hj : j < endsL.length), j < i + 1 → ¬ errN (s ++ endsL[j]) = 0) := Lib.hid (fun h j hj hji => by
        by_cases c : j = i
        · subst c; exact h
        · exact Hno.out j hj (by omega))
      generalize endsL[i] = E at *
      have hse : (s ++ E).size ≤ 200005 := by rw [ByteArray.size_append]; omega
      have hws := fun W h => words_any (s ++ E) W (by omega) h
      unfold WPost at hws
      have HWS := Lib.hid hws
      clear hws
      have i0 : (0 : Int) ≤ (i : Int) := Int.natCast_nonneg _
      have i1 : (i : Int) < 24 := by omega
      by_cases he : errN (s ++ E) = 0
      · have HR := Lib.hid (HG.out he)
        have HE := Lib.hid he
        clear he
        go_wp2_with fail
        refine Calls.mono (HWS.out _ (Utf8Tabs_below HT.out hB)) ?_
        rintro e w2 ⟨v, rfl, _, _, _, hB2⟩
        rw [HE.out]
        have c2 := hB.trans (hB2.mono hB.size)
        have c3 := fun o => c2.alloc c2.size o
        go_wp2_with fail
        go_ret
        exact ⟨by rw [HR.out]; rfl, c3 _⟩
      · have HR := Lib.hid (HN.out he)
        have d0 : ((errN (s ++ E) : Int) == 0) = false := by rw [beq_eq_false_iff_ne]; omega
        clear he
        go_wp2_with fail
        refine Calls.mono (HWS.out _ (Utf8Tabs_below HT.out hB)) ?_
        rintro e w2 ⟨v, rfl, _, _, _, hB2⟩
        have c2 := hB.trans (hB2.mono hB.size)
        have b2 := bE.keep (Keep.of_below hB2 (fun _ => False)) (by simp)
        go_wp2_with fail
        exact ⟨⟨i + 1, by go_num, by omega, HR, b2.alloc _, c2.alloc c2.size _⟩, by simp [intOf]; omega⟩
    · obtain rfl : i = 24 := by omega
      have HR := Lib.hid (goes_false (s := s) (fun j hj => Hno.out j hj hj))
      go_wp2_with fail
      go_ret
      exact ⟨by rw [HR.out]; rfl, hB⟩
end Go.Proofs.YtpdaciljdcfikaaDoor
