/- guiseref4.Legal walked, and that it is scan.Legal's answer for short texts. -/
import Derived.Test.YtpdaciljdcfikaaDoorRefWords
import Derived.Test.YtpdaciljdcfikaaDoorTold
import Derived.Test.YtpdaciljdcfikaaDoorLegal
namespace Go.Proofs.YtpdaciljdcfikaaDoor
open Go.RowKit Go.Shelf
set_option linter.unusedVariables false
set_option linter.unusedSimpArgs false

/-- What guiseref4.Legal answers. -/
def rlegalB (s : ByteArray) : Bool :=
  errN s == 0 && match wdsN s with
    | [wd] => wd.kind == 1 && wd.fr == 0 && wd.en == s.size
    | _ => false

set_option maxRecDepth 100000 in
set_option maxHeartbeats 3000000 in
theorem rlegal_any (s : ByteArray) (w : World) (hs : s.size ≤ 140737488351232) :
    Calls Tryd.prog 21 #[.string s] w fun e w' => e = .returned (.bool (rlegalB s)) ∧ Below w.heap.size w w' := by
  have hw := fun W => rwords_any s W hs
  unfold RWords at hw
  by_cases he : errN s = 0
  · rw [he] at hw
    have hr : rlegalB s = (match wdsN s with | [wd] => wd.kind == 1 && wd.fr == 0 && wd.en == s.size | _ => false) := by unfold rlegalB; rw [he]; rfl
    cases hl : wdsN s with
    | nil =>
      rw [hl] at hw hr
      have Hw := Lib.hid hw
      have Hr := Lib.hid hr
      clear hw hr hl he
      go_enter Tryd.func21, Tryd.ntmps21
      go_wp2_with fail
      refine Calls.mono (Hw.out _) ?_
      rintro e w1 ⟨v, rfl, _, _, hnil, hB⟩
      obtain rfl := hnil (by first | rfl | trivial)
      go_wp2_with fail
      go_ret
      exact ⟨by rw [Hr.out]; rfl, hB⟩
    | cons wd t =>
      cases t with
      | cons wd2 t =>
        rw [hl] at hw hr
        have Hw := Lib.hid hw
        have Hr := Lib.hid hr
        clear hw hr he
        go_enter Tryd.func21, Tryd.ntmps21
        go_wp2_with fail
        refine Calls.mono (Hw.out _) ?_
        rintro e w1 ⟨v, rfl, hown, hlen, _, hB⟩
        obtain ⟨g, cap, rfl, hg, hcap, hcell⟩ := owns_at hown (fun x => rfl) (by simp)
        have hd : (((wd :: wd2 :: t).length : Int) == 1) = false := by rw [beq_eq_false_iff_ne]; simp; omega
        clear hcell hown
        generalize (wd :: wd2 :: t).length = n at *
        go_wp2_with fail
        go_ret
        exact ⟨by rw [Hr.out]; rfl, hB⟩
      | nil =>
        rw [hl] at hw hr
        have Hw := Lib.hid hw
        have Hr := Lib.hid (show rlegalB s = (wd.kind == 1 && wd.fr == 0 && wd.en == s.size) from hr)
        clear hw hr hl he
        go_enter Tryd.func21, Tryd.ntmps21
        go_wp2_with fail
        refine Calls.mono (Hw.out _) ?_
        rintro e w1 ⟨v, rfl, hown, hlen, _, hB⟩
        obtain ⟨g, cap, rfl, hg, hcap, hcell⟩ := owns_at hown (fun x => rfl) (by simp)
        have r0 : w1.cell? ⟨g, 0, none⟩ = some (.int .i64 wd.kind) := hcell 0 0 (by simp) (by omega)
        have r4 : w1.cell? ⟨g, 4, none⟩ = some (.int .i64 wd.fr) := hcell 0 4 (by simp) (by omega)
        have r5 : w1.cell? ⟨g, 5, none⟩ = some (.int .i64 wd.en) := hcell 0 5 (by simp) (by omega)
        clear hcell hown
        simp only [List.length_cons, List.length_nil, Nat.zero_add] at hlen hcap ⊢
        have c1 : ((wd.kind : Int) == 1) = (wd.kind == 1) := by rw [Bool.eq_iff_iff, beq_iff_eq, beq_iff_eq]; omega
        have c2 : ((wd.fr : Int) == 0) = (wd.fr == 0) := by rw [Bool.eq_iff_iff, beq_iff_eq, beq_iff_eq]; omega
        have c3 : ((wd.en : Int) == (s.size : Int)) = (wd.en == s.size) := by rw [Bool.eq_iff_iff, beq_iff_eq, beq_iff_eq]; omega
        by_cases b1 : wd.kind = 1
        · have d1 : ((wd.kind : Int) == 1) = true := by rw [beq_iff_eq]; omega
          by_cases b2 : wd.fr = 0
          · have d2 : ((wd.fr : Int) == 0) = true := by rw [beq_iff_eq]; omega
            by_cases b3 : wd.en = s.size
            · have d3 : ((wd.en : Int) == (s.size : Int)) = true := by rw [beq_iff_eq]; omega
              have HR := Lib.hid (show rlegalB s = true by rw [Hr.out, b1, b2, b3]; simp)
              clear b1 b2 b3 c1 c2 c3
              go_wp2_with fail
              go_ret
              exact ⟨by rw [HR.out]; rfl, hB⟩
            · have d3 : ((wd.en : Int) == (s.size : Int)) = false := by rw [beq_eq_false_iff_ne]; omega
              have HR := Lib.hid (show rlegalB s = false by rw [Hr.out, ← c3, d3, Bool.and_false])
              clear b1 b2 b3 c1 c2 c3
              go_wp2_with fail
              go_ret
              exact ⟨by rw [HR.out]; rfl, hB⟩
          · have d2 : ((wd.fr : Int) == 0) = false := by rw [beq_eq_false_iff_ne]; omega
            have HR := Lib.hid (show rlegalB s = false by rw [Hr.out, ← c2, d2, Bool.and_false, Bool.false_and])
            clear b1 b2 c1 c2 c3
            go_wp2_with fail
            go_ret
            exact ⟨by rw [HR.out]; rfl, hB⟩
        · have d1 : ((wd.kind : Int) == 1) = false := by rw [beq_eq_false_iff_ne]; omega
          have HR := Lib.hid (show rlegalB s = false by rw [Hr.out, ← c1, d1, Bool.false_and, Bool.false_and])
          clear b1 c1 c2 c3
          go_wp2_with fail
          go_ret
          exact ⟨by rw [HR.out]; rfl, hB⟩
  · have hr : rlegalB s = false := by unfold rlegalB; rw [show (errN s == 0) = false from by rw [beq_eq_false_iff_ne]; exact he]; rfl
    have d0 : ((errN s : Int) == 0) = false := by rw [beq_eq_false_iff_ne]; omega
    generalize errN s = er at *
    have Hw := Lib.hid hw
    have Hr := Lib.hid hr
    clear hw hr he
    go_enter Tryd.func21, Tryd.ntmps21
    go_wp2_with fail
    refine Calls.mono (Hw.out _) ?_
    rintro e w1 ⟨v, rfl, _, _, _, hB⟩
    go_wp2_with fail
    go_ret
    exact ⟨by rw [Hr.out]; rfl, hB⟩
end Go.Proofs.YtpdaciljdcfikaaDoor
