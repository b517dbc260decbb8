/- The closed part of every law: known. -/
import Derived.Test.YtpdaciljdcfikaaDoorWords
import Derived.Test.YtpdaciljdcfikaaDoorText
import Derived.Test.YtpdaciljdcfikaaDoorLegal
namespace Go.Proofs.YtpdaciljdcfikaaDoor
open Go.RowKit Go.Shelf
set_option linter.unusedVariables false
set_option linter.unusedSimpArgs false

abbrev s1 : ByteArray := { data := #[102, 111, 108, 100, 32, 39, 65, 39, 32, 61, 32, 85, 43, 48, 48, 54, 49, 59] }
abbrev s2 : ByteArray := { data := #[39, 195, 169] }
abbrev s3 : ByteArray := { data := #[39, 195, 169, 39] }
theorem k1 : errN s1 = 0 := by kernel_rfl
theorem k2 : atN s1 = (0, 0, 0) := by kernel_rfl
theorem k3 : (wdsN s1).length = 5 := by kernel_rfl
theorem k4 : ((wdsN s1).flatMap (wcells s1))[10]? = some (.int .i32 65) := by kernel_rfl
theorem k5 : ((wdsN s1).flatMap (wcells s1))[26]? = some (.int .i32 97) := by kernel_rfl
theorem k6 : ((wdsN s1).flatMap (wcells s1))[28]? = some (.int .i64 11) := by kernel_rfl
theorem k7 : ((wdsN s1).flatMap (wcells s1))[29]? = some (.int .i64 1) := by kernel_rfl
theorem k8 : ((wdsN s1).flatMap (wcells s1))[30]? = some (.int .i64 12) := by kernel_rfl
theorem kn_m1 : errN s2 = 21 := by kernel_rfl
theorem kn_m2 : atN s2 = (3, 1, 3) := by kernel_rfl
theorem kn_m3 : wdsN s2 = [] := by kernel_rfl
theorem t1 : textL 97 = [39, 97, 39] := by kernel_rfl
theorem t2 : textE 97 = 0 := by kernel_rfl
theorem t3 : textL 233 = [85, 43, 48, 48, 69, 57] := by kernel_rfl
theorem t4 : textE 233 = 0 := by kernel_rfl
theorem g1 : legalB ⟨#[97, 45, 57]⟩ = true := by decide +kernel
theorem g2 : legalB ⟨#[65]⟩ = false := by decide +kernel
theorem h1 : clampN s3 2 = 2 := by kernel_rfl
theorem h2 : lcN s3 2 0 1 1 = (1, 2) := by kernel_rfl

theorem TzAt.alloc {w : World} (h : TzAt w) (o : Obj) : TzAt (w.alloc o) := h.below ((Below.refl _ w).alloc (Nat.le_refl _) o)
theorem Tabs.alloc {w : World} (h : Tabs w) (o : Obj) : Tabs (w.alloc o) := Utf8Tabs_below h ((Below.refl _ w).alloc (Nat.le_refl _) o)

set_option maxRecDepth 100000 in
set_option maxHeartbeats 4000000 in
theorem known_any (w : World) (hT : Tabs w) (hZ : TzAt w) :
    Calls Tryd.prog 12 #[] w fun e w' => e = .returned (.bool true) ∧ Below w.heap.size w w' := by
  have hT0 := Lib.hid hT
  have hZ0 := Lib.hid hZ
  clear hT hZ
  go_enter Tryd.func12, Tryd.ntmps12
  go_wp2_with fail
  refine (words_any s1 w (by decide) hT0.out).mono ?_
  rintro e w1 ⟨v, rfl, hown, _, _, hB1⟩
  rw [k1, k2]
  have hn := k3
  obtain ⟨hlen, hv⟩ := hown
  rw [k3] at hv
  obtain ⟨g, cap, cur, rfl, hg, hheap, hcap, hmax, hcs, htk⟩ := hv.resolve_left (fun h => by cases h.2)
  have hc : ∀ j u, j < 40 → ((wdsN s1).flatMap (wcells s1))[j]? = some u → w1.cell? ⟨g, j, none⟩ = some u := by
    intro j u hj hu
    rw [← htk, List.getElem?_take_of_lt (by omega)] at hu
    simpa [World.cell?, hheap] using hu
  have c10 := hc 10 _ (by omega) k4
  have c26 := hc 26 _ (by omega) k5
  have c28 := hc 28 _ (by omega) k6
  have c29 := hc 29 _ (by omega) k7
  have c30 := hc 30 _ (by omega) k8
  clear hc htk hcs hv hlen hn
  have hglt : g < w1.heap.size := lt_of_block hheap
  clear hheap
  go_wp2_with fail
  have hBa : Below w1.heap.size w1 (w1.alloc (.cells #[.int .i64 0, .int .i64 0, .int .i64 0] 28)) := (Below.refl _ w1).alloc (Nat.le_refl _) _
  have bA := Blk.new' w1 #[.int .i64 0, .int .i64 0, .int .i64 0] 28
  have hza : w1.heap.size < (w1.alloc (.cells #[.int .i64 0, .int .i64 0, .int .i64 0] 28)).heap.size := bA.lt
  generalize w1.alloc (.cells #[.int .i64 0, .int .i64 0, .int .i64 0] 28) = wa at *
  have hBwa : Below w.heap.size w wa := hB1.trans (hBa.mono hB1.size)
  refine (words_any s2 wa (by decide) (Utf8Tabs_below hT0.out hBwa)).mono ?_
  rintro e w2 ⟨v2, rfl, _, _, hnil, hB2⟩
  obtain rfl := hnil kn_m3
  rw [kn_m1, kn_m2]
  clear hnil
  go_wp2_with fail
  have hBb : Below w2.heap.size w2 (w2.alloc (.cells #[.int .i64 3, .int .i64 1, .int .i64 3] 28)) := (Below.refl _ w2).alloc (Nat.le_refl _) _
  have bB := Blk.new' w2 #[.int .i64 3, .int .i64 1, .int .i64 3] 28
  have hzb : w2.heap.size < (w2.alloc (.cells #[.int .i64 3, .int .i64 1, .int .i64 3] 28)).heap.size := bB.lt
  generalize w2.alloc (.cells #[.int .i64 3, .int .i64 1, .int .i64 3] 28) = wb at *
  have hBab : Below wa.heap.size wa wb := hB2.trans (hBb.mono hB2.size)
  have hBwb : Below w.heap.size w wb := hBwa.trans (hBab.mono hBwa.size)
  have hz2 := hB2.size
  refine (text_any 97 wb (by omega) (by omega) (hZ0.out.below hBwb)).mono ?_
  rintro e w3 ⟨rfl, hB3⟩
  rw [t1, t2]
  go_wp2_with fail
  have hBw3 : Below w.heap.size w w3 := hBwb.trans (hB3.mono hBwb.size)
  refine (text_any 233 w3 (by omega) (by omega) (hZ0.out.below hBw3)).mono ?_
  rintro e w4 ⟨rfl, hB4⟩
  rw [t3, t4]
  have hBw4 : Below w.heap.size w w4 := hBw3.trans (hB4.mono hBw3.size)
  have hBb4 : Below wb.heap.size wb w4 := hB3.trans (hB4.mono hB3.size)
  have hBa4 : Below wa.heap.size wa w4 := hBab.trans (hBb4.mono hBab.size)
  have hB14 : Below w1.heap.size w1 w4 := hBa.trans (hBa4.mono hBa.size)
  have d10 := (hB14.cell (p := ⟨g, 10, none⟩) hglt).trans c10
  have d26 := (hB14.cell (p := ⟨g, 26, none⟩) hglt).trans c26
  have d28 := (hB14.cell (p := ⟨g, 28, none⟩) hglt).trans c28
  have d29 := (hB14.cell (p := ⟨g, 29, none⟩) hglt).trans c29
  have d30 := (hB14.cell (p := ⟨g, 30, none⟩) hglt).trans c30
  have bA4 := bA.keep (Keep.of_below hBa4 (fun _ => False)) (by simp)
  have bB4 := bB.keep (Keep.of_below hBb4 (fun _ => False)) (by simp)
  have a0 := bA4.cell 0
  have a1 := bA4.cell 1
  have a2 := bA4.cell 2
  have b0 := bB4.cell 0
  have b1 := bB4.cell 1
  have b2 := bB4.cell 2
  clear c10 c26 c28 c29 c30 bA bB bA4 bB4 hza hzb
  go_wp2_with fail
  refine (legal_any ⟨#[97, 45, 57]⟩ w4 (by decide)).mono ?_
  rintro e w5 ⟨rfl, hB5⟩
  rw [g1]
  go_wp2_with fail
  refine (legal_any ⟨#[65]⟩ w5 (by decide)).mono ?_
  rintro e w6 ⟨rfl, hB6⟩
  rw [g2]
  go_wp2_with fail
  refine (where_any s3 2 w6 (by decide) (by omega) (by omega)).mono ?_
  rintro e w7 ⟨rfl, hB7⟩
  rw [h1, h2]
  go_wp2_with fail
  go_ret
  have hBw5 : Below w.heap.size w w5 := hBw4.trans (hB5.mono hBw4.size)
  have hBw6 : Below w.heap.size w w6 := hBw5.trans (hB6.mono hBw5.size)
  exact ⟨rfl, hBw6.trans (hB7.mono hBw6.size)⟩
end Go.Proofs.YtpdaciljdcfikaaDoor
