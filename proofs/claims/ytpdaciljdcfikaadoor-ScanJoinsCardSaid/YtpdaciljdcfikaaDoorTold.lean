/- guiselaw4.told walked: what Words answers is the document's. -/
import Derived.Test.YtpdaciljdcfikaaDoorRefWords
import Derived.Test.YtpdaciljdcfikaaDoorRefWhere
import Derived.Test.YtpdaciljdcfikaaDoorRefFew
import Derived.Deep.RegionHeld3
import Derived.WalkSmall
namespace Go.Proofs.YtpdaciljdcfikaaDoor
open Go.RowKit Go.Shelf
set_option linter.unusedVariables false
set_option linter.unusedSimpArgs false

theorem flat_at {α β : Type} (f : α → List β) (n : Nat) (hf : ∀ x, (f x).length = n) : ∀ (l : List α) (i k : Nat) (hi : i < l.length), k < n → (l.flatMap f)[i * n + k]? = (f l[i])[k]? := by
  intro l
  induction l with
  | nil => intro i k hi; simp at hi
  | cons x l ih =>
    intro i k hi hk
    rw [List.flatMap_cons]
    cases i with
    | zero =>
      rw [List.getElem?_append_left (by rw [hf]; omega), Nat.zero_mul, Nat.zero_add]; rfl
    | succ i =>
      rw [List.getElem?_append_right (by rw [hf, Nat.succ_mul]; omega), hf, show (i + 1) * n + k - n = i * n + k by rw [Nat.succ_mul]; omega]
      exact ih i k (by simpa using hi) hk
/-- The cells of a row in its own block. -/
theorem owns_at {α : Type} {W : World} {base : Nat} {e : TypeId} {size : Nat} {v : Value} {l : List α} {f : α → List Value} (h : W.ownsRow base e size v l.length (l.flatMap f)) (hf : ∀ x, (f x).length = size) (hne : l ≠ []) :
    ∃ g cap, v = .slice (some ⟨g, 0, none⟩) l.length cap ∧ g < W.heap.size ∧ l.length ≤ cap ∧ ∀ (i k : Nat) (hi : i < l.length), k < size → W.cell? ⟨g, i * size + k, none⟩ = (f l[i])[k]? := by
  obtain ⟨hlen, hv⟩ := h
  rcases hv with ⟨hv, h0⟩ | ⟨g, cap, cur, hv, hg, hheap, hcap, hmax, hcs, htk⟩
  · exact absurd (List.length_eq_zero_iff.1 h0) hne
  · refine ⟨g, cap, hv, lt_of_block hheap, hcap, fun i k hi hk => ?_⟩
    rw [← flat_at f size hf l i k hi hk, ← htk, List.getElem?_take_of_lt (by
      have h1 : (i + 1) * size ≤ l.length * size := Nat.mul_le_mul_right size hi
      rw [Nat.succ_mul] at h1; omega)]
    simp [World.cell?, hheap]

theorem wordN_fr {s : ByteArray} {p : Nat} : (wordN s p).2.2 = true → (wordN s p).1.fr = p := by
  unfold wordN apartN
  repeat' split
  all_goals first | (intro _; rfl) | (intro e; cases e)
theorem lexGo_fr (s : ByteArray) : ∀ f p l, (∀ w ∈ l, w.fr ≤ s.size) → ∀ w ∈ (lexGo s f p l).1, w.fr ≤ s.size := by
  intro f
  induction f with
  | zero => intro p l h; exact h
  | succ f ih =>
    intro p l h
    rw [lexGo]
    split
    · split
      · exact ih _ _ h
      · split
        · split
          · exact ih _ _ h
          · exact h
        · split
          · rename_i hok
            refine ih _ _ fun w hw => ?_
            rcases List.mem_append.1 hw with hw | hw
            · exact h w hw
            · obtain rfl : w = (wordN s p).1 := by simpa using hw
              rw [wordN_fr hok]; omega
          · exact h
    · exact h

set_option maxRecDepth 100000 in
set_option maxHeartbeats 3000000 in
theorem told_any (s : ByteArray) (w : World) (hs : s.size ≤ 262144) (hT : Tabs w) :
    Calls Tryd.prog 14 #[.string s] w fun e w' => e = .returned (.bool true) ∧ Below w.heap.size w w' := by
  have hT0 := Lib.hid hT
  have hw1 := fun W h => words_any s W (by omega) h
  have hw2 := fun W => rwords_any s W (by omega)
  unfold WPost at hw1
  unfold RWords at hw2
  cases he : lexN s with
  | mk l o =>
    cases o with
    | some q =>
      obtain ⟨e1, e2, e3⟩ := bad_spec hs he
      have e4 := bad_bad hs he
      have hq := lexN_le he
      have hwh := fun W => rwhere_any s q W (by omega) (by omega) (by omega)
      rw [clampN_in hq] at hwh
      have hne : (errN s = 20 ∨ errN s = 21) := by rw [e1]; split <;> omega
      rw [e3] at hw1 hw2
      rw [e2] at hw1
      rw [e4] at hw2
      generalize lcN s q 0 1 1 = lc at *
      generalize errN s = er at *
      have H1 := Lib.hid hw1
      have H2 := Lib.hid hw2
      have H3 := Lib.hid hwh
      clear hw1 hw2 hwh e1 e2 e3 e4 he hT
      have d1 : ((er : Int) == 3) = false := by rw [beq_eq_false_iff_ne]; omega
      have d2 : ((er : Int) != 0) = true := by rw [bne_iff_ne]; omega
      go_enter Tryd.func14, Tryd.ntmps14
      go_wp2_with fail
      refine Calls.mono (H1.out _ hT0.out) ?_
      rintro e w1 ⟨v1, rfl, _, _, hn1, hB1⟩
      obtain rfl := hn1 (by first | rfl | trivial)
      go_wp2_with fail
      have bA := Blk.new' w1 #[.int .i64 q, .int .i64 lc.1, .int .i64 lc.2] 28
      have hBa : Below w.heap.size w (w1.alloc (.cells #[.int .i64 q, .int .i64 lc.1, .int .i64 lc.2] 28)) := hB1.alloc hB1.size _
      have hza := bA.lt
      generalize w1.alloc (.cells #[.int .i64 q, .int .i64 lc.1, .int .i64 lc.2] 28) = wa at *
      refine Calls.mono (H2.out _) ?_
      rintro e w2 ⟨v2, rfl, _, _, hn2, hB2⟩
      obtain rfl := hn2 (by first | rfl | trivial)
      have hB2' := hBa.trans (hB2.mono hBa.size)
      have bA2 := bA.keep (Keep.of_below hB2 (fun _ => False)) (by simp)
      go_wp2_with fail
      have bW := Blk.new' w2 #[.int .i64 0, .int .i64 0, .int .i64 0] 28
      have hBb : Below w.heap.size w (w2.alloc (.cells #[.int .i64 0, .int .i64 0, .int .i64 0] 28)) := hB2'.alloc hB2'.size _
      have bA3 := bA2.alloc (.cells #[.int .i64 0, .int .i64 0, .int .i64 0] 28)
      generalize w2.alloc (.cells #[.int .i64 0, .int .i64 0, .int .i64 0] 28) = wb at *
      refine Calls.mono (H3.out _) ?_
      rintro e w3 ⟨rfl, hB3⟩
      have bA4 := bA3.keep (Keep.of_below hB3 (fun _ => False)) (by simp)
      have bW4 := bW.keep (Keep.of_below hB3 (fun _ => False)) (by simp)
      have hB3' := hBb.trans (hB3.mono hBb.size)
      have hz2 := hB2'.size
      have hz3 := hB2.size
      have a0 := bA4.cell 0
      have a1 := bA4.cell 1
      have a2 := bA4.cell 2
      have f0 := bW4.frozen 0
      have f1 := bW4.frozen 1
      have f2 := bW4.frozen 2
      have c0 := bW4.cell 0
      have c1 := bW4.cell 1
      have c2 := bW4.cell 2
      go_wp2_with fail
      go_loopw [10] (fun v10 wr => v10 = .int .i64 0 ∧ Below w.heap.size w wr) (fun _ _ => 0)
      case atStart => exact ⟨rfl, ((hB3'.setCell (p := ⟨w2.heap.size, 0, none⟩) (by dsimp only; omega) _).setCell (p := ⟨w2.heap.size, 1, none⟩) (by dsimp only; omega) _).setCell (p := ⟨w2.heap.size, 2, none⟩) (by dsimp only; omega) _⟩
      case round =>
        obtain ⟨rfl, hBr⟩ := hrel
        go_wp2_with fail
        go_ret
        exact ⟨rfl, hBr⟩
    | none =>
      obtain ⟨e1, e2, e3⟩ := good_spec hs he
      have e4 := bad_good hs he
      have hfr : ∀ wd ∈ l, wd.fr ≤ s.size := by
        have h := lexGo_fr s s.size 0 [] (by simp)
        rw [show lexGo s s.size 0 [] = (l, none) from he] at h
        exact h
      rw [e3, e1, e2] at hw1
      rw [e3, e1, e4] at hw2
      have H1 := Lib.hid hw1
      have H2 := Lib.hid hw2
      have HF := Lib.hid hfr
      clear hw1 hw2 hfr e1 e2 e3 e4 he hT
      by_cases hne : l = []
      · subst hne
        go_enter Tryd.func14, Tryd.ntmps14
        go_wp2_with fail
        refine Calls.mono (H1.out _ hT0.out) ?_
        rintro e w1 ⟨v1, rfl, _, _, hn1, hB1⟩
        obtain rfl := hn1 (by first | rfl | trivial)
        go_wp2_with fail
        have bA := Blk.new' w1 #[.int .i64 0, .int .i64 0, .int .i64 0] 28
        have hBa : Below w.heap.size w (w1.alloc (.cells #[.int .i64 0, .int .i64 0, .int .i64 0] 28)) := hB1.alloc hB1.size _
        have hza := bA.lt
        generalize w1.alloc (.cells #[.int .i64 0, .int .i64 0, .int .i64 0] 28) = wa at *
        refine Calls.mono (H2.out _) ?_
        rintro e w2 ⟨v2, rfl, _, _, hn2, hB2⟩
        obtain rfl := hn2 (by first | rfl | trivial)
        have hB2' := hBa.trans (hB2.mono hBa.size)
        have bA2 := bA.keep (Keep.of_below hB2 (fun _ => False)) (by simp)
        have bA3 := bA2.alloc (.cells #[.int .i64 0, .int .i64 0, .int .i64 0] 28)
        have a0 := bA2.cell 0
        have a1 := bA2.cell 1
        have a2 := bA2.cell 2
        have a0' := bA3.cell 0
        have a1' := bA3.cell 1
        have a2' := bA3.cell 2
        have hBb : Below w.heap.size w (w2.alloc (.cells #[.int .i64 0, .int .i64 0, .int .i64 0] 28)) := hB2'.alloc hB2'.size _
        go_wp2_with fail
        go_loopw [10] (fun v10 wr => v10 = .int .i64 0 ∧ Below w.heap.size w wr) (fun _ _ => 0)
        case atStart => exact ⟨rfl, hBb⟩
        case round =>
          obtain ⟨rfl, hBr⟩ := hrel
          go_wp2_with fail
          go_ret
          exact ⟨rfl, hBr⟩
      · go_enter Tryd.func14, Tryd.ntmps14
        go_wp2_with fail
        refine Calls.mono (H1.out _ hT0.out) ?_
        rintro e w1 ⟨v1, rfl, hown1, hlen, _, hB1⟩
        obtain ⟨g1, cap1, rfl, hg1, hc1, hcell1⟩ := owns_at hown1 (fun x => rfl) hne
        go_wp2_with fail
        have bA := Blk.new' w1 #[.int .i64 0, .int .i64 0, .int .i64 0] 28
        have hBa0 : Below w1.heap.size w1 (w1.alloc (.cells #[.int .i64 0, .int .i64 0, .int .i64 0] 28)) := (Below.refl _ w1).alloc (Nat.le_refl _) _
        have hBa : Below w.heap.size w (w1.alloc (.cells #[.int .i64 0, .int .i64 0, .int .i64 0] 28)) := hB1.alloc hB1.size _
        have hza := bA.lt
        generalize w1.alloc (.cells #[.int .i64 0, .int .i64 0, .int .i64 0] 28) = wa at *
        refine Calls.mono (H2.out _) ?_
        rintro e w2 ⟨v2, rfl, hown2, _, _, hB2⟩
        obtain ⟨g2, cap2, rfl, hg2, hc2, hcell2⟩ := owns_at hown2 (fun x => rfl) hne
        have hB2' := hBa.trans (hB2.mono hBa.size)
        have hB12 := hBa0.trans (hB2.mono hBa0.size)
        have bA2 := bA.keep (Keep.of_below hB2 (fun _ => False)) (by simp)
        have bA3 := bA2.alloc (.cells #[.int .i64 0, .int .i64 0, .int .i64 0] 28)
        have a0 := bA2.cell 0
        have a1 := bA2.cell 1
        have a2 := bA2.cell 2
        have a0' := bA3.cell 0
        have a1' := bA3.cell 1
        have a2' := bA3.cell 2
        have hBb0 : Below w2.heap.size w2 (w2.alloc (.cells #[.int .i64 0, .int .i64 0, .int .i64 0] 28)) := (Below.refl _ w2).alloc (Nat.le_refl _) _
        have hBb : Below w.heap.size w (w2.alloc (.cells #[.int .i64 0, .int .i64 0, .int .i64 0] 28)) := hB2'.alloc hB2'.size _
        have hlen2 : (l.length : Int) ≤ 262144 := by omega
        have hcc1 := Lib.hid hcell1
        have hcc2 := Lib.hid hcell2
        have hB1b := hB12.trans (hBb0.mono hB12.size)
        clear hcell1 hcell2 hown1 hown2 bA
        go_wp2_with fail
        go_loopw [10] (fun v10 wr => ∃ i : Nat, v10 = .int .i64 i ∧ i ≤ l.length ∧ Below w1.heap.size w1 wr ∧ Below w2.heap.size w2 wr ∧ Below w.heap.size w wr) (fun v10 _ => l.length - (intOf v10).toNat)
        case atStart => exact ⟨0, rfl, by omega, hB1b, hBb0, hBb⟩
        case round =>
          obtain ⟨i, rfl, hi, hk1, hk2, hk⟩ := hrel
          by_cases hlt : i < l.length
          · have r0 := (hk1.cell (p := ⟨g1, i * 8 + 0, none⟩) hg1).trans (hcc1.out i 0 hlt (by omega))
            have r1 := (hk1.cell (p := ⟨g1, i * 8 + 1, none⟩) hg1).trans (hcc1.out i 1 hlt (by omega))
            have r2 := (hk1.cell (p := ⟨g1, i * 8 + 2, none⟩) hg1).trans (hcc1.out i 2 hlt (by omega))
            have r3 := (hk1.cell (p := ⟨g1, i * 8 + 3, none⟩) hg1).trans (hcc1.out i 3 hlt (by omega))
            have r4 := (hk1.cell (p := ⟨g1, i * 8 + 4, none⟩) hg1).trans (hcc1.out i 4 hlt (by omega))
            have r5 := (hk1.cell (p := ⟨g1, i * 8 + 5, none⟩) hg1).trans (hcc1.out i 5 hlt (by omega))
            have r6 := (hk1.cell (p := ⟨g1, i * 8 + 6, none⟩) hg1).trans (hcc1.out i 6 hlt (by omega))
            have r7 := (hk1.cell (p := ⟨g1, i * 8 + 7, none⟩) hg1).trans (hcc1.out i 7 hlt (by omega))
            have s0 := (hk2.cell (p := ⟨g2, i * 6 + 0, none⟩) hg2).trans (hcc2.out i 0 hlt (by omega))
            have s1 := (hk2.cell (p := ⟨g2, i * 6 + 1, none⟩) hg2).trans (hcc2.out i 1 hlt (by omega))
            have s2 := (hk2.cell (p := ⟨g2, i * 6 + 2, none⟩) hg2).trans (hcc2.out i 2 hlt (by omega))
            have s3 := (hk2.cell (p := ⟨g2, i * 6 + 3, none⟩) hg2).trans (hcc2.out i 3 hlt (by omega))
            have s4 := (hk2.cell (p := ⟨g2, i * 6 + 4, none⟩) hg2).trans (hcc2.out i 4 hlt (by omega))
            have s5 := (hk2.cell (p := ⟨g2, i * 6 + 5, none⟩) hg2).trans (hcc2.out i 5 hlt (by omega))
            have hfr := HF.out l[i] (List.getElem_mem hlt)
            have hwh := fun W => rwhere_any s l[i].fr W (by omega) (by omega) (by omega)
            rw [clampN_in hfr] at hwh
            simp only [wcells, List.getElem?_cons_zero, List.getElem?_cons_succ, Nat.add_zero] at r0 r1 r2 r3 r4 r5 r6 r7
            simp only [rcells, List.getElem?_cons_zero, List.getElem?_cons_succ, Nat.add_zero] at s0 s1 s2 s3 s4 s5
            generalize l[i] = wd at *
            generalize lcN s wd.fr 0 1 1 = lc at *
            have Hwh := Lib.hid hwh
            clear hwh
            have hi0 : (0 : Int) ≤ (i : Int) := Int.natCast_nonneg _
            have hi1 : (i : Int) < (l.length : Int) := by omega
            go_wp2_with fail
            have bT := Blk.new' wr #[.int .i64 wd.kind, .string wd.txt, .int .i32 wd.r, .int .i64 wd.n, .int .i64 wd.fr, .int .i64 wd.en] 59
            have hBT : Below wr.heap.size wr (wr.alloc (.cells #[.int .i64 wd.kind, .string wd.txt, .int .i32 wd.r, .int .i64 wd.n, .int .i64 wd.fr, .int .i64 wd.en] 59)) := (Below.refl _ wr).alloc (Nat.le_refl _) _
            have hT5 := bT.lt
            generalize wr.alloc (.cells #[.int .i64 wd.kind, .string wd.txt, .int .i32 wd.r, .int .i64 wd.n, .int .i64 wd.fr, .int .i64 wd.en] 59) = W5 at *
            have hgr : g1 < wr.heap.size := Nat.lt_of_lt_of_le hg1 hk1.size
            have hg5 : g1 < W5.heap.size := by omega
            have q0 : W5.cell? ⟨g1, i * 8, none⟩ = some (.int .i64 wd.kind) := (hBT.cell (p := ⟨g1, i * 8, none⟩) hgr).trans r0
            have q1 : W5.cell? ⟨g1, i * 8 + 1, none⟩ = some (.string wd.txt) := (hBT.cell (p := ⟨g1, i * 8 + 1, none⟩) hgr).trans r1
            have q2 : W5.cell? ⟨g1, i * 8 + 2, none⟩ = some (.int .i32 wd.r) := (hBT.cell (p := ⟨g1, i * 8 + 2, none⟩) hgr).trans r2
            have q3 : W5.cell? ⟨g1, i * 8 + 3, none⟩ = some (.int .i64 wd.n) := (hBT.cell (p := ⟨g1, i * 8 + 3, none⟩) hgr).trans r3
            have q4 : W5.cell? ⟨g1, i * 8 + 4, none⟩ = some (.int .i64 wd.fr) := (hBT.cell (p := ⟨g1, i * 8 + 4, none⟩) hgr).trans r4
            have q5 : W5.cell? ⟨g1, i * 8 + 5, none⟩ = some (.int .i64 lc.1) := (hBT.cell (p := ⟨g1, i * 8 + 5, none⟩) hgr).trans r5
            have q6 : W5.cell? ⟨g1, i * 8 + 6, none⟩ = some (.int .i64 lc.2) := (hBT.cell (p := ⟨g1, i * 8 + 6, none⟩) hgr).trans r6
            have q7 : W5.cell? ⟨g1, i * 8 + 7, none⟩ = some (.int .i64 wd.en) := (hBT.cell (p := ⟨g1, i * 8 + 7, none⟩) hgr).trans r7
            have t0 : W5.cell? ⟨wr.heap.size, 0, none⟩ = some (.int .i64 wd.kind) := bT.cell 0
            have t1 : W5.cell? ⟨wr.heap.size, 1, none⟩ = some (.string wd.txt) := bT.cell 1
            have t2 : W5.cell? ⟨wr.heap.size, 2, none⟩ = some (.int .i32 wd.r) := bT.cell 2
            have t3 : W5.cell? ⟨wr.heap.size, 3, none⟩ = some (.int .i64 wd.n) := bT.cell 3
            have t4 : W5.cell? ⟨wr.heap.size, 4, none⟩ = some (.int .i64 wd.fr) := bT.cell 4
            have t5 : W5.cell? ⟨wr.heap.size, 5, none⟩ = some (.int .i64 wd.en) := bT.cell 5
            have hB5 : Below W5.heap.size W5 W5 := Below.refl _ _
            have k1 := hk1.trans (hBT.mono hk1.size)
            have k2 := hk2.trans (hBT.mono hk2.size)
            have k0 := hk.trans (hBT.mono hk.size)
            clear r0 r1 r2 r3 r4 r5 r6 r7 s0 s1 s2 s3 s4 s5 bT hk1 hk2 hk hBT a0 a1 a2 a0' a1' a2' bA2 bA3 hlt hfr
            go_region_held3 (fun w' => w'.cell? ⟨g1, i * 8, none⟩ = some (.int .i64 wd.kind) ∧ w'.cell? ⟨g1, i * 8 + 1, none⟩ = some (.string wd.txt) ∧ w'.cell? ⟨g1, i * 8 + 2, none⟩ = some (.int .i32 wd.r) ∧ w'.cell? ⟨g1, i * 8 + 3, none⟩ = some (.int .i64 wd.n) ∧ w'.cell? ⟨g1, i * 8 + 4, none⟩ = some (.int .i64 wd.fr) ∧ w'.cell? ⟨g1, i * 8 + 5, none⟩ = some (.int .i64 lc.1) ∧ w'.cell? ⟨g1, i * 8 + 6, none⟩ = some (.int .i64 lc.2) ∧ w'.cell? ⟨g1, i * 8 + 7, none⟩ = some (.int .i64 wd.en) ∧ w'.cell? ⟨wr.heap.size, 0, none⟩ = some (.int .i64 wd.kind) ∧ w'.cell? ⟨wr.heap.size, 1, none⟩ = some (.string wd.txt) ∧ w'.cell? ⟨wr.heap.size, 2, none⟩ = some (.int .i32 wd.r) ∧ w'.cell? ⟨wr.heap.size, 3, none⟩ = some (.int .i64 wd.n) ∧ w'.cell? ⟨wr.heap.size, 4, none⟩ = some (.int .i64 wd.fr) ∧ w'.cell? ⟨wr.heap.size, 5, none⟩ = some (.int .i64 wd.en) ∧ Below W5.heap.size W5 w')
              (first
                | (go_split_ands; refine ⟨?_, ?_, ?_, ?_, ?_, ?_, ?_, ?_, ?_, ?_, ?_, ?_, ?_, ?_, ?_⟩ <;> first | assumption | (exact Below.drew (by assumption)))
                | (go_split_ands; refine ⟨?_, ?_, ?_, ?_, ?_, ?_, ?_, ?_, ?_, ?_, ?_, ?_, ?_, ?_, ?_⟩ <;> first | (exact (hBw.cell (by have hsz := (‹Below W5.heap.size W5 _›).size; dsimp only; omega)).trans (by assumption)) | (exact (‹Below W5.heap.size W5 _›).trans (hBw.mono (‹Below W5.heap.size W5 _›).size))))
              (first | (go_at_call 17; refine Calls.mono (Hwh.out _) ?_; rintro e w' ⟨rfl, hBw⟩))
            have k1' := k1.drew.trans (hBw.mono k1.size)
            have k2' := k2.drew.trans (hBw.mono k2.size)
            have k0' := k0.drew.trans (hBw.mono k0.size)
            clear k1 k2 k0 hBw hB5 q0 q1 q2 q3 q4 q5 q6 q7 t0 t1 t2 t3 t4 t5
            go_wp2_with fail
            exact ⟨⟨i + 1, by go_num, by omega, k1', k2', k0'⟩, by simp [intOf]; omega⟩
          · have d1 : decide ((i : Int) < (l.length : Int)) = false := by rw [decide_eq_false_iff_not]; omega
            go_wp2_with fail
            go_ret
            exact ⟨rfl, hk⟩
end Go.Proofs.YtpdaciljdcfikaaDoor
