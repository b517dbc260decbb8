/- scan.Where walked. -/
import Derived.Test.YtpdaciljdcfikaaDoorSpots
namespace Go.Proofs.YtpdaciljdcfikaaDoor
open Go.RowKit Go.Shelf
attribute [local go_sem] Oper.semAt_some
set_option linter.unusedVariables false
set_option linter.unusedSimpArgs false

theorem spots_any (s : ByteArray) (w : World) :
    Calls Tryd.prog 29 #[.string s] w fun e w' => e = .returned (.func (.func 46) #[] #[.pointer (some ⟨w.heap.size, 0, none⟩)]) ∧ w.alloc (.cells #[.string s] 9) = w' := by
  go_enter Tryd.func29, Tryd.ntmps29
  go_wp2
  go_ret
  exact ⟨rfl, rfl⟩

theorem spots_stops (n : Nat) (hn : 1 ≤ n) (nb : Nat) (s : ByteArray) (hs : s.size ≤ 140737488351232) (w : World) (hb : w.cell? ⟨nb, 0, none⟩ = some (.string s)) :
    SeqStopsK Fence.wide n Tryd.prog 46 #[.pointer (some ⟨nb, 0, none⟩)] (encS s) (KpS nb s) (fun ys => ys = places s) (fun pre => pre <+: places s) s.size w := fun l J Jx W hW hJ hJx hY h0 => by
  have hlt := World.block_lt_of_cell? w _ hb
  exact spots1_in n hn l nb s hs J Jx W hJ hY ((hW.cell (p := ⟨nb, 0, none⟩) hlt).trans hb) h0

theorem kps_t {nb : Nat} {s : ByteArray} {A B C : World} (h : KpS nb s A B) (k : KpS nb s B C) : KpS nb s A C := ⟨fun e => k.1 (h.1 e), h.2.trans k.2⟩
theorem kps_b {nb : Nat} {s : ByteArray} (W : World) (l : Nat) (o o' : Obj) (h : W.heap[l]? = some o) (hc : o.isCells = false) (hw : o.isWalk = false) : KpS nb s W (W.putObj l o') :=
  ⟨fun e => cell_kept e (grownBy_putObj' W l o') (fun r er => by cases er; exact ⟨o, h, hc⟩), KeepsWalks.putObj _ h hw⟩

theorem blk_own {β : Type} (b : Nat) (T : TypeId) (f : β → List Value) : Own (fun s W => Blk W b (f s) T) := fun s X Y row hs hg hrow =>
  (hg.block b hs.lt (fun e' => by obtain ⟨o, ho, hc⟩ := hrow b e'.symm; rw [show X.heap[b]? = _ from hs] at ho; cases ho; cases hc)).trans hs

def stepW (s : ByteArray) (lc : Nat × Nat) (x : Pl s) : Nat × Nat := if (Utf8.decode s x.1).1 = 10 then (lc.1 + 1, 1) else (lc.1, lc.2 + 1)
def foldW (s : ByteArray) (pre : List (Pl s)) : Nat × Nat := pre.foldl (stepW s) (1, 1)
theorem foldW_snoc (s : ByteArray) (pre : List (Pl s)) (x : Pl s) : foldW s (pre ++ [x]) = stepW s (foldW s pre) x := by simp [foldW]
theorem foldW_le' (s : ByteArray) : ∀ (pre : List (Pl s)) (lc : Nat × Nat), 1 ≤ lc.2 → (pre.foldl (stepW s) lc).1 ≤ lc.1 + pre.length ∧ (pre.foldl (stepW s) lc).2 ≤ lc.2 + pre.length := by
  intro pre
  induction pre with
  | nil => intro lc h; simp
  | cons x l ih =>
    intro lc h
    rw [List.foldl_cons, List.length_cons]
    have h1 : 1 ≤ (stepW s lc x).2 ∧ (stepW s lc x).1 ≤ lc.1 + 1 ∧ (stepW s lc x).2 ≤ lc.2 + 1 := by
      unfold stepW; split <;> simp <;> omega
    have := ih (stepW s lc x) h1.1
    omega
theorem foldW_le (s : ByteArray) (pre : List (Pl s)) : (foldW s pre).1 ≤ pre.length + 1 ∧ (foldW s pre).2 ≤ pre.length + 1 := by
  have := foldW_le' s pre (1, 1) (Nat.le_refl _)
  unfold foldW; simp only [] at this; omega

/-- Places that all end by t, one behind the other from i on, and then one that does not (or the end): what is counted is lcN. -/
theorem fold_lc {s : ByteArray} {t : Nat} : ∀ (pre : List (Pl s)) (i : Nat) (lc : Nat × Nat) (rest : List (Pl s)), placesFrom s i = pre ++ rest → (∀ x ∈ pre, x.1 + (Utf8.decode s x.1).2 ≤ t) → i ≤ t → t ≤ s.size →
    (∀ x r, rest = x :: r → t < x.1 + (Utf8.decode s x.1).2) → lcN s t i lc.1 lc.2 = pre.foldl (stepW s) lc := by
  intro pre
  induction pre with
  | nil =>
    intro i lc rest h _ hi ht hr
    rw [List.nil_append] at h
    rw [List.foldl_nil]
    by_cases hlt : i < t
    · rw [places_step (by omega)] at h
      have := hr _ _ h.symm
      exact lcN_mid _ _ hlt this
    · exact lcN_end s t i _ _ (by omega)
  | cons x l ih =>
    intro i lc rest h hp hi ht hr
    by_cases hs : i < s.size
    · rw [places_step hs, List.cons_append, List.cons.injEq] at h
      obtain ⟨rfl, h⟩ := h
      have h1 := hp _ (List.mem_cons_self ..)
      have hw := dec_width s i
      simp only [] at h1
      rw [List.foldl_cons, ← ih (i + (Utf8.decode s i).2) _ rest h (fun y hy => hp y (List.mem_cons_of_mem _ hy)) h1 ht hr, lcN_step _ _ (by omega) h1]
      unfold stepW
      simp only []
      split <;> rfl
    · rw [places_end (by omega)] at h; simp at h

def clampN (s : ByteArray) (a : Int) : Nat := if a < 0 then 0 else if (s.size : Int) < a then s.size else a.toNat

theorem clamp_eq (s : ByteArray) (a : Int) : min (max a 0) (s.size : Int) = ((clampN s a : Nat) : Int) := by
  unfold clampN
  split
  · omega
  · split <;> omega
theorem clampN_le (s : ByteArray) (a : Int) : clampN s a ≤ s.size := by
  unfold clampN; split
  · omega
  · split <;> omega

set_option maxRecDepth 100000 in
set_option maxHeartbeats 4000000 in
theorem where_any (s : ByteArray) (a : Int) (w : World) (hs : s.size ≤ 140737488351232) (ha1 : -9223372036854775808 ≤ a) (ha2 : a ≤ 9223372036854775807) :
    Calls Tryd.prog 16 #[.string s, .int .i64 a] w fun e w' => e = .returned (.agg #[.int .i64 (clampN s a), .int .i64 (lcN s (clampN s a) 0 1 1).1, .int .i64 (lcN s (clampN s a) 0 1 1).2]) ∧ Below w.heap.size w w' := by
  have htl := clampN_le s a
  have hcl := clamp_eq s a
  generalize clampN s a = t at *
  refine (callsIn_wide (n := 5)).1 ?_
  refine callsIn_of_wp_marks Tryd.func16 rfl trivial ?_ rfl
  simp only [Tryd.ntmps16, List.size_toArray, List.length_cons, List.length_nil, Nat.reduceAdd, Nat.reduceSub, Array.replicate_succ, Array.replicate_zero, List.push_toArray, List.append_toArray, List.nil_append, List.cons_append]
  gi_wp2_with (refine ⟨trivial, ?_⟩; gi_at_call 29; refine (callsIn_wide.2 (spots_any s _)).mono ?_; rintro e w' ⟨rfl, rfl⟩)
  clear hcl
  have bA := (((Blk.new w [.int .i64 t] 3).alloc (.cells #[.int .i64 0, .int .i64 0, .int .i64 0] 28)).alloc (.cells #[.int .i64 t, .int .i64 1, .int .i64 1] 28)).alloc (.cells #[.string s] 9)
  have bR := ((Blk.new (w.alloc (.cells #[.int .i64 t] 3)) [.int .i64 0, .int .i64 0, .int .i64 0] 28).alloc (.cells #[.int .i64 t, .int .i64 1, .int .i64 1] 28)).alloc (.cells #[.string s] 9)
  have bW := (Blk.new ((w.alloc (.cells #[.int .i64 t] 3)).alloc (.cells #[.int .i64 0, .int .i64 0, .int .i64 0] 28)) [.int .i64 t, .int .i64 1, .int .i64 1] 28).alloc (.cells #[.string s] 9)
  have bN := Blk.new (((w.alloc (.cells #[.int .i64 t] 3)).alloc (.cells #[.int .i64 0, .int .i64 0, .int .i64 0] 28)).alloc (.cells #[.int .i64 t, .int .i64 1, .int .i64 1] 28)) [.string s] 9
  simp only [World.size_alloc] at bR bW bN
  have hB0 : Below w.heap.size w ((((w.alloc (.cells #[.int .i64 t] 3)).alloc (.cells #[.int .i64 0, .int .i64 0, .int .i64 0] 28)).alloc (.cells #[.int .i64 t, .int .i64 1, .int .i64 1] 28)).alloc (.cells #[.string s] 9)) := ((((Below.refl _ w).alloc (Nat.le_refl _) _).alloc (by simp) _).alloc (by simp; omega) _).alloc (by simp; omega) _
  have hsz : ((((w.alloc (.cells #[.int .i64 t] 3)).alloc (.cells #[.int .i64 0, .int .i64 0, .int .i64 0] 28)).alloc (.cells #[.int .i64 t, .int .i64 1, .int .i64 1] 28)).alloc (.cells #[.string s] 9)).heap.size = w.heap.size + 4 := by simp
  generalize hW0 : ((((w.alloc (.cells #[.int .i64 t] 3)).alloc (.cells #[.int .i64 0, .int .i64 0, .int .i64 0] 28)).alloc (.cells #[.int .i64 t, .int .i64 1, .int .i64 1] 28)).alloc (.cells #[.string s] 9)) = W0 at *
  have bA' : Blk W0 w.heap.size [.int .i64 t] 3 := bA
  have bR' : Blk W0 (w.heap.size + 1) [.int .i64 0, .int .i64 0, .int .i64 0] 28 := bR
  have bW' : Blk W0 (w.heap.size + 1 + 1) [.int .i64 t, .int .i64 1, .int .i64 1] 28 := bW
  have bN' : Blk W0 (w.heap.size + 1 + 1 + 1) [.string s] 9 := bN
  clear hW0 bA bR bW bN
  refine wpIn_rangeFunc_ownH rfl (by omega) (gf := 46) (lb := #[.pointer (some ⟨w.heap.size + 1 + 1 + 1, 0, none⟩)]) rfl trivial (enters_of Tryd.func46 (by kernel_rfl) rfl)
    (spots_stops 4 (by omega) (w.heap.size + 1 + 1 + 1) s hs W0 (bN'.cell 0)) kps_t (fun W l o o' _ h hc hw => kps_b W l o o' h hc hw) (Below.refl _ _) (fun _ => rfl)
    (fun pre W => (((∀ x ∈ pre, x.1 + (Utf8.decode s x.1).2 ≤ t) ∧ Blk W w.heap.size [.int .i64 t] 3) ∧ Blk W (w.heap.size + 1) [.int .i64 0, .int .i64 0, .int .i64 0] 28 ∧ Blk W (w.heap.size + 1 + 1) [.int .i64 t, .int .i64 (foldW s pre).1, .int .i64 (foldW s pre).2] 28 ∧ Blk W (w.heap.size + 1 + 1 + 1) [.string s] 9) ∧ Below w.heap.size w W)
    (fun c pre W => ((c = .ret ∧ ∃ pre0 x, pre = pre0 ++ [x] ∧ (∀ y ∈ pre0, y.1 + (Utf8.decode s y.1).2 ≤ t) ∧ t < x.1 + (Utf8.decode s x.1).2) ∧ Blk W (w.heap.size + 1) [.int .i64 t, .int .i64 (foldW s pre.dropLast).1, .int .i64 (foldW s pre.dropLast).2] 28) ∧ Below w.heap.size w W)
    (OwnFrom.and (OwnFrom.and (OwnFrom.and (ownFrom_pure _ _) (Own.from (blk_own _ _ (fun _ => _)) _)) (OwnFrom.and (Own.from (blk_own _ _ (fun _ => _)) _) (OwnFrom.and (Own.from (blk_own _ _ (fun (pre : List (Pl s)) => [.int .i64 t, .int .i64 (foldW s pre).1, .int .i64 (foldW s pre).2])) _) (Own.from (blk_own _ _ (fun _ => _)) _)))) (ownFrom_below (Nat.le_refl _) (by omega)))
    (fun c => OwnFrom.and (OwnFrom.and (ownFrom_pure _ _) (Own.from (blk_own _ _ (fun (pre : List (Pl s)) => [.int .i64 t, .int .i64 (foldW s pre.dropLast).1, .int .i64 (foldW s pre.dropLast).2])) _)) (ownFrom_below (Nat.le_refl _) (by omega)))
    ⟨⟨⟨by simp, bA'⟩, bR', bW', bN'⟩, hB0⟩
    (fun x a' W => ∃ Bx, w.heap.size + 1 + 1 + 1 < Bx ∧ Blk W Bx [.int .i32 (Utf8.decode s x.1).1, .int .i64 (Utf8.decode s x.1).2, .bool (!goodAt s x.1)] 64 ∧ a' = { tmps := #[Value.string s, Value.int IntKind.i64 a, undef, Value.pointer (some { block := w.heap.size, off := 0 }), Value.pointer (some { block := w.heap.size + 1, off := 0 }), Value.pointer (some { block := w.heap.size + 1 + 1, off := 0 }), Value.int IntKind.i64 x.1, Value.pointer (some { block := Bx, off := 0 }), Value.int IntKind.i64 a, Value.int IntKind.i64 (max a 0), Value.string s, Value.int IntKind.i64 ↑s.size, Value.int IntKind.i64 t, Value.int IntKind.i64 t, Value.agg #[Value.int IntKind.i64 t, Value.int IntKind.i64 1, Value.int IntKind.i64 1], Value.string s, Value.func (Fn.func 46) #[] #[Value.pointer (some { block := w.heap.size + 1 + 1 + 1, off := 0 })], Value.int IntKind.i64 x.1, .agg #[.int .i32 (Utf8.decode s x.1).1, .int .i64 (Utf8.decode s x.1).2, .bool (!goodAt s x.1)], undef, undef, undef, undef, undef, undef, undef, undef, undef, undef, undef, undef, undef, undef, undef, undef, undef, undef, undef, undef, undef, undef], defers := [] })
    (fun x a' _ X Y row hs hg hr => by obtain ⟨Bx, h1, h2, h3⟩ := hs; exact ⟨Bx, h1, blk_own Bx _ (fun (_ : Unit) => _) () X Y row h2 hg (fun r e => (hr r e).2), h3⟩)
    ?assign ?body ?done ?stop
  case assign =>
    rintro l pre x W K ⟨⟨⟨hp, bA1⟩, bR1, bW1, bN1⟩, hB1⟩ hK
    unfold encS
    gi_wp2
    refine hK _ _ ((KeepsOthers.alloc _ _).from _) ⟨fun e => (Below.refl W.heap.size W |>.alloc (Nat.le_refl _) _).cell (World.block_lt_of_cell? W _ e) |>.trans e, KeepsWalks.alloc _ _⟩ ⟨⟨⟨hp, bA1.alloc _⟩, bR1.alloc _, bW1.alloc _, bN1.alloc _⟩, hB1.alloc hB1.size _⟩ ⟨W.heap.size, bN1.lt, Blk.new W _ _, rfl⟩
  case body =>
    rintro l pre x a' W hl ⟨r, hr⟩ ⟨⟨⟨hp, bA1⟩, bR1, bW1, bN1⟩, hB1⟩ ⟨Bx, hBx, bX, rfl⟩ hlt
    have hx := x.2
    have hf := dec_fits hx
    have hw := dec_width s x.1
    have hfl := foldW_le s pre
    have hst : foldW s (pre ++ [x]) = stepW s (foldW s pre) x := foldW_snoc s pre x
    generalize hF : foldW s pre = F at *
    obtain ⟨ln, cl⟩ := F
    have HF := Lib.hid hF
    clear hF
    generalize hR' : (Utf8.decode s x.1).1 = R at *
    generalize hK' : (Utf8.decode s x.1).2 = K at *
    have HK := Lib.hid hK'
    have HR := Lib.hid hR'
    have HS := Lib.hid hst
    have HP := Lib.hid hp
    clear hR' hK' hst hp
    simp only [] at hfl bW1
    have cA : W.cell? ⟨w.heap.size, 0, none⟩ = some (.int .i64 t) := bA1.cell 0
    have cX0 : W.cell? ⟨Bx, 0, none⟩ = some (.int .i32 R) := bX.cell 0
    have cX1 : W.cell? ⟨Bx, 1, none⟩ = some (.int .i64 K) := bX.cell 1
    have cW0 : W.cell? ⟨w.heap.size + 1 + 1, 0, none⟩ = some (.int .i64 t) := bW1.cell 0
    have cW1 : W.cell? ⟨w.heap.size + 1 + 1, 1, none⟩ = some (.int .i64 ln) := bW1.cell 1
    have cW2 : W.cell? ⟨w.heap.size + 1 + 1, 2, none⟩ = some (.int .i64 cl) := bW1.cell 2
    have cR0 : W.cell? ⟨w.heap.size + 1, 0, none⟩ = some (.int .i64 0) := bR1.cell 0
    have cR1 : W.cell? ⟨w.heap.size + 1, 1, none⟩ = some (.int .i64 0) := bR1.cell 1
    have cR2 : W.cell? ⟨w.heap.size + 1, 2, none⟩ = some (.int .i64 0) := bR1.cell 2
    have fW0 := bW1.frozen 0
    have fW1 := bW1.frozen 1
    have fW2 := bW1.frozen 2
    have fR0 := bR1.frozen 0
    have fR1 := bR1.frozen 1
    have fR2 := bR1.frozen 2
    gi_wp2
    · have b1 := bR1.set 0 (Value.int IntKind.i64 (t : Int))
      have b2 := b1.set 1 (Value.int IntKind.i64 (ln : Int))
      have b3 := b2.set 2 (Value.int IntKind.i64 (cl : Int))
      refine ⟨((KeepsOthers.setCell _ _ _).trans ((KeepsOthers.setCell _ _ _).trans (KeepsOthers.setCell _ _ _))).from _, ⟨⟨rfl, pre, x, rfl, HP.out, by rw [HK.out]; omega⟩, ?_⟩, ?_⟩
      · rw [List.dropLast_concat, HF.out]
        exact b3
      · exact ((hB1.setCell (p := ⟨w.heap.size + 1, 0, none⟩) (by simp) _).setCell (p := ⟨w.heap.size + 1, 1, none⟩) (by simp) _).setCell (p := ⟨w.heap.size + 1, 2, none⟩) (by simp) _
    · rename_i hle h10
      have b1 := bW1.set 1 (Value.int IntKind.i64 ((ln : Int) + 1))
      have b2 := b1.set 2 (Value.int IntKind.i64 1)
      have h10i : (R : Int) = 10 := by simpa using h10
      have h10' : R = 10 := by omega
      refine ⟨((KeepsOthers.setCell _ _ _).trans (KeepsOthers.setCell _ _ _)).from _, ⟨fun e => ?_, (KeepsWalks.setCell _ _ _).trans (KeepsWalks.setCell _ _ _)⟩, ⟨⟨⟨?_, ?_⟩, ?_, ?_, ?_⟩, ?_⟩⟩
      · exact (((bN1.other (p := ⟨w.heap.size + 1 + 1, 1, none⟩) (by simp) _).other (p := ⟨w.heap.size + 1 + 1, 2, none⟩) (by simp) _).cell 0)
      · intro y hy
        rcases List.mem_append.1 hy with hy | hy
        · exact HP.out y hy
        · obtain rfl : y = x := by simpa using hy
          rw [HK.out]; omega
      · exact (bA1.other (p := ⟨w.heap.size + 1 + 1, 1, none⟩) (by simp; omega) _).other (p := ⟨w.heap.size + 1 + 1, 2, none⟩) (by simp; omega) _
      · exact (bR1.other (p := ⟨w.heap.size + 1 + 1, 1, none⟩) (by simp) _).other (p := ⟨w.heap.size + 1 + 1, 2, none⟩) (by simp) _
      · rw [HS.out, stepW, HR.out, if_pos h10']
        exact b2
      · exact (bN1.other (p := ⟨w.heap.size + 1 + 1, 1, none⟩) (by simp) _).other (p := ⟨w.heap.size + 1 + 1, 2, none⟩) (by simp) _
      · exact (hB1.setCell (p := ⟨w.heap.size + 1 + 1, 1, none⟩) (by simp; omega) _).setCell (p := ⟨w.heap.size + 1 + 1, 2, none⟩) (by simp; omega) _
    · rename_i hle h10
      have b1 := bW1.set 2 (Value.int IntKind.i64 ((cl : Int) + 1))
      have h10' : ¬ R = 10 := by intro e; subst e; simp at h10
      refine ⟨(KeepsOthers.setCell _ _ _).from _, ⟨fun e => ?_, KeepsWalks.setCell _ _ _⟩, ⟨⟨⟨?_, ?_⟩, ?_, ?_, ?_⟩, ?_⟩⟩
      · exact (bN1.other (p := ⟨w.heap.size + 1 + 1, 2, none⟩) (by simp) _).cell 0
      · intro y hy
        rcases List.mem_append.1 hy with hy | hy
        · exact HP.out y hy
        · obtain rfl : y = x := by simpa using hy
          rw [HK.out]; omega
      · exact bA1.other (p := ⟨w.heap.size + 1 + 1, 2, none⟩) (by simp; omega) _
      · exact bR1.other (p := ⟨w.heap.size + 1 + 1, 2, none⟩) (by simp) _
      · rw [HS.out, stepW, HR.out, if_neg h10']
        exact b1
      · exact bN1.other (p := ⟨w.heap.size + 1 + 1, 2, none⟩) (by simp) _
      · exact hB1.setCell (p := ⟨w.heap.size + 1 + 1, 2, none⟩) (by simp; omega) _
  case done =>
    rintro D zs W hD rfl ⟨⟨⟨hp, bA1⟩, bR1, bW1, bN1⟩, hB1⟩ hK
    have Hlc := Lib.hid (fold_lc (places s) 0 (1, 1) [] (List.append_nil _).symm hp (by omega) htl (by simp))
    have HF : Hid (foldW s (places s) = (places s).foldl (stepW s) (1, 1)) := Lib.hid rfl
    generalize hF : foldW s (places s) = F at *
    obtain ⟨ln, cl⟩ := F
    clear hF hp
    simp only [] at bW1
    have cW0 : W.cell? ⟨w.heap.size + 1 + 1, 0, none⟩ = some (.int .i64 t) := bW1.cell 0
    have cW1 : W.cell? ⟨w.heap.size + 1 + 1, 1, none⟩ = some (.int .i64 ln) := bW1.cell 1
    have cW2 : W.cell? ⟨w.heap.size + 1 + 1, 2, none⟩ = some (.int .i64 cl) := bW1.cell 2
    have cR0 : W.cell? ⟨w.heap.size + 1, 0, none⟩ = some (.int .i64 0) := bR1.cell 0
    have cR1 : W.cell? ⟨w.heap.size + 1, 1, none⟩ = some (.int .i64 0) := bR1.cell 1
    have cR2 : W.cell? ⟨w.heap.size + 1, 2, none⟩ = some (.int .i64 0) := bR1.cell 2
    have fR0 := bR1.frozen 0
    have fR1 := bR1.frozen 1
    have fR2 := bR1.frozen 2
    have b1 := bR1.set 0 (Value.int IntKind.i64 (t : Int))
    have b2 := b1.set 1 (Value.int IntKind.i64 (ln : Int))
    have b3 := b2.set 2 (Value.int IntKind.i64 (cl : Int))
    gi_wp2
    have hK' := ((KeepsOthers.setCell W ⟨w.heap.size + 1, 0, none⟩ (.int .i64 (t : Int))).trans ((KeepsOthers.setCell _ ⟨w.heap.size + 1, 1, none⟩ (.int .i64 (ln : Int))).trans (KeepsOthers.setCell _ ⟨w.heap.size + 1, 2, none⟩ (.int .i64 (cl : Int))))).same D _ hK rfl
    refine ⟨by simp, .inl ⟨_, _, rfl, run_takeDeferred hK', ?_⟩⟩
    have r0 := cell_kept (b3.cell 0) (grownBy_putObj' _ D (.deferred none)) (fun r e => by cases e; exact ⟨_, hK', rfl⟩)
    have r1 := cell_kept (b3.cell 1) (grownBy_putObj' _ D (.deferred none)) (fun r e => by cases e; exact ⟨_, hK', rfl⟩)
    have r2 := cell_kept (b3.cell 2) (grownBy_putObj' _ D (.deferred none)) (fun r e => by cases e; exact ⟨_, hK', rfl⟩)
    refine ⟨.agg #[.int .i64 t, .int .i64 ln, .int .i64 cl], ?_, ?_, (((hB1.setCell (p := ⟨w.heap.size + 1, 0, none⟩) (by simp) _).setCell (p := ⟨w.heap.size + 1, 1, none⟩) (by simp) _).setCell (p := ⟨w.heap.size + 1, 2, none⟩) (by simp) _).trans (belowK_b (w := w) (Nat.le_refl _) _ D _ _ (by omega) hK' rfl rfl)⟩
    · simp [results, Tryd.results16, go_sem, r0, r1, r2]
    · rw [Hlc.out, ← HF.out]
  case stop =>
    rintro D c pre W hD hpre ⟨⟨⟨rfl, pre0, x, rfl, hp, hx⟩, bR1⟩, hB1⟩ hK
    obtain ⟨rest, hrest⟩ := hpre
    have Hlc := Lib.hid (fold_lc pre0 0 (1, 1) (x :: rest) (by show places s = _; rw [← hrest]; simp) hp (by omega) htl (by intro y r e; cases e; exact hx))
    have HF : Hid (foldW s pre0 = pre0.foldl (stepW s) (1, 1)) := Lib.hid rfl
    rw [List.dropLast_concat] at bR1
    generalize hF : foldW s pre0 = F at *
    obtain ⟨ln, cl⟩ := F
    clear hF hp hx hrest
    simp only [] at bR1
    gi_wp2
    refine ⟨by simp, .inl ⟨_, _, rfl, run_takeDeferred hK, ?_⟩⟩
    have r0 := cell_kept (bR1.cell 0) (grownBy_putObj' _ D (.deferred none)) (fun r e => by cases e; exact ⟨_, hK, rfl⟩)
    have r1 := cell_kept (bR1.cell 1) (grownBy_putObj' _ D (.deferred none)) (fun r e => by cases e; exact ⟨_, hK, rfl⟩)
    have r2 := cell_kept (bR1.cell 2) (grownBy_putObj' _ D (.deferred none)) (fun r e => by cases e; exact ⟨_, hK, rfl⟩)
    refine ⟨.agg #[.int .i64 t, .int .i64 ln, .int .i64 cl], ?_, ?_, hB1.trans (belowK_b (w := w) (Nat.le_refl _) W D _ _ (by omega) hK rfl rfl)⟩
    · simp [results, Tryd.results16, go_sem, r0, r1, r2]
    · rw [Hlc.out, ← HF.out]
end Go.Proofs.YtpdaciljdcfikaaDoor
