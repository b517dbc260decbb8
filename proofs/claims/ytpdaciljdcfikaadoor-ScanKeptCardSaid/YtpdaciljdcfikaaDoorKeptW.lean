/- The law ScanKept walked. -/
import Derived.Test.YtpdaciljdcfikaaDoorBookWordK
import Derived.Test.YtpdaciljdcfikaaDoorBookWordP
import Derived.Test.YtpdaciljdcfikaaDoorWords
import Derived.Test.YtpdaciljdcfikaaDoorKnown
import Derived.Test.YtpdaciljdcfikaaDoorRefFew
namespace Go.Proofs.YtpdaciljdcfikaaDoor.scanKept
open Go.RowKit Go.Shelf bookWord
set_option linter.unusedVariables false
set_option linter.unusedSimpArgs false

/-- Texts that were handed in. -/
def TextsAt (W : World) (o : Option Addr) (n : Nat) : Prop := ∀ i, i < n → ∃ b off, o = some ⟨b, off, none⟩ ∧ b < W.heap.size ∧ ∃ s : ByteArray, s.size ≤ maxLen ∧ W.cell? ⟨b, off + i, none⟩ = some (.string s)
theorem TextsAt.below {W W' : World} {o : Option Addr} {n : Nat} (h : TextsAt W o n) (hB : Below W.heap.size W W') : TextsAt W' o n := fun i hi => by
  obtain ⟨b, off, e, hb, z, hz, hc⟩ := h i hi
  exact ⟨b, off, e, Nat.lt_of_lt_of_le hb hB.size, z, hz, (hB.cell (p := ⟨b, off + i, none⟩) hb).trans hc⟩

def cel (s : ByteArray) (w : Wd) : Cel := ⟨w.kind, w.txt, w.r, w.n, w.fr, (lcN s w.fr 0 1 1).1, (lcN s w.fr 0 1 1).2, w.en⟩
theorem cel_cells (s : ByteArray) (l : List Wd) : (l.map (cel s)).flatMap cl = l.flatMap (wcells s) := by
  rw [List.flatMap_map]; rfl
/-- What Words hands out is a list in its own new block. -/
theorem words_own {s : ByteArray} {W : World} (hs : s.size ≤ 2000) (hT : Tabs W) :
    Calls Tryd.prog 22 #[.string s] W fun e w' => ∃ (o : Option Addr) (c : Nat) (xs : List Cel) (a0 a1 a2 : Int) (er : Nat), e = .returned (.tuple #[.slice o xs.length c, .agg #[.int .i64 a0, .int .i64 a1, .int .i64 a2], .int .i64 er]) ∧ bookWord.Own w' o c xs ∧ xs.length ≤ 2000 ∧ (∀ k, blkOf o = some k → W.heap.size ≤ k) ∧ Below W.heap.size W w' := by
  refine (words_any s W (by omega) hT).mono ?_
  rintro e w' ⟨v, rfl, hown, hlen, _, hB⟩
  have hx : ((wdsN s).map (cel s)).length = (wdsN s).length := List.length_map _
  rcases hown.2 with ⟨hv, h0⟩ | ⟨g, cap, cur, hv, hb, hg, h1, h2, h3, h4⟩
  · subst hv
    have hw : wdsN s = [] := List.eq_nil_of_length_eq_zero h0
    exact ⟨none, 0, [], _, _, _, _, rfl, bookWord.Own.nil _, by simp, (fun k e => by cases e), hB⟩
  · subst hv
    refine ⟨some ⟨g, 0, none⟩, cap, (wdsN s).map (cel s), _, _, _, _, by rw [hx], bookWord.Own.of hg (by rw [hx]; exact h1) h2 h3 (by rw [hx, cel_cells]; exact h4), by rw [hx]; omega, fun k e => ?_, hB⟩
    simp only [blkOf, Option.map_some, Option.some.injEq] at e
    omega

/-- A book in a world. -/
def BookIn (w wr : World) (bk m : Nat) : Prop := ∃ (ao : Option Addr) (g off cap : Nat) (ao' : Option Addr) (g' off' cap' : Nat) (es : List Ent) (held : Int), Blk wr bk [.slice ao es.length cap, .slice ao' es.length cap', .int .i64 held, .bool false] 50 ∧
  Lists wr w.heap.size wr.heap.size bk ao g off cap ao' g' off' cap' es ∧ es.length ≤ m ∧ Below w.heap.size w wr
theorem book_keep {w wr : World} {bk m : Nat} (h : BookIn w wr bk m) (hm : m ≤ 1000) {W : World} (hB : Below wr.heap.size wr W) {o : Option Addr} {c : Nat} {xs : List Cel} (ho : bookWord.Own W o c xs) (hfr : ∀ k, blkOf o = some k → wr.heap.size ≤ k) (hx : xs.length ≤ 2000) :
    Calls Tryd.prog 25 #[.pointer (some ⟨bk, 0, none⟩), .slice o xs.length c] W fun e w' => (∃ v, e = .returned v) ∧ BookIn w w' bk (m + 1) := by
  obtain ⟨ao, g, off, cap, ao', g', off', cap', es, held, hb, hl, hn, hbel⟩ := h
  refine (keep_any W w.heap.size wr.heap.size bk ao g off cap ao' g' off' cap' es held (hb.keep (Keep.of_below hB (fun _ => False)) (by simp)) (hl.keep hB.size (fun k hk _ _ => hB.block k hk)) (by omega) hB.size o c xs ho hfr (by omega)).mono ?_
  rintro e w' ⟨he, ao2, g2, off2, cap2, ao3, g3, off3, cap3, es2, held2, hb2, hl2, hn2, hbel2⟩
  exact ⟨he, ao2, g2, off2, cap2, ao3, g3, off3, cap3, es2, held2, hb2, hl2, by omega, (hbel.trans (hB.mono hbel.size)).trans hbel2⟩
theorem book_new (w : World) : BookIn w (w.alloc (.cells #[.slice none 0 0, .slice none 0 0, .int .i64 0, .bool false] 50)) w.heap.size 0 := by
  have hz : (w.alloc (.cells #[.slice none 0 0, .slice none 0 0, .int .i64 0, .bool false] 50)).heap.size = w.heap.size + 1 := by simp
  have hc : ∀ W : World, Came W 1 none 0 0 0 0 [] := fun W => ⟨Nat.le_refl _, fun h => absurd h (Nat.lt_irrefl _), fun h => absurd h (Nat.lt_irrefl _), rfl, fun j u h => by simp at h, fun j h => by simp at h⟩
  refine ⟨none, 0, 0, 0, none, 0, 0, 0, [], 0, Blk.new' w _ _, ⟨hc _, hc _, Nat.zero_le _, Nat.zero_le _, by simp, ⟨Nat.le_refl _, by omega⟩, (fun k e => by cases e), (fun k e => by cases e), by simp, List.Pairwise.nil, by simp⟩, Nat.le_refl _, (Below.refl _ w).alloc (Nat.le_refl _) _⟩
theorem book_apart {w wr : World} {bk m : Nat} (h : BookIn w wr bk m) :
    Calls Tryd.prog 26 #[.pointer (some ⟨bk, 0, none⟩), .func (.func 27) #[] #[]] wr fun e w' => e = .returned (.bool true) ∧ Below w.heap.size w w' := by
  obtain ⟨ao, g, off, cap, ao', g', off', cap', es, held, hb, hl, hn, hbel⟩ := h
  refine (apart_any wr w.heap.size wr.heap.size bk ao g off cap ao' g' off' cap' es held hb hl).mono ?_
  rintro e w' ⟨he, hb2⟩
  exact ⟨he, hbel.trans hb2⟩
theorem BookIn.below {w wr : World} {bk m : Nat} (h : BookIn w wr bk m) : Below w.heap.size w wr := by
  obtain ⟨_, _, _, _, _, _, _, _, _, _, _, _, _, hbel⟩ := h
  exact hbel
theorem BookIn.size {w wr : World} {bk m : Nat} (h : BookIn w wr bk m) : w.heap.size ≤ wr.heap.size := h.below.size

set_option maxRecDepth 100000 in
set_option maxHeartbeats 4000000 in
theorem walk (txo : Option Addr) (tn tc : Nat) (w : World) (ht : TextsAt w txo tn) (hn : tn ≤ maxLen) (hT : Tabs w) (hZ : TzAt w) :
    Calls Tryd.prog 11 #[.slice txo tn tc] w fun e w' => e = .returned (.bool true) ∧ Below w.heap.size w w' := by
  have HT := Lib.hid hT
  have HZ := Lib.hid hZ
  have HTx := Lib.hid ht
  have hnm : tn ≤ 9223372036854775807 := hn
  clear hT hZ ht hn
  have hb0 := book_new w
  go_enter Tryd.func11, Tryd.ntmps11
  go_wp2_with fail
  generalize w.alloc (.cells #[.slice none 0 0, .slice none 0 0, .int .i64 0, .bool false] 50) = W0 at *
  go_loopw [4] (fun v4 wr => ∃ i : Nat, v4 = .int .i64 i ∧ i ≤ tn ∧ i ≤ 20 ∧ BookIn w wr w.heap.size (2 * i)) (fun v4 _ => 20 - (intOf v4).toNat)
  case atStart => exact ⟨0, rfl, Nat.zero_le _, Nat.zero_le _, hb0⟩
  case round =>
    clear hb0
    obtain ⟨i, rfl, hi, hi2, hb⟩ := hrel
    have i0 : (0 : Int) ≤ (i : Int) := Int.natCast_nonneg _
    by_cases hlt : i < tn ∧ i < 20
    · have i1 : (i : Int) < (tn : Int) := by omega
      have i2 : (i : Int) < 20 := by omega
      obtain ⟨tb, off, rfl, htb, s, hs, hc⟩ := (HTx.out.below hb.below) i hlt.1
      have hfz := fewB_size s 2000
      have hfw := fun W => few_any s 2000 W hs (by omega)
      generalize fewB s 2000 = t at *
      have HF := Lib.hid hfw
      have hwo := fun W h => words_own (s := t) (W := W) hfz h
      have HW := Lib.hid hwo
      clear hfw hwo hlt
      go_wp2_with fail
      refine Calls.mono (HF.out _) ?_
      rintro e w' ⟨rfl, rfl⟩
      go_wp2_with fail
      go_loopw [6] (fun v6 wx => ∃ k : Nat, v6 = .int .i64 k ∧ k ≤ 2 ∧ BookIn w wx w.heap.size (2 * i + k)) (fun v6 _ => 2 - (intOf v6).toNat)
      case atStart => exact ⟨0, rfl, Nat.zero_le _, hb⟩
      case round =>
        clear hb hc
        obtain ⟨k, rfl, hk, hb⟩ := hrel
        by_cases hk2 : k < 2
        · have k0 : (0 : Int) ≤ (k : Int) := Int.natCast_nonneg _
          have k1 : (k : Int) < 2 := by omega
          go_wp2_with fail
          refine Calls.mono (HW.out _ (Utf8Tabs_below HT.out hb.below)) ?_
          rintro e w2 ⟨o, c, xs, a0, a1, a2, er, rfl, ho, hx, hfr, hB2⟩
          have hB3 := hB2.alloc hB2.size (.cells #[.int .i64 a0, .int .i64 a1, .int .i64 a2] 28)
          have ho3 : bookWord.Own (w2.alloc (.cells #[.int .i64 a0, .int .i64 a1, .int .i64 a2] 28)) o c xs := ho.keep fun k _ hk => Below.heap_alloc _ _ _ hk
          go_wp2_with fail
          generalize w2.alloc (.cells #[.int .i64 a0, .int .i64 a1, .int .i64 a2] 28) = W3 at *
          refine Calls.mono (book_keep hb (by omega) hB3 ho3 hfr hx) ?_
          rintro e w4 ⟨⟨v, rfl⟩, hb4⟩
          go_wp2_with fail
          exact ⟨⟨k + 1, by go_num, by omega, hb4⟩, by simp [intOf]; omega⟩
        · obtain rfl : k = 2 := by omega
          clear hk hk2
          go_wp2_with fail
          exact ⟨⟨i + 1, by go_num, by omega, by omega, hb⟩, by simp [intOf]; omega⟩
    · have hend : ∀ d : Nat, BookIn w wr w.heap.size (2 * i) → True := fun _ _ => trivial
      have HA := Lib.hid (book_apart hb)
      have hend2 := hb.below
      by_cases h1 : i < tn
      · have i1 : (i : Int) < (tn : Int) := by omega
        have i2 : decide ((i : Int) < 20) = false := by rw [decide_eq_false_iff_not]; omega
        clear hlt h1 hi hi2
        go_wp2_with fail
        refine Calls.mono HA.out ?_
        rintro e w5 ⟨rfl, hB5⟩
        go_wp2_with fail
        refine (known_any _ (Utf8Tabs_below HT.out hB5) (HZ.out.below hB5)).mono ?_
        rintro e w6 ⟨rfl, hB6⟩
        go_wp2_with fail
        go_ret
        exact ⟨rfl, hB5.trans (hB6.mono hB5.size)⟩
      · obtain rfl : i = tn := by omega
        clear hlt h1 hi hi2 i0
        go_wp2_with fail
        refine Calls.mono HA.out ?_
        rintro e w5 ⟨rfl, hB5⟩
        go_wp2_with fail
        refine (known_any _ (Utf8Tabs_below HT.out hB5) (HZ.out.below hB5)).mono ?_
        rintro e w6 ⟨rfl, hB6⟩
        go_wp2_with fail
        go_ret
        exact ⟨rfl, hB5.trans (hB6.mono hB5.size)⟩
end Go.Proofs.YtpdaciljdcfikaaDoor.scanKept
