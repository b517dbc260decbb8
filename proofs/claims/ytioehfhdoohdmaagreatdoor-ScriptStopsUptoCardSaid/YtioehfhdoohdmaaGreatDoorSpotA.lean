/- SpotA: SpotsT, Reach, CutW, CountW, JoinsU. -/
import Derived.RangeFuncNested
import Derived.RangeFuncBound
import Derived.RangeFuncCalls
import Derived.RangeFuncLeaves
import Derived.Shelf.Abstract
import Derived.Shelf.RegionOpen
import Derived.OwnWalkIn
import Derived.TacticsInMore
import Derived.LoopNIn
import Derived.LoopIn
import Derived.Test.YtioehfhdoohdmaaGreatDoorTabA
import Derived.Test.YtioehfhdoohdmaaGreatDoorLex
import Derived.Lib.RuneCountTail
/- utf.Spots: its iterator's contract. -/
namespace Go.Proofs.YtioehfhdoohdmaaGreatDoor
open Go.RowKit Go.Shelf
attribute [local go_sem] Oper.semAt_some
set_option linter.unusedVariables false
set_option linter.unusedSimpArgs false

/-- A place in a text. -/
abbrev Pl (s : ByteArray) := { i : Nat // i < s.size }
def encS (s : ByteArray) (x : Pl s) : Array Value := #[.int .i64 x.1, .agg #[.int .i32 (Utf8.decode s x.1).1, .int .i64 (Utf8.decode s x.1).2, .bool (!goodAt s x.1)]]
def placesGo (s : ByteArray) : Nat → Nat → List (Pl s)
  | 0, _ => []
  | f + 1, i => if h : i < s.size then ⟨i, h⟩ :: placesGo s f (i + (Utf8.decode s i).2) else []
theorem places_fuel (s : ByteArray) : ∀ d i f, s.size - i = d → d ≤ f → placesGo s f i = placesGo s d i := by
  intro d
  induction d using Nat.strongRecOn with
  | _ d ih =>
    intro i f hd hf
    cases d with
    | zero =>
      cases f with
      | zero => rfl
      | succ f => show placesGo s (f + 1) i = []; rw [placesGo, dif_neg (by omega)]
    | succ d =>
      obtain ⟨f, rfl⟩ : ∃ g, f = g + 1 := ⟨f - 1, by omega⟩
      have hw := dec_width s i
      rw [placesGo, placesGo, dif_pos (by omega), dif_pos (by omega)]
      rw [ih (s.size - (i + (Utf8.decode s i).2)) (by omega) _ f rfl (by omega), ih (s.size - (i + (Utf8.decode s i).2)) (by omega) _ d rfl (by omega)]
def placesFrom (s : ByteArray) (i : Nat) : List (Pl s) := placesGo s (s.size - i) i
def places (s : ByteArray) : List (Pl s) := placesFrom s 0
theorem places_step {s : ByteArray} {i : Nat} (h : i < s.size) : placesFrom s i = ⟨i, h⟩ :: placesFrom s (i + (Utf8.decode s i).2) := by
  have hw := dec_width s i
  rw [placesFrom, show s.size - i = (s.size - i - 1) + 1 by omega, placesGo, dif_pos h, places_fuel s (s.size - (i + (Utf8.decode s i).2)) _ (s.size - i - 1) rfl (by omega)]
  rfl
theorem places_end {s : ByteArray} {i : Nat} (h : s.size ≤ i) : placesFrom s i = [] := by
  rw [placesFrom, show s.size - i = 0 by omega]; rfl

/-- What a round must keep: the text in its box, and iterators. -/
def KpS (nb : Nat) (s : ByteArray) (A B : World) : Prop := (A.cell? ⟨nb, 0, none⟩ = some (.string s) → B.cell? ⟨nb, 0, none⟩ = some (.string s)) ∧ KeepsWalks A B

theorem enc_fffd : (Utf8.encode 65533).data.toList = [239, 191, 189] := by decide +kernel
set_option maxRecDepth 100000 in
theorem spot_any (r n : Nat) (bad : Bool) (hb : bad = (decide (r = 65533) && decide (n = 1))) (w : World) :
    Calls Tryz.prog 61 #[.int .i32 r, .int .i64 n] w fun e w' => e = .returned (.agg #[.int .i32 r, .int .i64 n, .bool bad]) ∧ w.alloc (.cells #[.int .i32 r, .int .i64 n, .bool bad] 77) = w' := by
  by_cases hr : r = 65533
  · subst hr
    by_cases hn : n = 1
    · subst hn
      obtain rfl : bad = true := by simpa using hb
      clear hb
      go_enter Tryz.func61, Tryz.ntmps61
      go_wp2
      exact bodyPost_ret (v := .agg #[.int .i32 65533, .int .i64 1, .bool true]) (by simp [results, Tryz.results61, go_sem]) rfl ⟨rfl, rfl⟩
    · obtain rfl : bad = false := by simpa [hn] using hb
      clear hb
      have hn2 : ((n : Int) == 1) = false := by simp; omega
      go_enter Tryz.func61, Tryz.ntmps61
      go_wp2
      exact bodyPost_ret (v := .agg #[.int .i32 65533, .int .i64 n, .bool false]) (by simp [results, Tryz.results61, go_sem]) rfl ⟨rfl, rfl⟩
  · obtain rfl : bad = false := by simpa [hr] using hb
    clear hb
    have hr2 : ((r : Int) == 65533) = false := by simp; omega
    go_enter Tryz.func61, Tryz.ntmps61
    go_wp2
    exact bodyPost_ret (v := .agg #[.int .i32 r, .int .i64 n, .bool false]) (by simp [results, Tryz.results61, go_sem]) rfl ⟨rfl, rfl⟩

set_option maxRecDepth 100000 in
set_option maxHeartbeats 2000000 in
theorem spots1_in (n : Nat) (hn : 1 ≤ n) (l nb : Nat) (s : ByteArray) (hs : s.size ≤ 140737488351232) (J Jx : List (Pl s) → World → Prop) (W : World) (hJ : AbidesFrom W.heap.size J)
    (hY : ∀ pre x W1, J pre W1 → pre.length < s.size → YieldAt Fence.wide (n - 1) Tryz.prog l (encS s x) W1 fun e W' => (e = .returned (.bool true) ∧ J (pre ++ [x]) W' ∧ KpS nb s W1 W') ∨ (e = .returned (.bool false) ∧ Jx (pre ++ [x]) W'))
    (hb : W.cell? ⟨nb, 0, none⟩ = some (.string s)) (h0 : J [] W) :
    CallsIn Fence.wide n Tryz.prog 84 #[.func (.yield l) #[] #[], .pointer (some ⟨nb, 0, none⟩)] W fun e W' => (∃ v, e = .returned v) ∧ ((∃ ys, ys = places s ∧ J ys W') ∨ (∃ pre, pre <+: places s ∧ Jx pre W')) := by
  refine callsIn_of_wp Tryz.func84 rfl trivial ?_ rfl
  simp only [Tryz.ntmps84, List.size_toArray, List.length_cons, List.length_nil, Nat.reduceAdd, Nat.reduceSub, Array.replicate_succ, Array.replicate_zero, List.push_toArray, List.append_toArray, List.nil_append, List.cons_append]
  gi_wp2
  have hI0 := Itr.new W s 0
  have hb1 : (W.iter s 0).cell? ⟨nb, 0, none⟩ = some (.string s) := (World.cell?_of_block (Below.heap_alloc W _ nb (World.block_lt_of_cell? W _ hb))).trans hb
  have hJ1 : J [] (W.iter s 0) := hJ [] W (W.iter s 0) none h0 (World.grownBy_alloc W _ none) (fun r e => by cases e)
  have hz1 : W.heap.size < (W.iter s 0).heap.size := hI0.lt
  generalize W.iter s 0 = W0 at *
  gi_loopw [3] (fun _ wr => ∃ (pre : List (Pl s)) (i : Nat), Hid (pre ++ placesFrom s i = places s) ∧ i ≤ s.size ∧ pre.length ≤ i ∧ J pre wr ∧ Itr wr W.heap.size s i ∧ wr.cell? ⟨nb, 0, none⟩ = some (.string s)) (fun _ wr => s.size - wr.iterPos W.heap.size)
  case atStart => exact ⟨[], 0, Lib.hid rfl, by omega, by simp, hJ1, hI0, hb1⟩
  case round =>
    obtain ⟨pre, i, Hpre, hi, hlen, hJs, hit, hbx⟩ := hrel
    have hpos : wr.iterPos W.heap.size = i := by
      unfold World.iterPos; rw [show wr.heap[W.heap.size]? = _ from hit]
    by_cases hlt : i < s.size
    · have hn' := fun ty => Lib.run_next_any_at (P := Tryz.prog) wr _ _ _ ty hit hlt
      have hw := dec_width s i
      have hf := dec_fits hlt
      have hrb := dec_rune s i
      have Hpl := Lib.hid (places_step hlt)
      have hJ2 : J pre (wr.iterAt W.heap.size s (i + (Utf8.decode s i).2)) := hJ pre wr _ (some W.heap.size) hJs ⟨rfl, rfl, rfl, by rw [Lib.iterAt_size]; exact Nat.le_refl _, fun k _ hk => Lib.iterAt_other _ _ _ _ _ (fun e => hk (by rw [e]))⟩ (fun r e => by cases e; exact ⟨Nat.le_refl _, _, hit, rfl⟩)
      have hit2 := hit.at (i + (Utf8.decode s i).2)
      have hbx2 : (wr.iterAt W.heap.size s (i + (Utf8.decode s i).2)).cell? ⟨nb, 0, none⟩ = some (.string s) := (World.cell?_of_block (Lib.iterAt_other _ _ _ _ _ (fun e => by
        rw [show nb = W.heap.size from e] at hbx
        simp [World.cell?, show wr.heap[W.heap.size]? = _ from hit] at hbx))).trans hbx
      have hJ3 : ∀ o, J pre ((wr.iterAt W.heap.size s (i + (Utf8.decode s i).2)).alloc o) := fun o => hJ pre _ _ none hJ2 (World.grownBy_alloc _ o none) (fun r e => by cases e)
      obtain ⟨fn, tmps, assign, body, hy, hR⟩ := hY pre ⟨i, hlt⟩ _ (hJ3 (.cells #[.int .i32 (Utf8.decode s i).1, .int .i64 (Utf8.decode s i).2, .bool (!goodAt s i)] 77)) (by omega)
      simp only [encS] at hy hR
      have hlenR : goodAt s i = true → Lib.runeLen (Utf8.decode s i).1 = (Utf8.decode s i).2 := runeLen_dec hlt
      have hbad : goodAt s i = false → (Utf8.decode s i).1 = 65533 ∧ (Utf8.decode s i).2 = 1 := fun h => ⟨bad_rune hlt h, by
        have := false_iff_of h good_iff; omega⟩
      have hpf : (Utf8.decode s i).1 = 65533 → Lib.hasPrefix (s.extract i s.size).data.toList [239, 191, 189] = goodAt s i := fffd_prefix hlt
      generalize hR' : (Utf8.decode s i).1 = R at *
      generalize hK' : (Utf8.decode s i).2 = K at *
      generalize hg : goodAt s i = g at *
      have Hr := Lib.hid hR'
      have Hk := Lib.hid hK'
      have Hg := Lib.hid hg
      clear hR' hK' hg
      clear hY h0 hb hJ hJ1 hI0 hb1 hJ3 hJ2 hJs hz1
      have hit3 := hit2.alloc (.cells #[.int .i32 R, .int .i64 K, .bool (!g)] 77)
      have hbx3 : ((wr.iterAt W.heap.size s (i + K)).alloc (.cells #[.int .i32 R, .int .i64 K, .bool (!g)] 77)).cell? ⟨nb, 0, none⟩ = some (.string s) := (World.cell?_of_block (Below.heap_alloc _ _ nb (World.block_lt_of_cell? _ _ hbx2))).trans hbx2
      have fin : ∀ (e : Ending) W', e = Ending.returned (Value.bool true) ∧ J (pre ++ [⟨i, hlt⟩]) W' ∧ KpS nb s ((wr.iterAt W.heap.size s (i + K)).alloc (.cells #[.int .i32 R, .int .i64 K, .bool (!g)] 77)) W' → ((pre ++ [⟨i, hlt⟩]) ++ placesFrom s (i + K) = places s ∧ Itr W' W.heap.size s (i + K) ∧ W'.cell? ⟨nb, 0, none⟩ = some (.string s)) := by
        rintro e W' ⟨_, _, hk1, hk2⟩
        refine ⟨by rw [← Hpre.out, Hpl.out]; simp, hk2.same _ _ hit3 rfl, hk1 hbx3⟩
      have Fin := Lib.hid fin
      have Hit3 := Lib.hid hit3
      have Hbx3 := Lib.hid hbx3
      clear fin hit3 hbx3 hit2
      cases g with
      | false =>
        obtain ⟨rfl, rfl⟩ := hbad rfl
        have hpf' := hpf rfl
        have Hpf := Lib.hid hpf'
        clear hpf hpf' hlenR hbad
        simp only [Bool.not_false, Int.cast_ofNat_Int] at hy hR Fin
        gi_wp2_with (first | (refine ⟨trivial, ?_⟩; gi_at_call 85; refine (callsIn_wide.2 (runeLen_any 65533 _)).mono ?_; rintro e w3 ⟨rfl, rfl⟩) | (refine ⟨trivial, ?_⟩; gi_at_call 86; refine (callsIn_wide.2 (Tryz.strings_HasPrefix _ _ _)).mono ?_; rintro e w' ⟨rfl, rfl⟩; rw [enc_fffd, Hpf.out]) | (refine ⟨trivial, ?_⟩; gi_at_call 61; refine (callsIn_wide.2 (spot_any 65533 1 true (by simp) _)).mono ?_; rintro e w' ⟨rfl, rfl⟩))
        refine hR.mono ?_
        rintro e W3 (hh | ⟨rfl, hJx3⟩)
        · obtain ⟨f1, f2, f3⟩ := Fin.out e W3 hh
          obtain ⟨rfl, hJ3, hk3⟩ := hh
          gi_wp2
          go_roundw
          case rel => exact ⟨pre ++ [⟨i, hlt⟩], i + 1, Lib.hid f1, by omega, by simp; omega, hJ3, f2, f3⟩
          case measure => rw [hpos, show W3.iterPos W.heap.size = i + 1 by unfold World.iterPos; rw [show W3.heap[W.heap.size]? = _ from f2]]; omega
        · gi_wp2
          refine bodyPost_ret (results_none rfl _ _ _) rfl ?_
          exact ⟨⟨_, rfl⟩, .inr ⟨_, ⟨placesFrom s (i + 1), by rw [← Hpre.out, Hpl.out]; simp⟩, hJx3⟩⟩
      | true =>
        have hl' := hlenR rfl
        have Hl := Lib.hid hl'
        simp only [Bool.not_true] at hy hR Fin
        clear hl' hlenR hbad
        by_cases h65 : R = 65533
        · subst h65
          have hpf' := hpf rfl
          have Hpf := Lib.hid hpf'
          have Hb : Hid (false = (decide (65533 = 65533) && decide (K = 1))) := by
            have hk3 : K = 3 := by have := Hl.out; simp [Lib.runeLen] at this; omega
            subst hk3; rfl
          clear hpf hpf'
          simp only [Int.cast_ofNat_Int] at hy hR Fin
          gi_wp2_with (first | (refine ⟨trivial, ?_⟩; gi_at_call 85; refine (callsIn_wide.2 (runeLen_any 65533 _)).mono ?_; rintro e w3 ⟨rfl, rfl⟩; rw [Hl.out]) | (refine ⟨trivial, ?_⟩; gi_at_call 86; refine (callsIn_wide.2 (Tryz.strings_HasPrefix _ _ _)).mono ?_; rintro e w' ⟨rfl, rfl⟩; rw [enc_fffd, Hpf.out]) | (refine ⟨trivial, ?_⟩; gi_at_call 61; refine (callsIn_wide.2 (spot_any 65533 K false Hb.out _)).mono ?_; rintro e w' ⟨rfl, rfl⟩))
          refine hR.mono ?_
          rintro e W3 (hh | ⟨rfl, hJx3⟩)
          · obtain ⟨f1, f2, f3⟩ := Fin.out e W3 hh
            obtain ⟨rfl, hJ3, hk3⟩ := hh
            gi_wp2
            go_roundw
            case rel => exact ⟨pre ++ [⟨i, hlt⟩], i + K, Lib.hid f1, by omega, by simp; omega, hJ3, f2, f3⟩
            case measure => rw [hpos, show W3.iterPos W.heap.size = i + K by unfold World.iterPos; rw [show W3.heap[W.heap.size]? = _ from f2]]; omega
          · gi_wp2
            refine bodyPost_ret (results_none rfl _ _ _) rfl ?_
            exact ⟨⟨_, rfl⟩, .inr ⟨_, ⟨placesFrom s (i + K), by rw [← Hpre.out, Hpl.out]; simp⟩, hJx3⟩⟩
        · have Hb : Hid (false = (decide (R = 65533) && decide (K = 1))) := by
            show false = _
            rw [decide_eq_false h65]; rfl
          have h65' : ((R : Int) == 65533) = false := by simp; omega
          clear hpf
          gi_wp2_with (first | (refine ⟨trivial, ?_⟩; gi_at_call 85; refine (callsIn_wide.2 (runeLen_any R _)).mono ?_; rintro e w3 ⟨rfl, rfl⟩; rw [Hl.out]) | (refine ⟨trivial, ?_⟩; gi_at_call 61; refine (callsIn_wide.2 (spot_any R K false Hb.out _)).mono ?_; rintro e w' ⟨rfl, rfl⟩))
          refine ⟨trivial, ?_⟩
          gi_wp2_with (first | (refine ⟨trivial, ?_⟩; gi_at_call 61; refine (callsIn_wide.2 (spot_any R K false Hb.out _)).mono ?_; rintro e w' ⟨rfl, rfl⟩))
          refine hR.mono ?_
          rintro e W3 (hh | ⟨rfl, hJx3⟩)
          · obtain ⟨f1, f2, f3⟩ := Fin.out e W3 hh
            obtain ⟨rfl, hJ3, hk3⟩ := hh
            gi_wp2
            go_roundw
            case rel => exact ⟨pre ++ [⟨i, hlt⟩], i + K, Lib.hid f1, by omega, by simp; omega, hJ3, f2, f3⟩
            case measure => rw [hpos, show W3.iterPos W.heap.size = i + K by unfold World.iterPos; rw [show W3.heap[W.heap.size]? = _ from f2]]; omega
          · gi_wp2
            refine bodyPost_ret (results_none rfl _ _ _) rfl ?_
            exact ⟨⟨_, rfl⟩, .inr ⟨_, ⟨placesFrom s (i + K), by rw [← Hpre.out, Hpl.out]; simp⟩, hJx3⟩⟩
    · have hn' := fun ty => Lib.run_next_end_at (P := Tryz.prog) wr _ _ _ ty hit hlt
      have hpl := places_end (s := s) (i := i) (by omega)
      have Hpl := Lib.hid hpl
      clear hpl
      gi_wp2
      go_end0
      exact ⟨⟨_, rfl⟩, .inl ⟨pre, by have := Hpre.out; rw [Hpl.out, List.append_nil] at this; exact this, hJs⟩⟩
end Go.Proofs.YtioehfhdoohdmaaGreatDoor

/- Plain: the spots of a text that is cut where a spot begins. -/
namespace Go.Proofs.YtioehfhdoohdmaaGreatDoor
open Go
set_option linter.unusedVariables false
set_option linter.unusedSimpArgs false

/-- b is reached from a, spot by spot. -/
inductive Reach (s : ByteArray) (b : Nat) : Nat → Prop
  | refl : Reach s b b
  | step {a : Nat} (h : a < s.size) (r : Reach s b (a + (Utf8.decode s a).2)) : Reach s b a
theorem Reach.le {s : ByteArray} {a b : Nat} (h : Reach s b a) : a ≤ b := by
  induction h with
  | refl => exact Nat.le_refl _
  | step h r ih => omega
theorem reach_or {s : ByteArray} {b : Nat} (hb : b ≤ s.size) : ∀ d a, b - a = d → a ≤ b → Reach s b a ∨ ∃ f, a ≤ f ∧ f < b ∧ b < f + (Utf8.decode s f).2 := by
  intro d
  induction d using Nat.strongRecOn with
  | _ d ih =>
    intro a hd ha
    have hw := dec_width s a
    by_cases h0 : a = b
    · subst h0; exact Or.inl Reach.refl
    · by_cases h1 : b < a + (Utf8.decode s a).2
      · exact Or.inr ⟨a, Nat.le_refl _, by omega, h1⟩
      · rcases ih (b - (a + (Utf8.decode s a).2)) (by omega) _ rfl (by omega) with h | ⟨f, h2, h3, h4⟩
        · exact Or.inl (Reach.step (by omega) h)
        · exact Or.inr ⟨f, by omega, h3, h4⟩
theorem good_same {s s' : ByteArray} {i i' : Nat} (hg : goodAt s i = true) (hle : i' + (Utf8.decode s i).2 ≤ s'.size) (hb : ∀ j, j < (Utf8.decode s i).2 → B s' (i' + j) = B s (i + j)) : Utf8.decode s' i' = Utf8.decode s i ∧ goodAt s' i' = true := by
  have hw := dec_width s i
  have hg2 := good_iff.1 hg
  have e0 := hb 0 (by omega)
  rw [Nat.add_zero, Nat.add_zero] at e0
  have e : Utf8.decode s' i' = Utf8.decode s i := by
    rw [dec_eq s i] at hg2 hb hw hle ⊢
    rw [dec_eq s', e0]
    exact decodeN_congr (B_lt _ _) (B_lt _ _) (B_lt _ _) (B_lt _ _) (B_lt _ _) (B_lt _ _) (B_lt _ _) hg2 (by omega) (fun h => hb 1 (by omega)) (fun h => hb 2 (by omega)) (fun h => hb 3 (by omega))
  exact ⟨e, good_iff.2 (by rw [e, e0]; exact hg2)⟩
theorem bad_dec {s : ByteArray} {i : Nat} (h : goodAt s i = false) : Utf8.decode s i = (65533, 1) := by
  have h1 : ¬ ((Utf8.decode s i).2 ≠ 1 ∨ B s i < 128) := fun hh => by rw [good_iff.2 hh] at h; cases h
  rw [dec_eq] at h1 ⊢
  rcases decodeN_cases (s.size - i) (B s i) (B s (i + 1)) (B s (i + 2)) (B s (i + 3)) (B_lt _ _) (B_lt _ _) (B_lt _ _) (B_lt _ _) with ⟨h2, e⟩ | ⟨_, _, e⟩ | ⟨_, _, e⟩ | ⟨_, _, e⟩ | ⟨_, _, _, _, e⟩
  · exact absurd (Or.inr h2) h1
  · rw [e] at h1; exact absurd (Or.inl (by simp)) h1
  · rw [e] at h1; exact absurd (Or.inl (by simp)) h1
  · rw [e] at h1; exact absurd (Or.inl (by simp)) h1
  · exact e
/-- A text that is cut behind a spot has that spot. -/
theorem cut_dec {s : ByteArray} {b a : Nat} (hb : b ≤ s.size) (h : a + (Utf8.decode s a).2 ≤ b) : Utf8.decode (s.extract 0 b) a = Utf8.decode s a ∧ goodAt (s.extract 0 b) a = goodAt s a := by
  have hz : (s.extract 0 b).size = b := by simp; omega
  have hB : ∀ k, k < b → B (s.extract 0 b) k = B s k := fun k hk => by rw [B_extract s 0 b k (by omega) hb, Nat.zero_add]
  cases hg : goodAt s a with
  | true => exact good_same hg (by rw [hz]; exact h) (fun j hj => hB _ (by omega))
  | false =>
    have hw := dec_width (s.extract 0 b) a
    have hws := dec_width s a
    cases hg' : goodAt (s.extract 0 b) a with
    | false => exact ⟨(bad_dec hg').trans (bad_dec hg).symm, rfl⟩
    | true =>
      have hf := dec_fits (s := s.extract 0 b) (i := a) (by rw [hz]; omega)
      rw [hz] at hf
      have := (good_same (s' := s) (i' := a) hg' (by omega) (fun j hj => (hB _ (by omega)).symm)).2
      rw [hg] at this
      cases this
/-- What stands at a place. -/
def kdAt (s : ByteArray) (i : Nat) : Int × Bool := (((Utf8.decode s i).1 : Nat), !goodAt s i)
def pkFrom (s : ByteArray) (i : Nat) : List (Nat × Int × Bool) := (placesFrom s i).map fun x => (x.1, kdAt s x.1)
def kindsFrom (s : ByteArray) (i : Nat) : List (Int × Bool) := (placesFrom s i).map fun x => kdAt s x.1
theorem pk_step {s : ByteArray} {i : Nat} (h : i < s.size) : pkFrom s i = (i, kdAt s i) :: pkFrom s (i + (Utf8.decode s i).2) := by rw [pkFrom, places_step h]; rfl
theorem pk_end {s : ByteArray} {i : Nat} (h : s.size ≤ i) : pkFrom s i = [] := by rw [pkFrom, places_end h]; rfl
theorem kinds_step {s : ByteArray} {i : Nat} (h : i < s.size) : kindsFrom s i = kdAt s i :: kindsFrom s (i + (Utf8.decode s i).2) := by rw [kindsFrom, places_step h]; rfl
theorem kinds_end {s : ByteArray} {i : Nat} (h : s.size ≤ i) : kindsFrom s i = [] := by rw [kindsFrom, places_end h]; rfl
theorem kinds_pk (s : ByteArray) (i : Nat) : kindsFrom s i = (pkFrom s i).map (·.2) := by rw [kindsFrom, pkFrom, List.map_map]; rfl
theorem pk_prefix {s : ByteArray} {p a : Nat} (hp : p ≤ s.size) (h : Reach s p a) : pkFrom s a = pkFrom (s.extract 0 p) a ++ pkFrom s p := by
  have hz : (s.extract 0 p).size = p := by simp; omega
  induction h with
  | refl => rw [pk_end (s := s.extract 0 p) (by omega)]; rfl
  | @step a h r ih =>
    have hl := r.le
    have hw := dec_width s a
    obtain ⟨e1, e2⟩ := cut_dec hp hl
    rw [pk_step h, pk_step (s := s.extract 0 p) (by rw [hz]; omega), ih, e1]
    have e3 : kdAt (s.extract 0 p) a = kdAt s a := by unfold kdAt; rw [e1, e2]
    rw [e3]
    rfl
theorem kd_tail {s : ByteArray} {p : Nat} (hp : p ≤ s.size) (i : Nat) : kdAt (s.extract p s.size) i = kdAt s (p + i) := by
  unfold kdAt
  have e := Lib.tail_decode s p i
  have e2 : goodAt (s.extract p s.size) i = goodAt s (p + i) := by unfold goodAt; rw [e, B_tail s p i hp]
  rw [e, e2]
theorem kinds_tail {s : ByteArray} {p : Nat} (hp : p ≤ s.size) : ∀ d i, s.size - (p + i) = d → kindsFrom (s.extract p s.size) i = kindsFrom s (p + i) := by
  have hz : (s.extract p s.size).size = s.size - p := by simp
  intro d
  induction d using Nat.strongRecOn with
  | _ d ih =>
    intro i hd
    have hw := dec_width s (p + i)
    by_cases h : p + i < s.size
    · rw [kinds_step h, kinds_step (s := s.extract p s.size) (by rw [hz]; omega), kd_tail hp, Lib.tail_decode s p i, ih (s.size - (p + (i + (Utf8.decode s (p + i)).2))) (by omega) _ rfl, Nat.add_assoc]
    · rw [kinds_end (s := s) (by omega), kinds_end (s := s.extract p s.size) (by rw [hz]; omega)]
/-- The spots of a whole are those of its parts. -/
theorem kinds_cut {s : ByteArray} {p : Nat} (hp : p ≤ s.size) (h : Reach s p 0) : kindsFrom s 0 = kindsFrom (s.extract 0 p) 0 ++ kindsFrom (s.extract p s.size) 0 := by
  rw [kinds_tail hp _ 0 rfl, kinds_pk s 0, pk_prefix hp h, List.map_append, ← kinds_pk, ← kinds_pk]
  rfl
theorem wide_lead {s : ByteArray} {f : Nat} (h : 1 < (Utf8.decode s f).2) : 192 ≤ B s f ∧ goodAt s f = true := by
  refine ⟨?_, good_iff.2 (Or.inl (by omega))⟩
  rw [dec_eq] at h
  rcases decodeN_cases (s.size - f) (B s f) (B s (f + 1)) (B s (f + 2)) (B s (f + 3)) (B_lt _ _) (B_lt _ _) (B_lt _ _) (B_lt _ _) with ⟨_, e⟩ | ⟨_, x, e⟩ | ⟨_, x, e⟩ | ⟨_, x, e⟩ | ⟨_, _, _, _, e⟩
  · rw [e] at h; simp at h
  · unfold Seq at x; omega
  · unfold Seq at x; omega
  · unfold Seq at x; omega
  · rw [e] at h; simp at h
theorem wide_tail {s : ByteArray} {g k : Nat} (h1 : 1 ≤ k) (h : k < (Utf8.decode s g).2) : B s (g + k) < 192 := by
  rw [dec_eq] at h
  rcases decodeN_cases (s.size - g) (B s g) (B s (g + 1)) (B s (g + 2)) (B s (g + 3)) (B_lt _ _) (B_lt _ _) (B_lt _ _) (B_lt _ _) with ⟨_, e⟩ | ⟨_, x, e⟩ | ⟨_, x, e⟩ | ⟨_, x, e⟩ | ⟨_, _, _, _, e⟩
  · rw [e] at h; simp at h; omega
  · rw [e] at h
    obtain rfl : k = 1 := by simp at h; omega
    unfold Seq at x; omega
  · rw [e] at h
    have : k = 1 ∨ k = 2 := by simp at h; omega
    rcases this with rfl | rfl <;> unfold Seq at x <;> omega
  · rw [e] at h
    have : k = 1 ∨ k = 2 ∨ k = 3 := by simp at h; omega
    rcases this with rfl | rfl | rfl <;> unfold Seq at x <;> omega
  · rw [e] at h; simp at h; omega
/-- Where no wide spot begins ahead of a place and goes beyond it, the place is reached; where one does, its beginning is. -/
theorem reach_none {s : ByteArray} {p : Nat} (hp : p ≤ s.size) (h : ∀ f, p ≤ f + 3 → f < p → ¬ (1 < (Utf8.decode s f).2 ∧ p < f + (Utf8.decode s f).2)) : Reach s p 0 := by
  rcases reach_or hp _ 0 rfl (Nat.zero_le _) with h1 | ⟨f, _, h2, h3⟩
  · exact h1
  · have hw := dec_width s f
    exact absurd ⟨by omega, h3⟩ (h f (by omega) h2)
theorem reach_wide {s : ByteArray} {f : Nat} (hf : f ≤ s.size) (h : 1 < (Utf8.decode s f).2) : Reach s f 0 := by
  rcases reach_or hf _ 0 rfl (Nat.zero_le _) with h1 | ⟨g, _, h2, h3⟩
  · exact h1
  · have h4 := wide_tail (s := s) (g := g) (k := f - g) (by omega) (by omega)
    have h5 := (wide_lead h).1
    rw [show g + (f - g) = f by omega] at h4
    omega
end Go.Proofs.YtioehfhdoohdmaaGreatDoor

/- utf.Cut, walked. -/
namespace Go.Proofs.YtioehfhdoohdmaaGreatDoor
open Go.RowKit Go.Shelf
set_option linter.unusedVariables false
set_option linter.unusedSimpArgs false

/-- Where a text is cut: at the place that is meant, or, where that lies inside a spot, at its beginning. -/
def clampN (s : ByteArray) (n : Int) : Nat := (min (max n 0) (s.size : Int)).toNat
def wideOver (s : ByteArray) (p f : Nat) : Prop := 1 < (Utf8.decode s f).2 ∧ p < f + (Utf8.decode s f).2
def CutIs (s : ByteArray) (k p : Nat) : Prop := (p = k ∧ ∀ f, k ≤ f + 3 → f < k → ¬ wideOver s k f) ∨ (p < k ∧ wideOver s k p)
theorem CutIs.reach {s : ByteArray} {k p : Nat} (h : CutIs s k p) (hk : k ≤ s.size) : p ≤ s.size ∧ Reach s p 0 := by
  rcases h with ⟨rfl, h⟩ | ⟨h1, h2⟩
  · exact ⟨hk, reach_none hk h⟩
  · exact ⟨by omega, reach_wide (by omega) h2.1⟩
def CutPost (W : World) (s : ByteArray) (n : Int) (e : Ending) (w' : World) : Prop := ∃ p, CutIs s (clampN s n) p ∧ p ≤ s.size ∧ e = .returned (.tuple #[.string (s.extract 0 p), .string (s.extract p s.size)]) ∧ Below W.heap.size W w'
theorem tabs_later {W W' : World} (h : Lib.Utf8Tabs 0 1 W) (hB : Below W.heap.size W W') : Lib.Utf8Tabs 0 1 W' := Utf8Tabs_below h hB
theorem clamp_le (s : ByteArray) (n : Int) : clampN s n ≤ s.size := by unfold clampN; omega
set_option maxRecDepth 100000 in
set_option maxHeartbeats 4000000 in
theorem cut_any (s : ByteArray) (n : Int) (W : World) (hs : s.size ≤ 4194304) (hz : Lib.Utf8Tabs 0 1 W) : Calls Tryz.prog 32 #[.string s, .int .i64 n] W (CutPost W s n) := by
  obtain ⟨k, hk⟩ : ∃ k, clampN s n = k := ⟨_, rfl⟩
  have hle : k ≤ s.size := by rw [← hk]; exact clamp_le s n
  have hk1 : (k : Int) = min (max n 0) (s.size : Int) := by rw [← hk]; unfold clampN; omega
  unfold CutPost
  rw [hk]
  have HZ := Lib.hid hz
  have HK := Lib.hid hk1
  clear hz hk hk1
  go_enter Tryz.func32, Tryz.ntmps32
  go_upto_region 3 with fail
  rw [← HK.out]
  rw [show max ((k : Int) - 4 + 1) 0 = ((k - 3 : Nat) : Int) by omega]
  clear HK
  go_loopw [1, 6, 7, 8] (fun v1 v6 v7 v8 wr => ∃ p f : Nat, v1 = .int .i64 p ∧ v6 = .int .i64 f ∧ p ≤ s.size ∧ f ≤ s.size + 1 ∧ Hid ((p = k ∧ f ≤ k ∧ ∀ g, k ≤ g + 3 → g < f → ¬ wideOver s k g) ∨ (p < k ∧ wideOver s k p ∧ f = p + 1)) ∧ Below W.heap.size W wr) (fun v1 v6 v7 v8 _ => (intOf v1).toNat - (intOf v6).toNat)
  case atStart => exact ⟨k, k - 3, rfl, rfl, hle, by omega, Lib.hid (Or.inl ⟨rfl, by omega, fun g h1 h2 => by omega⟩), Below.refl _ _⟩
  case round =>
    obtain ⟨p, f, rfl, rfl, hp, hf, HR, hB⟩ := hrel
    by_cases hlt : f < p
    · have i1 : (f : Int) < (p : Int) := by omega
      have hR := HR.out
      obtain ⟨rfl, _, hno⟩ : p = k ∧ f ≤ k ∧ ∀ g, k ≤ g + 3 → g < f → ¬ wideOver s k g := by
        rcases hR with h | ⟨_, _, h⟩
        · exact h
        · omega
      have HNo := Lib.hid hno
      have hfs : f < s.size := by omega
      have hdg := decodeGo_tail hfs
      have hd := fun W h => Tryz.utf8_DecodeRuneInString (s.extract f s.size) W h
      rw [hdg] at hd
      have HD := Lib.hid hd
      have HBB := Lib.hid hB
      have HW : Hid (wideOver s p f ↔ (1 < (Utf8.decode s f).2 ∧ p < f + (Utf8.decode s f).2)) := Lib.hid Iff.rfl
      have hw4 := (dec_width s f).2
      have hrb := dec_rune s f
      generalize (Utf8.decode s f).1 = R at *
      generalize (Utf8.decode s f).2 = K at *
      have hR0 : (0 : Int) ≤ (R : Int) := Int.natCast_nonneg _
      clear hR HR hdg hd hno hB
      go_wp2_with fail
      refine Calls.mono (HD.out _ (tabs_later HZ.out HBB.out)) ?_
      rintro e w1 ⟨rfl, hB1⟩
      have HB1 := Lib.hid (HBB.out.trans (hB1.mono HBB.out.size))
      clear hB1 HD HBB
      by_cases c1 : 1 < K
      · have d1 : (1 : Int) < (K : Int) := by omega
        by_cases c2 : p < f + K
        · have d2 : (p : Int) < (f : Int) + (K : Int) := by omega
          go_wp2_with fail
          exact ⟨⟨f, f + 1, rfl, by go_num, by omega, by omega, Lib.hid (Or.inr ⟨hlt, HW.out.2 ⟨c1, c2⟩, rfl⟩), HB1.out⟩, by simp [intOf]; omega⟩
        · have d2 : decide ((p : Int) < (f : Int) + (K : Int)) = false := by rw [decide_eq_false_iff_not]; omega
          go_wp2_with fail
          exact ⟨⟨p, f + 1, rfl, by go_num, by omega, by omega, Lib.hid (Or.inl ⟨rfl, by omega, fun g h1 h2 hw => by
            by_cases hg : g = f
            · subst hg; exact c2 (HW.out.1 hw).2
            · exact HNo.out g h1 (by omega) hw⟩), HB1.out⟩, by simp [intOf]; omega⟩
      · have d1 : decide ((1 : Int) < (K : Int)) = false := by rw [decide_eq_false_iff_not]; omega
        go_wp2_with fail
        exact ⟨⟨p, f + 1, rfl, by go_num, by omega, by omega, Lib.hid (Or.inl ⟨rfl, by omega, fun g h1 h2 hw => by
          by_cases hg : g = f
          · subst hg; exact c1 (HW.out.1 hw).1
          · exact HNo.out g h1 (by omega) hw⟩), HB1.out⟩, by simp [intOf]; omega⟩
    · have i1 : decide ((f : Int) < (p : Int)) = false := by rw [decide_eq_false_iff_not]; omega
      have HC : Hid (CutIs s k p) := Lib.hid (by
        rcases HR.out with ⟨h1, h2, h3⟩ | ⟨h1, h2, _⟩
        · exact Or.inl ⟨h1, fun g h4 h5 => h3 g h4 (by omega)⟩
        · exact Or.inr ⟨h1, h2⟩)
      have HBB := Lib.hid hB
      clear HR hB
      have hp2 : (p : Int) ≤ (s.size : Int) := by omega
      go_wp2_with fail
      go_quiet (fail)
      go_wp2_with fail
      go_ret2
      exact ⟨p, HC.out, hp, rfl, Go.below_drewN HBB.out _⟩
end Go.Proofs.YtioehfhdoohdmaaGreatDoor

/- utf.Count and utf.First, walked. -/
namespace Go.Proofs.YtioehfhdoohdmaaGreatDoor
open Go.RowKit Go.Shelf
set_option linter.unusedVariables false
set_option linter.unusedSimpArgs false

set_option maxHeartbeats 2000000 in
set_option maxRecDepth 100000 in
theorem count_any (s : ByteArray) (w : World) (hs : s.size ≤ 1048576) : Calls Tryz.prog 30 #[.string s] w fun e w' => e = .returned (.int .i64 (places s).length) ∧ Below w.heap.size w w' := by
  obtain ⟨N, hN⟩ : ∃ N, (places s).length = N := ⟨_, rfl⟩
  rw [hN]
  have H0 : Hid (0 + (placesFrom s 0).length = N) := Lib.hid (by rw [Nat.zero_add]; exact hN)
  clear hN
  go_enter Tryz.func30, Tryz.ntmps30
  go_wp2_with fail
  have hi0 : Itr (w.iter s 0) w.heap.size s 0 := Itr.new w s 0
  have hk0 : Keep (fun _ => False) w (w.iter s 0) := (Keep.refl _ w).iter _ _
  generalize w.iter s 0 = W0 at *
  go_loopg [3] s.size (fun f v3 wr => ∃ i c : Nat, v3 = .int .i64 c ∧ i ≤ s.size ∧ s.size - i ≤ f ∧ c ≤ i ∧ Hid (c + (placesFrom s i).length = N) ∧ Itr wr w.heap.size s i ∧ Keep (fun _ => False) w wr)
  case atStart => exact ⟨0, 0, rfl, by omega, by omega, by omega, H0, hi0, hk0⟩
  case round =>
    clear H0 hi0 hk0
    obtain ⟨i, c, rfl, hi, hf, hc, HN, hi1, hk1⟩ := hrel
    by_cases hlt : i < s.size
    · have hw := dec_width s i
      have hle := dec_fits hlt
      have hn := fun ty => Lib.run_next_any_at (P := Tryz.prog) wr _ _ _ ty hi1 hlt
      have HN2 : Hid (c + 1 + (placesFrom s (i + (Utf8.decode s i).2)).length = N) := Lib.hid (by have := HN.out; rw [places_step hlt, List.length_cons] at this; omega)
      generalize hR : (Utf8.decode s i).1 = R at *
      generalize hK : (Utf8.decode s i).2 = K at *
      have HR := Lib.hid hR
      have HK := Lib.hid hK
      clear hR hK HN
      go_wp2_with fail
      all_goals go_roundg (s.size - (i + K))
      case measure => omega
      · exact ⟨i + K, c + 1, by go_num, by omega, by omega, by omega, HN2, hi1.at _, hk1.iterAt (by omega) _ _⟩
    · have hn := fun ty => Lib.run_next_end_at (P := Tryz.prog) wr _ _ _ ty hi1 (by omega)
      have HE : Hid (c = N) := Lib.hid (by have := HN.out; rw [places_end (by omega)] at this; exact this)
      clear HN
      go_wp2_with fail
      go_ret
      exact ⟨by rw [← HE.out]; rfl, hk1.below fun k hk => ⟨hk, fun h => h⟩⟩
theorem first_bad {s : ByteArray} (h : 0 < s.size) : (!goodAt s 0) = (decide (((Utf8.decode s 0).1 : Nat) = 65533) && decide ((Utf8.decode s 0).2 = 1)) := by
  cases hg : goodAt s 0 with
  | true =>
    have h1 := good_iff.1 hg
    by_cases h2 : (Utf8.decode s 0).2 = 1
    · have hb : B s 0 < 128 := by rcases h1 with h1 | h1 <;> omega
      have : (Utf8.decode s 0).1 = B s 0 := by rw [dec_ascii hb]
      rw [decide_eq_false (by omega : ¬ (Utf8.decode s 0).1 = 65533)]; rfl
    · rw [decide_eq_false h2, Bool.and_false]; rfl
  | false => rw [bad_dec hg]; rfl
set_option maxRecDepth 100000 in
set_option maxHeartbeats 2000000 in
theorem first_any (s : ByteArray) (w : World) (hs : 0 < s.size) (hz : Lib.Utf8Tabs 0 1 w) : Calls Tryz.prog 35 #[.string s] w fun e w' => e = .returned (.tuple #[.agg #[.int .i32 (Utf8.decode s 0).1, .int .i64 (Utf8.decode s 0).2, .bool (!goodAt s 0)], .bool true]) ∧ Below w.heap.size w w' := by
  have hb := first_bad hs
  have hl : s.toList.isEmpty = false := by
    cases e : s.toList with
    | nil => have := congrArg List.length e; rw [ByteArray.toList_eq, Array.length_toList] at this; have h2 : s.size = s.data.size := rfl; simp only [List.length_nil] at this; omega
    | cons x t => rfl
  have hl2 : ¬ s.toList = [] := fun e => by rw [e] at hl; cases hl
  have hdg : Lib.decodeGo s = Utf8.decode s 0 := by have := decodeGo_tail (s := s) (p := 0) hs; rwa [show s.extract 0 s.size = s by simp] at this
  have hd := fun W h => Tryz.utf8_DecodeRuneInString s W h
  rw [hdg] at hd
  have HD := Lib.hid hd
  have HSp := Lib.hid (fun W => spot_any (Utf8.decode s 0).1 (Utf8.decode s 0).2 (!goodAt s 0) hb W)
  have HZ := Lib.hid hz
  generalize (Utf8.decode s 0).1 = R at *
  generalize (Utf8.decode s 0).2 = K at *
  generalize (!goodAt s 0) = bad at *
  clear hb hd hz hdg
  go_enter Tryz.func35, Tryz.ntmps35
  go_wp2_with fail
  refine Calls.mono (HD.out _ (Utf8Tabs_below HZ.out ((Below.refl _ w).alloc (Nat.le_refl _) _))) ?_
  rintro e w1 ⟨rfl, hB1⟩
  have hB0 : Below w.heap.size w (w.alloc (.cells #[.int .i32 0, .int .i64 0, .bool false] 77)) := (Below.refl _ w).alloc (Nat.le_refl _) _
  have b0 := (Blk.new' w #[.int .i32 0, .int .i64 0, .bool false] 77).keep (Keep.of_below hB1 (fun _ => False)) (by simp)
  have HB1 := Lib.hid (hB0.trans (hB1.mono hB0.size))
  clear hB1 hB0 HD
  go_wp2_with fail
  refine Calls.mono (HSp.out _) ?_
  rintro e w2 ⟨rfl, rfl⟩
  have b1 := b0.alloc (.cells #[.int .i32 R, .int .i64 K, .bool bad] 77)
  have HB2 := Lib.hid (HB1.out.alloc HB1.out.size (.cells #[.int .i32 R, .int .i64 K, .bool bad] 77))
  generalize w1.alloc (.cells #[.int .i32 R, .int .i64 K, .bool bad] 77) = W2 at *
  have c0 := b1.cell 0
  have c1 := b1.cell 1
  have c2 := b1.cell 2
  have f0 := b1.frozen 0
  have f1 := b1.frozen 1
  have f2 := b1.frozen 2
  dsimp only [List.getElem?_cons_zero, List.getElem?_cons_succ] at c0 c1 c2
  have HB1b := Lib.hid b1
  clear b0 b1 HB1
  go_wp2_with fail
  have k3 := ((HB1b.out.set 0 (.int .i32 R)).set 1 (.int .i64 K)).set 2 (.bool bad)
  have r0 := k3.cell 0
  have r1 := k3.cell 1
  have r2 := k3.cell 2
  simp only [List.set_cons_zero, List.set_cons_succ, List.getElem?_cons_zero, List.getElem?_cons_succ] at r0 r1 r2
  refine bodyPost_ret (v := .tuple #[.agg #[.int .i32 R, .int .i64 K, .bool bad], .bool true]) (by simp [results, Tryz.results35, go_sem, r0, r1, r2]) rfl ⟨rfl, ((HB2.out.setCell (Nat.le_refl _) _).setCell (Nat.le_refl _) _).setCell (Nat.le_refl _) _⟩
end Go.Proofs.YtioehfhdoohdmaaGreatDoor

/- utf.Bound and utf.Joins, walked. -/
namespace Go.Proofs.YtioehfhdoohdmaaGreatDoor
open Go.RowKit Go.Shelf
set_option linter.unusedVariables false
set_option linter.unusedSimpArgs false

theorem B_append (x t : ByteArray) (i : Nat) : B (x ++ t) i = if i < x.size then B x i else B t (i - x.size) := by
  unfold B
  by_cases h : i < x.size
  · rw [if_pos h, dif_pos (by rw [ByteArray.size_append]; omega), dif_pos h]
    rw [ByteArray.getElem_append_left h]
  · rw [if_neg h]
    by_cases h2 : i < x.size + t.size
    · rw [dif_pos (by rw [ByteArray.size_append]; omega), dif_pos (by omega)]
      rw [ByteArray.getElem_append_right (by omega)]
    · rw [dif_neg (by rw [ByteArray.size_append]; omega), dif_neg (by omega)]
/-- Where the bytes about a seam are a bound's, the whole is cut there. -/
theorem seam_law (s t : ByteArray) (h : ∀ g, (s.extract (s.size - 3) s.size).size ≤ g + 3 → g < (s.extract (s.size - 3) s.size).size → ¬ wideOver (s.extract (s.size - 3) s.size ++ t.extract 0 (min t.size 3)) (s.extract (s.size - 3) s.size).size g) : Reach (s ++ t) s.size 0 := by
  have hz : (s.extract (s.size - 3) s.size).size = s.size - (s.size - 3) := by simp
  have hz2 : (t.extract 0 (min t.size 3)).size = min t.size 3 := by simp
  have hzz : (s ++ t).size = s.size + t.size := ByteArray.size_append
  refine reach_none (by omega) fun f h1 h2 hw => ?_
  have hw4 := (dec_width (s ++ t) f).2
  have hfit := dec_fits (s := s ++ t) (i := f) (by omega)
  have hg := (wide_lead hw.1).2
  have hs := good_same (s' := s.extract (s.size - 3) s.size ++ t.extract 0 (min t.size 3)) (i' := f - (s.size - 3)) hg (by rw [ByteArray.size_append, hz, hz2]; omega) (fun j hj => by
    rw [B_append, B_append, hz]
    by_cases hj2 : f - (s.size - 3) + j < s.size - (s.size - 3)
    · rw [if_pos hj2, if_pos (by omega), B_extract s _ _ _ (by omega) (Nat.le_refl _)]
      congr 1; omega
    · rw [if_neg hj2, if_neg (by omega), B_extract t _ _ _ (by omega) (by omega)]
      congr 1; omega)
  refine h (f - (s.size - 3)) (by omega) (by omega) ?_
  unfold wideOver
  rw [hs.1, hz]
  exact ⟨hw.1, by have := hw.2; omega⟩
set_option maxRecDepth 100000 in
set_option maxHeartbeats 2000000 in
theorem bound_at (s : ByteArray) (k : Nat) (W : World) (hs : s.size ≤ 4194304) (hk : k ≤ s.size) (hz : Lib.Utf8Tabs 0 1 W) : Calls Tryz.prog 62 #[.string s, .int .i64 k] W fun e w' => ∃ b : Bool, e = .returned (.bool b) ∧ (b = true → ∀ f, k ≤ f + 3 → f < k → ¬ wideOver s k f) ∧ Below W.heap.size W w' := by
  have hc := cut_any s k W hs hz
  have hcl : clampN s k = k := by unfold clampN; omega
  unfold CutPost at hc
  rw [hcl] at hc
  have HC := Lib.hid hc
  have i1 : ¬ ((k : Int) < 0) := by omega
  have i2 : decide ((k : Int) < 0) = false := by rw [decide_eq_false_iff_not]; omega
  have i3 : decide ((s.size : Int) < (k : Int)) = false := by rw [decide_eq_false_iff_not]; omega
  clear hc hz hcl
  go_enter Tryz.func62, Tryz.ntmps62
  go_wp2_with fail
  refine Calls.mono HC.out ?_
  rintro e w1 ⟨p, hp, hps, rfl, hB⟩
  have HP := Lib.hid hp
  have HB := Lib.hid hB
  have hsz : (s.extract 0 p).size = p := by simp; omega
  clear hp hB HC
  by_cases hpk : p = k
  · have d : ((p : Int) == (k : Int)) = true := by simp [hpk]
    go_wp2_with fail
    try go_ret
    refine ⟨_, rfl, fun _ => ?_, HB.out⟩
    rcases HP.out with h | h
    · exact h.2
    · exact absurd hpk (by omega)
  · have d : ((p : Int) == (k : Int)) = false := by rw [beq_eq_false_iff_ne]; omega
    go_wp2_with fail
    try go_ret
    exact ⟨false, rfl, fun h => (by cases h), HB.out⟩
set_option maxRecDepth 100000 in
set_option maxHeartbeats 2000000 in
theorem joins_any (s t : ByteArray) (W : World) (hs : s.size ≤ 1048576) (ht : t.size ≤ 1048576) (hz : Lib.Utf8Tabs 0 1 W) : Calls Tryz.prog 36 #[.string s, .string t] W fun e w' => ∃ b : Bool, e = .returned (.bool b) ∧ (b = true → Reach (s ++ t) s.size 0) ∧ Below W.heap.size W w' := by
  have hlaw := Lib.hid (seam_law s t)
  have e1 : max ((s.size : Int) - 4 + 1) 0 = ((s.size - 3 : Nat) : Int) := by omega
  have e2 : min (t.size : Int) 3 = ((min t.size 3 : Nat) : Int) := by omega
  have z1 : (s.extract (s.size - 3) s.size).size ≤ 3 := by simp; omega
  have z2 : (t.extract 0 (min t.size 3)).size ≤ 3 := by simp; omega
  have hb := bound_at (s.extract (s.size - 3) s.size ++ t.extract 0 (min t.size 3)) (s.extract (s.size - 3) s.size).size W (by rw [ByteArray.size_append]; omega) (by rw [ByteArray.size_append]; omega) hz
  have HB := Lib.hid hb
  have y1 : ((s.size - 3 : Nat) : Int) ≤ (s.size : Int) := by omega
  have y2 : ((min t.size 3 : Nat) : Int) ≤ (t.size : Int) := by omega
  generalize hM : s.size - 3 = M at *
  generalize hN : min t.size 3 = N at *
  have HM := Lib.hid (And.intro hM hN)
  clear hb hz hM hN
  go_enter Tryz.func36, Tryz.ntmps36
  go_wp2_with fail
  have HB2 := HB.out
  rw [show (s.extract M s.size).size = s.size - M by simp] at HB2
  have HB3 := Lib.hid HB2
  clear HB2 HB
  refine Calls.mono HB3.out ?_
  rintro e w1 ⟨b, rfl, hb, hB1⟩
  have HX := Lib.hid (And.intro hb hB1)
  clear hb hB1 HB3
  go_wp2_with fail
  go_ret
  refine ⟨b, rfl, fun h => hlaw.out ?_, HX.out.2⟩
  rw [show (s.extract M s.size).size = s.size - M by simp]
  exact HX.out.1 h
end Go.Proofs.YtioehfhdoohdmaaGreatDoor
