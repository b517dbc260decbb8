/- The law ScanLimits walked (printed by gen_limit.py). -/
import Derived.Test.YtpdaciljdcfikaaDoorLimitLex
import Derived.Test.YtpdaciljdcfikaaDoorKnown
import Derived.Test.YtpdaciljdcfikaaDoorTold
import Derived.Laws.MakeOwn
import Derived.Laws.IdiomStrings
namespace Go.Proofs.YtpdaciljdcfikaaDoor.scanLimits
open Go.RowKit Go.Shelf
set_option linter.unusedVariables false
set_option linter.unusedSimpArgs false

theorem info_u8 : (Tryd.prog.info? 5).map (fun i => (i.zero, i.size, i.bytes)) = some (some (.int .u8 0), 1, 1) := by kernel_rfl
theorem make_u8 (N : Nat) (hN : N ≤ 300000) (W : World) : ∃ A : Array Value, A.size = N ∧ (Instr.makeSlice 43 (.int .i64 (N : Int)) (.int .i64 (N : Int))).run Tryd.prog W = .ok (.slice (some ⟨W.heap.size, 0, none⟩) N N) (W.alloc (.cells A 5)) := by
  obtain ⟨i0, hi, hz0, hz1, hz2⟩ := info_parts info_u8
  have h := run_makeSlice (P := Tryd.prog) W 43 5 i0 (.int .u8 0) Tryd.underlying43 hi hz0 .i64 .i64 (N : Int) (N : Int) (by omega) (by omega) (by rw [hz1]; simp; omega) (by rw [hz2]; omega) (by omega)
  simp only [Int.toNat_natCast] at h
  exact ⟨_, by rw [size_madeCells, hz1, Nat.mul_one], h⟩
theorem conv_fill (N c b : Nat) (hc : c < 256) (vs : List Value) (W : World) (hb : Blk W b vs 5) (hl : ∀ j, j < N → vs[j]? = some (.int .u8 c)) :
    (convert 43 9 (.slice (some ⟨b, 0, none⟩) N N)).run Tryd.prog W = .ok (.string (fillB N c)) W := by
  have h := run_convert_bytes_back (P := Tryd.prog) W 43 9 5 ⟨b, 0, none⟩ N (List.replicate N (UInt8.ofNat c)) (by kernel_rfl) (by kernel_rfl) (by kernel_rfl) (by
    intro j hj
    have hadd : (⟨b, 0, none⟩ : Addr).add j = ⟨b, j, none⟩ := by unfold Addr.add; split <;> simp_all
    have hjN : j < N := by simpa using hj
    rw [hadd, hb.cell j, hl j hjN]
    simp [UInt8.toNat_ofNat']; omega)
  rw [List.length_replicate] at h
  exact h

set_option maxRecDepth 100000 in
set_option maxHeartbeats 3000000 in
theorem walk_k0 (n m : Int) (d : Int) (N : Nat) (w : World) (hn1 : -9223372036854775808 ≤ n) (hn2 : n ≤ 9223372036854775807) (hm1 : -9223372036854775808 ≤ m) (hm2 : m ≤ 9223372036854775807) (hd : inN n (-1) 1 = d) (hd1 : -1 ≤ d ∧ d ≤ 1) (hN : 262144 + d = (N : Int)) (hk : inN m 0 3 = 0) (hT : Tabs w) (hZ : TzAt w) :
    Calls Tryd.prog 10 #[.int .i64 n, .int .i64 m] w fun e w' => e = .returned (.bool true) ∧ Below w.heap.size w w' := by
  have h1 := fun W => within_any n (-1) 1 W (by omega) (by omega) (by omega) hn1 hn2
  have h2 := fun W => within_any m 0 3 W (by omega) (by omega) (by omega) hm1 hm2
  rw [hd] at h1
  rw [hk] at h2
  have H1 := Lib.hid h1
  have H2 := Lib.hid h2
  have HT := Lib.hid hT
  have HZ := Lib.hid hZ
  have hNle : N ≤ 262145 ∧ 262143 ≤ N := by omega
  have hws := fun W h => words_any (fillB N 32) W (by rw [fillB_size]; omega) h
  unfold WPost at hws
  have HWS := Lib.hid hws
  clear h1 h2 hT hZ hd hk hws
  go_enter Tryd.func10, Tryd.ntmps10
  go_wp2_with fail
  refine Calls.mono (H1.out _) ?_
  rintro e w' ⟨rfl, rfl⟩
  go_wp2_with fail
  refine Calls.mono (H2.out _) ?_
  rintro e w' ⟨rfl, rfl⟩
  obtain ⟨A, hA, hmk⟩ := make_u8 N (by omega) (w.alloc (.cells #[.string { data := #[32] }, .string { data := #[59] }, .string { data := #[35] }, .string { data := #[10] }] 9))
  have hB0 : Below w.heap.size w (w.alloc (.cells #[.string { data := #[32] }, .string { data := #[59] }, .string { data := #[35] }, .string { data := #[10] }] 9)) := (Below.refl _ w).alloc (Nat.le_refl _) _
  have bA := Blk.new' (w.alloc (.cells #[.string { data := #[32] }, .string { data := #[59] }, .string { data := #[35] }, .string { data := #[10] }] 9)) A 5
  have hB1 := hB0.alloc hB0.size (.cells A 5)
  have hl : A.toList.length = N := by simpa using hA
  rw [World.size_alloc] at bA hmk
  clear hA
  generalize A.toList = vs0 at *
  go_wp2_with fail
  clear hmk
  go_loopw [8] (fun v8 wr => ∃ (i : Nat) (vs : List Value), v8 = .int .i64 i ∧ i ≤ N ∧ vs.length = N ∧ Hid (∀ j, j < i → vs[j]? = some (.int .u8 32)) ∧ Blk wr (w.heap.size + 1) vs 5 ∧ Below w.heap.size w wr) (fun v8 _ => N - (intOf v8).toNat)
  case atStart => exact ⟨0, vs0, rfl, by omega, hl, Lib.hid (fun j hj => absurd hj (by omega)), bA, hB1⟩
  case round =>
    clear bA hB1 hl
    obtain ⟨i, vs, rfl, hi, hlen, Hvs, bW, hB⟩ := hrel
    by_cases hlt : i < N
    · have q0 : wr.cell? ⟨w.heap.size + 1, i, none⟩ = some (vs[i]'(by omega)) := by rw [bW.cell i]; exact List.getElem?_eq_getElem (by omega)
      have q1 := bW.frozen i
      generalize vs[i]'(by omega) = v0 at *
      have i0 : (0 : Int) ≤ (i : Int) := Int.natCast_nonneg _
      have i1 : (i : Int) < (N : Int) := by omega
      go_wp2_with fail
      refine ⟨⟨i + 1, vs.set i (.int .u8 32), by go_num, by omega, by simpa using hlen, Lib.hid (fun j hj => ?_), bW.set i _, hB.setCell (p := ⟨w.heap.size + 1, i, none⟩) (by simp) _⟩, by simp [intOf]; omega⟩
      by_cases hji : j = i
      · subst hji; rw [List.getElem?_set_self (by omega)]
      · rw [List.getElem?_set_ne (Ne.symm hji)]; exact Hvs.out j (by omega)
    · obtain rfl : i = N := by omega
      have hcv := conv_fill i 32 (w.heap.size + 1) (by omega) vs wr bW Hvs.out
      have hz : (fillB i 32).size = i := fillB_size _ _
      by_cases hpos : 0 < d
      · have e0 := long_spec (s := fillB i 32) (by rw [hz]; omega)
        have HE := Lib.hid e0
        clear e0 hz
        generalize fillB i 32 = S at *
        go_wp2_with fail
        refine Calls.mono (HWS.out _ (Utf8Tabs_below HT.out hB)) ?_
        rintro e w2 ⟨v, rfl, _, _, hnil, hB2⟩
        obtain rfl := hnil HE.out.2.2
        rw [HE.out.1, HE.out.2.1]
        have c2 := hB.trans (hB2.mono hB.size)
        have c3 := c2.alloc c2.size (.cells #[.int .i64 0, .int .i64 1, .int .i64 1] 28)
        clear hcv
        go_wp2_with fail
        refine (known_any _ (Utf8Tabs_below HT.out c3) (HZ.out.below c3)).mono ?_
        rintro e w3 ⟨rfl, hB3⟩
        go_wp2_with fail
        go_ret
        exact ⟨rfl, c3.trans (hB3.mono c3.size)⟩
      · have hlx : lexN (fillB i 32) = ([], none) := lex_fill_blank (c := 32) (by omega) (fun j hj => fillB_at _ _ (by omega) j hj)
        have e0 := good_spec (s := fillB i 32) (by rw [hz]; omega) hlx
        have HE := Lib.hid e0
        clear e0 hz hlx
        generalize fillB i 32 = S at *
        go_wp2_with fail
        refine Calls.mono (HWS.out _ (Utf8Tabs_below HT.out hB)) ?_
        rintro e w2 ⟨v, rfl, _, _, hnil, hB2⟩
        obtain rfl := hnil HE.out.2.2
        rw [HE.out.1, HE.out.2.1]
        have c2 := hB.trans (hB2.mono hB.size)
        have c3 := c2.alloc c2.size (.cells #[.int .i64 0, .int .i64 0, .int .i64 0] 28)
        clear hcv
        go_wp2_with fail
        refine (known_any _ (Utf8Tabs_below HT.out c3) (HZ.out.below c3)).mono ?_
        rintro e w3 ⟨rfl, hB3⟩
        go_wp2_with fail
        go_ret
        exact ⟨rfl, c3.trans (hB3.mono c3.size)⟩

set_option maxRecDepth 100000 in
set_option maxHeartbeats 3000000 in
theorem walk_k3 (n m : Int) (d : Int) (N : Nat) (w : World) (hn1 : -9223372036854775808 ≤ n) (hn2 : n ≤ 9223372036854775807) (hm1 : -9223372036854775808 ≤ m) (hm2 : m ≤ 9223372036854775807) (hd : inN n (-1) 1 = d) (hd1 : -1 ≤ d ∧ d ≤ 1) (hN : 262144 + d = (N : Int)) (hk : inN m 0 3 = 3) (hT : Tabs w) (hZ : TzAt w) :
    Calls Tryd.prog 10 #[.int .i64 n, .int .i64 m] w fun e w' => e = .returned (.bool true) ∧ Below w.heap.size w w' := by
  have h1 := fun W => within_any n (-1) 1 W (by omega) (by omega) (by omega) hn1 hn2
  have h2 := fun W => within_any m 0 3 W (by omega) (by omega) (by omega) hm1 hm2
  rw [hd] at h1
  rw [hk] at h2
  have H1 := Lib.hid h1
  have H2 := Lib.hid h2
  have HT := Lib.hid hT
  have HZ := Lib.hid hZ
  have hNle : N ≤ 262145 ∧ 262143 ≤ N := by omega
  have hws := fun W h => words_any (fillB N 10) W (by rw [fillB_size]; omega) h
  unfold WPost at hws
  have HWS := Lib.hid hws
  clear h1 h2 hT hZ hd hk hws
  go_enter Tryd.func10, Tryd.ntmps10
  go_wp2_with fail
  refine Calls.mono (H1.out _) ?_
  rintro e w' ⟨rfl, rfl⟩
  go_wp2_with fail
  refine Calls.mono (H2.out _) ?_
  rintro e w' ⟨rfl, rfl⟩
  obtain ⟨A, hA, hmk⟩ := make_u8 N (by omega) (w.alloc (.cells #[.string { data := #[32] }, .string { data := #[59] }, .string { data := #[35] }, .string { data := #[10] }] 9))
  have hB0 : Below w.heap.size w (w.alloc (.cells #[.string { data := #[32] }, .string { data := #[59] }, .string { data := #[35] }, .string { data := #[10] }] 9)) := (Below.refl _ w).alloc (Nat.le_refl _) _
  have bA := Blk.new' (w.alloc (.cells #[.string { data := #[32] }, .string { data := #[59] }, .string { data := #[35] }, .string { data := #[10] }] 9)) A 5
  have hB1 := hB0.alloc hB0.size (.cells A 5)
  have hl : A.toList.length = N := by simpa using hA
  rw [World.size_alloc] at bA hmk
  clear hA
  generalize A.toList = vs0 at *
  go_wp2_with fail
  clear hmk
  go_loopw [8] (fun v8 wr => ∃ (i : Nat) (vs : List Value), v8 = .int .i64 i ∧ i ≤ N ∧ vs.length = N ∧ Hid (∀ j, j < i → vs[j]? = some (.int .u8 10)) ∧ Blk wr (w.heap.size + 1) vs 5 ∧ Below w.heap.size w wr) (fun v8 _ => N - (intOf v8).toNat)
  case atStart => exact ⟨0, vs0, rfl, by omega, hl, Lib.hid (fun j hj => absurd hj (by omega)), bA, hB1⟩
  case round =>
    clear bA hB1 hl
    obtain ⟨i, vs, rfl, hi, hlen, Hvs, bW, hB⟩ := hrel
    by_cases hlt : i < N
    · have q0 : wr.cell? ⟨w.heap.size + 1, i, none⟩ = some (vs[i]'(by omega)) := by rw [bW.cell i]; exact List.getElem?_eq_getElem (by omega)
      have q1 := bW.frozen i
      generalize vs[i]'(by omega) = v0 at *
      have i0 : (0 : Int) ≤ (i : Int) := Int.natCast_nonneg _
      have i1 : (i : Int) < (N : Int) := by omega
      go_wp2_with fail
      refine ⟨⟨i + 1, vs.set i (.int .u8 10), by go_num, by omega, by simpa using hlen, Lib.hid (fun j hj => ?_), bW.set i _, hB.setCell (p := ⟨w.heap.size + 1, i, none⟩) (by simp) _⟩, by simp [intOf]; omega⟩
      by_cases hji : j = i
      · subst hji; rw [List.getElem?_set_self (by omega)]
      · rw [List.getElem?_set_ne (Ne.symm hji)]; exact Hvs.out j (by omega)
    · obtain rfl : i = N := by omega
      have hcv := conv_fill i 10 (w.heap.size + 1) (by omega) vs wr bW Hvs.out
      have hz : (fillB i 10).size = i := fillB_size _ _
      by_cases hpos : 0 < d
      · have e0 := long_spec (s := fillB i 10) (by rw [hz]; omega)
        have HE := Lib.hid e0
        clear e0 hz
        generalize fillB i 10 = S at *
        go_wp2_with fail
        refine Calls.mono (HWS.out _ (Utf8Tabs_below HT.out hB)) ?_
        rintro e w2 ⟨v, rfl, _, _, hnil, hB2⟩
        obtain rfl := hnil HE.out.2.2
        rw [HE.out.1, HE.out.2.1]
        have c2 := hB.trans (hB2.mono hB.size)
        have c3 := c2.alloc c2.size (.cells #[.int .i64 0, .int .i64 1, .int .i64 1] 28)
        clear hcv
        go_wp2_with fail
        refine (known_any _ (Utf8Tabs_below HT.out c3) (HZ.out.below c3)).mono ?_
        rintro e w3 ⟨rfl, hB3⟩
        go_wp2_with fail
        go_ret
        exact ⟨rfl, c3.trans (hB3.mono c3.size)⟩
      · have hlx : lexN (fillB i 10) = ([], none) := lex_fill_blank (c := 10) (by omega) (fun j hj => fillB_at _ _ (by omega) j hj)
        have e0 := good_spec (s := fillB i 10) (by rw [hz]; omega) hlx
        have HE := Lib.hid e0
        clear e0 hz hlx
        generalize fillB i 10 = S at *
        go_wp2_with fail
        refine Calls.mono (HWS.out _ (Utf8Tabs_below HT.out hB)) ?_
        rintro e w2 ⟨v, rfl, _, _, hnil, hB2⟩
        obtain rfl := hnil HE.out.2.2
        rw [HE.out.1, HE.out.2.1]
        have c2 := hB.trans (hB2.mono hB.size)
        have c3 := c2.alloc c2.size (.cells #[.int .i64 0, .int .i64 0, .int .i64 0] 28)
        clear hcv
        go_wp2_with fail
        refine (known_any _ (Utf8Tabs_below HT.out c3) (HZ.out.below c3)).mono ?_
        rintro e w3 ⟨rfl, hB3⟩
        go_wp2_with fail
        go_ret
        exact ⟨rfl, c3.trans (hB3.mono c3.size)⟩

set_option maxRecDepth 100000 in
set_option maxHeartbeats 3000000 in
theorem walk_k2 (n m : Int) (d : Int) (N : Nat) (w : World) (hn1 : -9223372036854775808 ≤ n) (hn2 : n ≤ 9223372036854775807) (hm1 : -9223372036854775808 ≤ m) (hm2 : m ≤ 9223372036854775807) (hd : inN n (-1) 1 = d) (hd1 : -1 ≤ d ∧ d ≤ 1) (hN : 262144 + d = (N : Int)) (hk : inN m 0 3 = 2) (hT : Tabs w) (hZ : TzAt w) :
    Calls Tryd.prog 10 #[.int .i64 n, .int .i64 m] w fun e w' => e = .returned (.bool true) ∧ Below w.heap.size w w' := by
  have h1 := fun W => within_any n (-1) 1 W (by omega) (by omega) (by omega) hn1 hn2
  have h2 := fun W => within_any m 0 3 W (by omega) (by omega) (by omega) hm1 hm2
  rw [hd] at h1
  rw [hk] at h2
  have H1 := Lib.hid h1
  have H2 := Lib.hid h2
  have HT := Lib.hid hT
  have HZ := Lib.hid hZ
  have hNle : N ≤ 262145 ∧ 262143 ≤ N := by omega
  have hws := fun W h => words_any (fillB N 35) W (by rw [fillB_size]; omega) h
  unfold WPost at hws
  have HWS := Lib.hid hws
  clear h1 h2 hT hZ hd hk hws
  go_enter Tryd.func10, Tryd.ntmps10
  go_wp2_with fail
  refine Calls.mono (H1.out _) ?_
  rintro e w' ⟨rfl, rfl⟩
  go_wp2_with fail
  refine Calls.mono (H2.out _) ?_
  rintro e w' ⟨rfl, rfl⟩
  obtain ⟨A, hA, hmk⟩ := make_u8 N (by omega) (w.alloc (.cells #[.string { data := #[32] }, .string { data := #[59] }, .string { data := #[35] }, .string { data := #[10] }] 9))
  have hB0 : Below w.heap.size w (w.alloc (.cells #[.string { data := #[32] }, .string { data := #[59] }, .string { data := #[35] }, .string { data := #[10] }] 9)) := (Below.refl _ w).alloc (Nat.le_refl _) _
  have bA := Blk.new' (w.alloc (.cells #[.string { data := #[32] }, .string { data := #[59] }, .string { data := #[35] }, .string { data := #[10] }] 9)) A 5
  have hB1 := hB0.alloc hB0.size (.cells A 5)
  have hl : A.toList.length = N := by simpa using hA
  rw [World.size_alloc] at bA hmk
  clear hA
  generalize A.toList = vs0 at *
  go_wp2_with fail
  clear hmk
  go_loopw [8] (fun v8 wr => ∃ (i : Nat) (vs : List Value), v8 = .int .i64 i ∧ i ≤ N ∧ vs.length = N ∧ Hid (∀ j, j < i → vs[j]? = some (.int .u8 35)) ∧ Blk wr (w.heap.size + 1) vs 5 ∧ Below w.heap.size w wr) (fun v8 _ => N - (intOf v8).toNat)
  case atStart => exact ⟨0, vs0, rfl, by omega, hl, Lib.hid (fun j hj => absurd hj (by omega)), bA, hB1⟩
  case round =>
    clear bA hB1 hl
    obtain ⟨i, vs, rfl, hi, hlen, Hvs, bW, hB⟩ := hrel
    by_cases hlt : i < N
    · have q0 : wr.cell? ⟨w.heap.size + 1, i, none⟩ = some (vs[i]'(by omega)) := by rw [bW.cell i]; exact List.getElem?_eq_getElem (by omega)
      have q1 := bW.frozen i
      generalize vs[i]'(by omega) = v0 at *
      have i0 : (0 : Int) ≤ (i : Int) := Int.natCast_nonneg _
      have i1 : (i : Int) < (N : Int) := by omega
      go_wp2_with fail
      refine ⟨⟨i + 1, vs.set i (.int .u8 35), by go_num, by omega, by simpa using hlen, Lib.hid (fun j hj => ?_), bW.set i _, hB.setCell (p := ⟨w.heap.size + 1, i, none⟩) (by simp) _⟩, by simp [intOf]; omega⟩
      by_cases hji : j = i
      · subst hji; rw [List.getElem?_set_self (by omega)]
      · rw [List.getElem?_set_ne (Ne.symm hji)]; exact Hvs.out j (by omega)
    · obtain rfl : i = N := by omega
      have hcv := conv_fill i 35 (w.heap.size + 1) (by omega) vs wr bW Hvs.out
      have hz : (fillB i 35).size = i := fillB_size _ _
      by_cases hpos : 0 < d
      · have e0 := long_spec (s := fillB i 35) (by rw [hz]; omega)
        have HE := Lib.hid e0
        clear e0 hz
        generalize fillB i 35 = S at *
        go_wp2_with fail
        refine Calls.mono (HWS.out _ (Utf8Tabs_below HT.out hB)) ?_
        rintro e w2 ⟨v, rfl, _, _, hnil, hB2⟩
        obtain rfl := hnil HE.out.2.2
        rw [HE.out.1, HE.out.2.1]
        have c2 := hB.trans (hB2.mono hB.size)
        have c3 := c2.alloc c2.size (.cells #[.int .i64 0, .int .i64 1, .int .i64 1] 28)
        clear hcv
        go_wp2_with fail
        refine (known_any _ (Utf8Tabs_below HT.out c3) (HZ.out.below c3)).mono ?_
        rintro e w3 ⟨rfl, hB3⟩
        go_wp2_with fail
        go_ret
        exact ⟨rfl, c3.trans (hB3.mono c3.size)⟩
      · have hlx : lexN (fillB i 35) = ([], none) := lex_fill_remark (by rw [hz]; omega) (fun j hj => fillB_at _ _ (by omega) j hj)
        have e0 := good_spec (s := fillB i 35) (by rw [hz]; omega) hlx
        have HE := Lib.hid e0
        clear e0 hz hlx
        generalize fillB i 35 = S at *
        go_wp2_with fail
        refine Calls.mono (HWS.out _ (Utf8Tabs_below HT.out hB)) ?_
        rintro e w2 ⟨v, rfl, _, _, hnil, hB2⟩
        obtain rfl := hnil HE.out.2.2
        rw [HE.out.1, HE.out.2.1]
        have c2 := hB.trans (hB2.mono hB.size)
        have c3 := c2.alloc c2.size (.cells #[.int .i64 0, .int .i64 0, .int .i64 0] 28)
        clear hcv
        go_wp2_with fail
        refine (known_any _ (Utf8Tabs_below HT.out c3) (HZ.out.below c3)).mono ?_
        rintro e w3 ⟨rfl, hB3⟩
        go_wp2_with fail
        go_ret
        exact ⟨rfl, c3.trans (hB3.mono c3.size)⟩

set_option maxRecDepth 100000 in
set_option maxHeartbeats 3000000 in
theorem walk_k1 (n m : Int) (d : Int) (N : Nat) (w : World) (hn1 : -9223372036854775808 ≤ n) (hn2 : n ≤ 9223372036854775807) (hm1 : -9223372036854775808 ≤ m) (hm2 : m ≤ 9223372036854775807) (hd : inN n (-1) 1 = d) (hd1 : -1 ≤ d ∧ d ≤ 1) (hN : 262144 + d = (N : Int)) (hk : inN m 0 3 = 1) (hT : Tabs w) (hZ : TzAt w) :
    Calls Tryd.prog 10 #[.int .i64 n, .int .i64 m] w fun e w' => e = .returned (.bool true) ∧ Below w.heap.size w w' := by
  have h1 := fun W => within_any n (-1) 1 W (by omega) (by omega) (by omega) hn1 hn2
  have h2 := fun W => within_any m 0 3 W (by omega) (by omega) (by omega) hm1 hm2
  rw [hd] at h1
  rw [hk] at h2
  have H1 := Lib.hid h1
  have H2 := Lib.hid h2
  have HT := Lib.hid hT
  have HZ := Lib.hid hZ
  have hNle : N ≤ 262145 ∧ 262143 ≤ N := by omega
  have hws := fun W h => words_any (fillB N 59) W (by rw [fillB_size]; omega) h
  unfold WPost at hws
  have HWS := Lib.hid hws
  clear h1 h2 hT hZ hd hk hws
  go_enter Tryd.func10, Tryd.ntmps10
  go_wp2_with fail
  refine Calls.mono (H1.out _) ?_
  rintro e w' ⟨rfl, rfl⟩
  go_wp2_with fail
  refine Calls.mono (H2.out _) ?_
  rintro e w' ⟨rfl, rfl⟩
  obtain ⟨A, hA, hmk⟩ := make_u8 N (by omega) (w.alloc (.cells #[.string { data := #[32] }, .string { data := #[59] }, .string { data := #[35] }, .string { data := #[10] }] 9))
  have hB0 : Below w.heap.size w (w.alloc (.cells #[.string { data := #[32] }, .string { data := #[59] }, .string { data := #[35] }, .string { data := #[10] }] 9)) := (Below.refl _ w).alloc (Nat.le_refl _) _
  have bA := Blk.new' (w.alloc (.cells #[.string { data := #[32] }, .string { data := #[59] }, .string { data := #[35] }, .string { data := #[10] }] 9)) A 5
  have hB1 := hB0.alloc hB0.size (.cells A 5)
  have hl : A.toList.length = N := by simpa using hA
  rw [World.size_alloc] at bA hmk
  clear hA
  generalize A.toList = vs0 at *
  go_wp2_with fail
  clear hmk
  go_loopw [8] (fun v8 wr => ∃ (i : Nat) (vs : List Value), v8 = .int .i64 i ∧ i ≤ N ∧ vs.length = N ∧ Hid (∀ j, j < i → vs[j]? = some (.int .u8 59)) ∧ Blk wr (w.heap.size + 1) vs 5 ∧ Below w.heap.size w wr) (fun v8 _ => N - (intOf v8).toNat)
  case atStart => exact ⟨0, vs0, rfl, by omega, hl, Lib.hid (fun j hj => absurd hj (by omega)), bA, hB1⟩
  case round =>
    clear bA hB1 hl
    obtain ⟨i, vs, rfl, hi, hlen, Hvs, bW, hB⟩ := hrel
    by_cases hlt : i < N
    · have q0 : wr.cell? ⟨w.heap.size + 1, i, none⟩ = some (vs[i]'(by omega)) := by rw [bW.cell i]; exact List.getElem?_eq_getElem (by omega)
      have q1 := bW.frozen i
      generalize vs[i]'(by omega) = v0 at *
      have i0 : (0 : Int) ≤ (i : Int) := Int.natCast_nonneg _
      have i1 : (i : Int) < (N : Int) := by omega
      go_wp2_with fail
      refine ⟨⟨i + 1, vs.set i (.int .u8 59), by go_num, by omega, by simpa using hlen, Lib.hid (fun j hj => ?_), bW.set i _, hB.setCell (p := ⟨w.heap.size + 1, i, none⟩) (by simp) _⟩, by simp [intOf]; omega⟩
      by_cases hji : j = i
      · subst hji; rw [List.getElem?_set_self (by omega)]
      · rw [List.getElem?_set_ne (Ne.symm hji)]; exact Hvs.out j (by omega)
    · obtain rfl : i = N := by omega
      have hcv := conv_fill i 59 (w.heap.size + 1) (by omega) vs wr bW Hvs.out
      have hz : (fillB i 59).size = i := fillB_size _ _
      by_cases hpos : 0 < d
      · have e0 := long_spec (s := fillB i 59) (by rw [hz]; omega)
        have HE := Lib.hid e0
        clear e0 hz
        generalize fillB i 59 = S at *
        go_wp2_with fail
        refine Calls.mono (HWS.out _ (Utf8Tabs_below HT.out hB)) ?_
        rintro e w2 ⟨v, rfl, _, _, hnil, hB2⟩
        obtain rfl := hnil HE.out.2.2
        rw [HE.out.1, HE.out.2.1]
        have c2 := hB.trans (hB2.mono hB.size)
        have c3 := c2.alloc c2.size (.cells #[.int .i64 0, .int .i64 1, .int .i64 1] 28)
        clear hcv
        go_wp2_with fail
        refine (known_any _ (Utf8Tabs_below HT.out c3) (HZ.out.below c3)).mono ?_
        rintro e w3 ⟨rfl, hB3⟩
        go_wp2_with fail
        go_ret
        exact ⟨rfl, c3.trans (hB3.mono c3.size)⟩
      · have hlx : lexN (fillB i 59) = (semis i 0, none) := by
          have h := lex_fill_semi (s := fillB i 59) (fun j hj => fillB_at _ _ (by omega) j hj)
          rw [hz] at h; exact h
        have e0 := good_spec (s := fillB i 59) (by rw [hz]; omega) hlx
        have hlc : lcN (fillB i 59) (i - 1) 0 1 1 = (1, 1 + (i - 1 - 0)) := lc_fill (fun j hj => fillB_at _ _ (by omega) j hj) _ 0 (i - 1) 1 1 rfl (by omega) (by rw [hz]; omega)
        have HE := Lib.hid e0
        have HLC := Lib.hid hlc
        have HZS := Lib.hid hz
        clear e0 hz hlx hlc
        generalize fillB i 59 = S at *
        go_wp2_with fail
        refine Calls.mono (HWS.out _ (Utf8Tabs_below HT.out hB)) ?_
        rintro e w2 ⟨v, rfl, hown, _, _, hB2⟩
        rw [HE.out.2.2] at hown
        obtain ⟨g, cap, rfl, hg, hcap, hcell⟩ := owns_at hown (fun x => rfl) (fun e => by have h := semis_len i 0; rw [e] at h; simp at h; omega)
        rw [HE.out.1, HE.out.2.1]
        have hsl := semis_len i 0
        have hc : ∀ k, k < 8 → w2.cell? ⟨g, (i - 1) * 8 + k, none⟩ = (wcells S ⟨6, 0 + (i - 1), 0 + (i - 1) + 1, ByteArray.empty, 0, 0⟩)[k]? := fun k hk => by
          rw [hcell (i - 1) k (by omega) hk, semis_at]
        rw [hsl] at hcap ⊢
        obtain ⟨M, rfl⟩ : ∃ M, i = M + 1 := ⟨i - 1, by omega⟩
        have r4 : w2.cell? ⟨g, M * 8 + 4, none⟩ = some (.int .i64 M) := (hc 4 (by omega)).trans (by simp [wcells])
        have r5 : w2.cell? ⟨g, M * 8 + 5, none⟩ = some (.int .i64 1) := (hc 5 (by omega)).trans (by
          have h := HLC.out
          simp only [Nat.add_sub_cancel] at h
          simp only [wcells, Nat.add_sub_cancel, Nat.zero_add, h]; rfl)
        have r6 : w2.cell? ⟨g, M * 8 + 6, none⟩ = some (.int .i64 ((M : Int) + 1)) := (hc 6 (by omega)).trans (by
          have h := HLC.out
          simp only [Nat.add_sub_cancel] at h
          simp only [wcells, Nat.add_sub_cancel, Nat.zero_add, h]
          show some (Value.int IntKind.i64 ((1 + (M - 0) : Nat) : Int)) = _
          congr 2; omega)
        have c2 := hB.trans (hB2.mono hB.size)
        have c3 := c2.alloc c2.size (.cells #[.int .i64 0, .int .i64 0, .int .i64 0] 28)
        have bg : Below w2.heap.size w2 (w2.alloc (.cells #[.int .i64 0, .int .i64 0, .int .i64 0] 28)) := (Below.refl _ w2).alloc (Nat.le_refl _) _
        have t4 := (bg.cell (p := ⟨g, M * 8 + 4, none⟩) hg).trans r4
        have t5 := (bg.cell (p := ⟨g, M * 8 + 5, none⟩) hg).trans r5
        have t6 := (bg.cell (p := ⟨g, M * 8 + 6, none⟩) hg).trans r6
        clear hcv hcell hc hown Hvs hlen hsl r4 r5 r6 bg
        go_wp2_with fail
        refine (known_any _ (Utf8Tabs_below HT.out c3) (HZ.out.below c3)).mono ?_
        rintro e w3 ⟨rfl, hB3⟩
        go_wp2_with fail
        go_ret
        exact ⟨rfl, c3.trans (hB3.mono c3.size)⟩

theorem walk (n m : Int) (w : World) (hn1 : -9223372036854775808 ≤ n) (hn2 : n ≤ 9223372036854775807) (hm1 : -9223372036854775808 ≤ m) (hm2 : m ≤ 9223372036854775807) (hT : Tabs w) (hZ : TzAt w) :
    Calls Tryd.prog 10 #[.int .i64 n, .int .i64 m] w fun e w' => e = .returned (.bool true) ∧ Below w.heap.size w w' := by
  have hd := inN_le n (lo := -1) (hi := 1) (by omega)
  have hk := inN_le m (lo := 0) (hi := 3) (by omega)
  obtain ⟨N, hN⟩ : ∃ N : Nat, 262144 + inN n (-1) 1 = (N : Int) := ⟨(262144 + inN n (-1) 1).toNat, by omega⟩
  have hc : inN m 0 3 = 0 ∨ inN m 0 3 = 1 ∨ inN m 0 3 = 2 ∨ inN m 0 3 = 3 := by omega
  rcases hc with h | h | h | h
  · exact walk_k0 n m _ N w hn1 hn2 hm1 hm2 rfl hd hN h hT hZ
  · exact walk_k1 n m _ N w hn1 hn2 hm1 hm2 rfl hd hN h hT hZ
  · exact walk_k2 n m _ N w hn1 hn2 hm1 hm2 rfl hd hN h hT hZ
  · exact walk_k3 n m _ N w hn1 hn2 hm1 hm2 rfl hd hN h hT hZ
end Go.Proofs.YtpdaciljdcfikaaDoor.scanLimits
