/- strconv.FormatInt at base 16, of a rune: walked. -/
import Derived.Test.YtpdaciljdcfikaaDoorScanBase
import Derived.Test.YtpdaciljdcfikaaDoorKeep
import Derived.Laws.IdiomStrings
import Derived.Laws.Bits64b
namespace Go.Proofs.YtpdaciljdcfikaaDoor
open Go.RowKit Go.Shelf
set_option linter.unusedVariables false
set_option linter.unusedSimpArgs false

/-- The table that TrailingZeros64 reads, at 16's place. -/
def TzAt (w : World) : Prop := w.cell? ⟨6, 15, none⟩ = some (.int .u8 4)
theorem TzAt.below {w w' : World} (h : TzAt w) (hb : Below w.heap.size w w') : TzAt w' := by
  have hlt := World.block_lt_of_cell? w _ h
  exact (hb.cell (p := ⟨6, 15, none⟩) hlt).trans h

theorem tz64_16 (w : World) (hT : TzAt w) : Calls Tryd.prog 110 #[.int .u64 16] w fun e w' => e = .returned (.int .i64 4) ∧ w = w' := by
  have key : IntKind.u64.wrap (bits BinOp.and IntKind.u64 (16 : Int) (IntKind.u64.wrap (-16 : Int)) * 285870213051353865) / 288230376151711744 = 15 := by decide +kernel
  unfold TzAt at hT
  go_enter Tryd.func110, Tryd.ntmps110
  go_wp2_with (simp only [key])
  go_ret
  exact ⟨rfl, rfl⟩
theorem tz_16 (w : World) (hT : TzAt w) : Calls Tryd.prog 103 #[.int .u64 16] w fun e w' => e = .returned (.int .i64 4) ∧ w = w' := by
  go_enter Tryd.func103, Tryd.ntmps103
  go_wp2_with fail
  refine (tz64_16 w hT).mono ?_
  rintro e w' ⟨rfl, rfl⟩
  go_wp2_with fail
  go_ret
  exact ⟨rfl, rfl⟩
theorem pow2_16 (w : World) : Calls Tryd.prog 102 #[.int .i64 16] w fun e w' => e = .returned (.bool true) ∧ w = w' := by
  have key : bits BinOp.and IntKind.i64 (16 : Int) (15 : Int) = 0 := by decide +kernel
  go_enter Tryd.func102, Tryd.ntmps102
  go_wp2_with (simp only [key])
  go_ret
  exact ⟨rfl, rfl⟩

/-- A digit's byte, small letters. -/
def dig (d : Nat) : UInt8 := (([48, 49, 50, 51, 52, 53, 54, 55, 56, 57, 97, 98, 99, 100, 101, 102] : List UInt8).getD d 0)
/-- The digits of u ahead of acc. -/
def hexGo : Nat → Nat → List UInt8 → List UInt8
  | 0, _, acc => acc
  | f + 1, u, acc => if u < 16 then dig u :: acc else hexGo f (u / 16) (dig (u % 16) :: acc)

abbrev digA : ByteArray := { data := #[48, 49, 50, 51, 52, 53, 54, 55, 56, 57, 97, 98, 99, 100, 101, 102, 103, 104, 105, 106, 107, 108, 109, 110, 111, 112, 113, 114, 115, 116, 117, 118, 119, 120, 121, 122] }
theorem digA_at (d : Nat) (h : d < 16) : ∀ h' : d < digA.size, digA[d]'h' = dig d := by
  have key : ∀ d : Fin 16, ∀ h' : d.1 < digA.size, digA[d.1]'h' = dig d.1 := by decide +kernel
  exact key ⟨d, h⟩
theorem hexGo_big {f u : Nat} {acc : List UInt8} (h : 16 ≤ u) : hexGo (f + 1) u acc = hexGo f (u / 16) (dig (u % 16) :: acc) := by
  rw [hexGo, if_neg (by omega)]
theorem hexGo_small {f u : Nat} {acc : List UInt8} (h : u < 16) : hexGo (f + 1) u acc = dig u :: acc := by
  rw [hexGo, if_pos h]

set_option maxRecDepth 100000 in
set_option maxHeartbeats 4000000 in
theorem formatBits_16 (u : Nat) (hu : u < 16777216) (w : World) (hT : TzAt w) :
    Calls Tryd.prog 86 #[.slice none 0 0, .int .u64 u, .int .i64 16, .bool false, .bool false] w fun e w' => e = .returned (.tuple #[.slice none 0 0, .string ⟨(hexGo 7 u []).toArray⟩]) ∧ Below w.heap.size w w' := by
  go_enter Tryd.func86, Tryd.ntmps86
  go_wp2_with fail
  have hb0 := Blk.new' w Tryd.zeroCells139 139
  have hB0 : Below w.heap.size w (w.alloc (.cells Tryd.zeroCells139 139)) := (Below.refl _ w).alloc (Nat.le_refl _) _
  have hT0 : TzAt (w.alloc (.cells Tryd.zeroCells139 139)) := hT.below hB0
  have hl0 : Tryd.zeroCells139.toList.length = 65 := by decide +kernel
  generalize w.alloc (.cells Tryd.zeroCells139 139) = W0 at *
  generalize Tryd.zeroCells139.toList = z0 at *
  refine (pow2_16 W0).mono ?_
  rintro e w' ⟨rfl, rfl⟩
  go_wp2_with fail
  refine (tz_16 W0 hT0).mono ?_
  rintro e w' ⟨rfl, rfl⟩
  go_wp2_with fail
  go_loopw [1, 13] (fun v1 v13 wr => ∃ (v i : Nat) (vs : List Value) (acc : List UInt8), v1 = .int .u64 v ∧ v13 = .int .i64 i ∧ v < 16777216 ∧ 60 ≤ i ∧ i ≤ 65 ∧ Hid (v < 16 ^ (i - 59)) ∧ Blk wr w.heap.size vs 139 ∧ vs.length = 65 ∧ Hid (∀ j (hj : j < acc.length), vs[i + j]? = some (.int .u8 (acc[j].toNat : Int))) ∧ Hid (i + acc.length = 65) ∧ Hid (hexGo (i - 58) v acc = hexGo 7 u []) ∧ Below w.heap.size w wr) (fun v1 _ _ => (intOf v1).toNat)
  case atStart => exact ⟨u, 65, z0, [], rfl, rfl, hu, by omega, by omega, Lib.hid (by simpa using hu), hb0, hl0, Lib.hid (by simp), Lib.hid rfl, Lib.hid rfl, hB0⟩
  case round =>
    obtain ⟨v, i, vs, acc, rfl, rfl, hv, hi1, hi2, Hv, hb, hl, Hc, Hn, Hx, hB⟩ := hrel
    have hand : bits BinOp.and IntKind.u64 (v : Int) 15 = ((v % 16 : Nat) : Int) := by
      have := bits_and_u64_nat v 15 (by omega) (by omega)
      rw [show ((15 : Nat) : Int) = 15 from rfl] at this
      rw [this, Nat.and_two_pow_sub_one_eq_mod v 4]
    have cI : wr.cell? ⟨w.heap.size, i - 1, none⟩ = some (vs[i - 1]'(by omega)) := (hb.cell (i - 1)).trans (List.getElem?_eq_getElem (by omega))
    have fI := hb.frozen (i - 1)
    by_cases h16 : 16 ≤ v
    · have h59 : 61 ≤ i := by
        have := Hv.out
        by_cases c : 61 ≤ i
        · exact c
        · rw [show i = 60 by omega] at this; omega
      go_wp2_with (simp only [hand])
      have hd := digA_at (v % 16) (by omega) (by change _ < 36; omega)
      have hb' := hb.set (i - 1) (Value.int IntKind.u8 ((dig (v % 16)).toNat : Int))
      refine ⟨⟨v / 16, i - 1, vs.set (i - 1) (Value.int IntKind.u8 ((dig (v % 16)).toNat : Int)), dig (v % 16) :: acc, by go_num, by congr 1; omega, by omega, by omega, by omega, Lib.hid ?_, ?_, by simp [hl], Lib.hid ?_, Lib.hid (by have := Hn.out; simp; omega), Lib.hid ?_, ?_⟩, ?_⟩
      · have := Hv.out
        rw [show i - 59 = (i - 1 - 59) + 1 by omega, Nat.pow_succ] at this
        omega
      · rw [← hd] at hb' ⊢
        exact hb'
      · intro j hj
        cases j with
        | zero => simp [List.getElem?_set, hl]; omega
        | succ j =>
          have := Hc.out j (by simpa using hj)
          rw [List.getElem?_set_ne (by omega), show i - 1 + (j + 1) = i + j by omega, this]
          rfl
      · rw [← Hx.out, show i - 58 = (i - 1 - 58) + 1 by omega, hexGo_big h16]
      · exact hB.setCell (p := ⟨w.heap.size, i - 1, none⟩) (by simp) _
      · simp only [intOf]; omega
    · have hsl : ∀ W, (Instr.sliceAt 139 (.pointer (some ⟨w.heap.size, 0, none⟩)) (some (.int .i64 ((i : Int) - 1))) none none).run Tryd.prog W = .ok (.slice (some ⟨w.heap.size, i - 1, none⟩) (acc.length + 1) (acc.length + 1)) W := fun W => by
        have hal : Tryd.prog.arrayLen 139 = 65 := by kernel_rfl
        have hn := Hn.out
        rw [run_sliceAt_array_l W 139 ⟨w.heap.size, 0, none⟩ (by simp [Program.arrayLen, Program.elem, Tryd.underlying139]) .i64 ((i : Int) - 1) (by omega) (by rw [hal]; omega), hal]
        go_simp
        omega
      have hd := digA_at v (by omega) (by change _ < 36; omega)
      have hcv : (convert 43 9 (.slice (some ⟨w.heap.size, i - 1, none⟩) (acc.length + 1) (acc.length + 1))).run Tryd.prog (wr.setCell ⟨w.heap.size, i - 1, none⟩ (.int .u8 ((dig v).toNat : Int))) = .ok (.string ⟨(hexGo 7 u []).toArray⟩) (wr.setCell ⟨w.heap.size, i - 1, none⟩ (.int .u8 ((dig v).toNat : Int))) := by
        rw [← Hx.out, show i - 58 = (i - 1 - 58) + 1 by omega, hexGo_small (by omega)]
        refine run_convert_bytes_back _ _ _ 5 ⟨w.heap.size, i - 1, none⟩ (acc.length + 1) (dig v :: acc) (by kernel_rfl) (by kernel_rfl) (by kernel_rfl) ?_
        intro j hj
        have hadd : (⟨w.heap.size, i - 1, none⟩ : Addr).add j = ⟨w.heap.size, i - 1 + j, none⟩ := by unfold Addr.add; split <;> simp_all
        rw [hadd, (hb.set (i - 1) (Value.int IntKind.u8 ((dig v).toNat : Int))).cell (i - 1 + j)]
        cases j with
        | zero => simp [List.getElem?_set, hl]; omega
        | succ j =>
          have := Hc.out j (by simpa using hj)
          rw [List.getElem?_set_ne (by omega), show i - 1 + (j + 1) = i + j by omega, this]
          rfl
      go_wp2_with (first | simp only [hand] | simp only [hsl] | simp only [hcv])
      go_ret2
      exact ⟨rfl, hB.setCell (p := ⟨w.heap.size, i - 1, none⟩) (by simp) _⟩

theorem formatInt1_16 (u : Nat) (hu : u < 16777216) (w : World) (hT : TzAt w) :
    Calls Tryd.prog 57 #[.int .i64 u, .int .i64 16] w fun e w' => e = .returned (.string ⟨(hexGo 7 u []).toArray⟩) ∧ Below w.heap.size w w' := by
  go_enter Tryd.func57, Tryd.ntmps57
  go_wp2_with fail
  refine (formatBits_16 u hu w hT).mono ?_
  rintro e w' ⟨rfl, hB⟩
  go_wp2_with fail
  go_ret
  exact ⟨rfl, hB⟩
theorem formatInt_16 (u : Nat) (hu : u < 16777216) (w : World) (hT : TzAt w) :
    Calls Tryd.prog 33 #[.int .i64 u, .int .i64 16] w fun e w' => e = .returned (.string ⟨(hexGo 7 u []).toArray⟩) ∧ Below w.heap.size w w' := by
  go_enter Tryd.func33, Tryd.ntmps33
  go_wp2_with fail
  refine (formatInt1_16 u hu w hT).mono ?_
  rintro e w' ⟨rfl, hB⟩
  go_wp2_with fail
  go_ret
  exact ⟨rfl, hB⟩
end Go.Proofs.YtpdaciljdcfikaaDoor
