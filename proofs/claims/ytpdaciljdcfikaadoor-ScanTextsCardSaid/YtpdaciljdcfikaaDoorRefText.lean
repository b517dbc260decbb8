/- guiseref4.Text walked. -/
import Derived.Test.YtpdaciljdcfikaaDoorRefSmall
import Derived.Test.YtpdaciljdcfikaaDoorKeep
import Derived.Laws.IdiomStrings
namespace Go.Proofs.YtpdaciljdcfikaaDoor
open Go.RowKit Go.Shelf
set_option linter.unusedVariables false
set_option linter.unusedSimpArgs false

abbrev hexD : ByteArray := { data := #[48, 49, 50, 51, 52, 53, 54, 55, 56, 57, 65, 66, 67, 68, 69, 70] }
theorem hexD_at (d : Nat) (h : d < 16) : hexD.extract d (d + 1) = ⟨#[digU d]⟩ := by
  have key : ∀ d : Fin 16, (hexD.extract d.1 (d.1 + 1)).data.toList = [digU d.1] := by decide +kernel
  have h1 := key ⟨d, h⟩
  have h2 : (hexD.extract d (d + 1)).data = #[digU d] := by
    apply Array.ext'
    simpa using h1
  cases e : hexD.extract d (d + 1) with
  | mk b => rw [e] at h2; simp only at h2; rw [h2]
theorem dig_cons (x : UInt8) (acc : List UInt8) : (⟨#[x]⟩ : ByteArray) ++ ⟨acc.toArray⟩ = ⟨(x :: acc).toArray⟩ := by
  apply ByteArray.ext
  simp
theorem head_85 (l : List UInt8) : ({ data := #[85, 43] } : ByteArray) ++ ⟨l.toArray⟩ = ⟨([85, 43] ++ l).toArray⟩ := by
  apply ByteArray.ext
  simp
theorem text_step {n m : Nat} {A : ByteArray} {acc : List UInt8} (hgo : 0 < m ∨ A.size < 4) (h : A = ⟨acc.toArray⟩ ∧ acc.length ≤ 6 ∧ m < 16 ^ (6 - acc.length) ∧ refGo (12 - acc.length) m acc = refGo 12 n []) :
    A.size ≤ 5 ∧ (hexD.extract (m % 16) (m % 16 + 1) ++ A = ⟨(digU (m % 16) :: acc).toArray⟩ ∧ (digU (m % 16) :: acc).length ≤ 6 ∧ m / 16 < 16 ^ (6 - (digU (m % 16) :: acc).length) ∧ refGo (12 - (digU (m % 16) :: acc).length) (m / 16) (digU (m % 16) :: acc) = refGo 12 n []) := by
  obtain ⟨h1, h2, h3, h4⟩ := h
  have hsz : A.size = acc.length := by rw [h1]; simp [ByteArray.size]
  have h5 : acc.length ≤ 5 := by
    by_cases c : acc.length = 6
    · rw [c] at h3; simp at h3; omega
    · omega
  refine ⟨by omega, ?_, by simp; omega, ?_, ?_⟩
  · rw [hexD_at _ (Nat.mod_lt _ (by decide)), h1, dig_cons]
  · rw [List.length_cons]
    rw [show 6 - acc.length = (6 - (acc.length + 1)) + 1 by omega, Nat.pow_succ] at h3
    omega
  · rw [← h4, List.length_cons, show 12 - acc.length = (12 - (acc.length + 1)) + 1 by omega, refGo, if_pos (by omega)]
def szOf : Value → Nat
  | .string b => b.size
  | _ => 0

set_option maxRecDepth 100000 in
set_option maxHeartbeats 3000000 in
theorem rtext_any (r : Int) (w : World) (h0 : -2147483648 ≤ r) (h1 : r ≤ 2147483647) :
    Calls Tryd.prog 19 #[.int .i32 r] w fun e w' => e = .returned (.tuple #[.string ⟨(textL r).toArray⟩, .int .i64 (textE r)]) ∧ Below w.heap.size w w' := by
  by_cases hok : okRune r = true
  · have hr : 0 ≤ r ∧ r ≤ 1114111 := by simp [okRune] at hok; omega
    obtain ⟨n, rfl⟩ : ∃ n : Nat, r = n := ⟨r.toNat, by omega⟩
    have ee : textE n = 0 := by rw [textE, if_pos hok]
    have Hok := Lib.hid hok
    by_cases hq : 32 < (n : Int) ∧ (n : Int) < 127 ∧ ¬ (n : Int) = 39
    · have et : textL n = [39, UInt8.ofNat n, 39] := by rw [textL, if_pos hok, if_pos hq]; rfl
      obtain ⟨q1, q2, q3⟩ := hq
      have d1 : decide ((32 : Int) < (n : Int)) = true := by rw [decide_eq_true_iff]; omega
      have d2 : decide ((n : Int) < 127) = true := by rw [decide_eq_true_iff]; omega
      have d3 : ((n : Int) != 39) = true := by rw [bne_iff_ne]; omega
      have HT := Lib.hid et
      have HE := Lib.hid ee
      have hcv : (convert 43 9 (.slice (some ⟨w.heap.size, 0, none⟩) 3 3)).run Tryd.prog (w.alloc (.cells #[.int .u8 39, .int .u8 n, .int .u8 39] 5)) = .ok (.string ⟨[39, UInt8.ofNat n, 39].toArray⟩) (w.alloc (.cells #[.int .u8 39, .int .u8 n, .int .u8 39] 5)) := by
        refine run_convert_bytes_back _ _ _ 5 ⟨w.heap.size, 0, none⟩ 3 [39, UInt8.ofNat n, 39] (by kernel_rfl) (by kernel_rfl) (by kernel_rfl) ?_
        intro j hj
        have hadd : (⟨w.heap.size, 0, none⟩ : Addr).add j = ⟨w.heap.size, j, none⟩ := by unfold Addr.add; split <;> simp_all
        rw [hadd, (Blk.new' w #[.int .u8 39, .int .u8 n, .int .u8 39] 5).cell j]
        have hj3 : j = 0 ∨ j = 1 ∨ j = 2 := by simp at hj; omega
        rcases hj3 with rfl | rfl | rfl
        · rfl
        · simp [UInt8.toNat_ofNat']; omega
        · rfl
      clear hok et ee q3
      go_enter Tryd.func19, Tryd.ntmps19
      go_wp2_with (go_at_call 35; refine (rscalar_any _ _).mono ?_; rintro e w' ⟨rfl, rfl⟩; rw [Hok.out])
      go_ret2
      exact ⟨ret_val (by rw [HT.out, HE.out]; rfl), (Below.refl _ w).alloc (Nat.le_refl _) _⟩
    · have et : textL n = [85, 43] ++ refGo 12 n [] := by rw [textL, if_pos hok, if_neg hq]; rfl
      have HT := Lib.hid et
      have HE := Lib.hid ee
      have hq' : (n : Int) ≤ 32 ∨ (32 < (n : Int) ∧ 127 ≤ (n : Int)) ∨ n = 39 := by omega
      clear hok et ee hq
      rcases hq' with q | ⟨q, q'⟩ | q
      · have d1 : decide ((32 : Int) < (n : Int)) = false := by rw [decide_eq_false_iff_not]; omega
        go_enter Tryd.func19, Tryd.ntmps19
        go_wp2_with (go_at_call 35; refine (rscalar_any _ _).mono ?_; rintro e w' ⟨rfl, rfl⟩; rw [Hok.out])
        go_loop [4, 5] (fun v4 v5 => ∃ (m : Nat) (A : ByteArray) (acc : List UInt8), v4 = .string A ∧ v5 = .int .i64 m ∧ A.size ≤ 6 ∧ m < 16777216 ∧ Hid (A = ⟨acc.toArray⟩ ∧ acc.length ≤ 6 ∧ m < 16 ^ (6 - acc.length) ∧ refGo (12 - acc.length) m acc = refGo 12 n [])) (fun v4 v5 => (intOf v5).toNat + (4 - szOf v4))
        case atStart => exact ⟨n, ByteArray.empty, [], rfl, rfl, by decide, by omega, Lib.hid ⟨rfl, by simp, by simp; omega, rfl⟩⟩
        case round =>
          obtain ⟨m, A, acc, rfl, rfl, hA, hm, Hr⟩ := hrel
          by_cases hgo : 0 < m ∨ A.size < 4
          · have HST := Lib.hid (text_step hgo Hr.out)
            have hA5 : A.size ≤ 5 := HST.out.1
            by_cases hm0 : m = 0
            · subst hm0
              have hA4 : A.size < 4 := by omega
              have g2 : decide ((A.size : Int) < 4) = true := by rw [decide_eq_true_iff]; omega
              have hEs : (hexD.extract 0 1).size = 1 := by decide
              have HES := Lib.hid hEs
              clear hgo
              go_wp2_with fail
              exact ⟨⟨0, hexD.extract 0 1 ++ A, digU 0 :: acc, rfl, rfl, by rw [ByteArray.size_append, HES.out]; omega, by omega, Lib.hid HST.out.2⟩, by
                show (0 : Int).toNat + (4 - (hexD.extract 0 1 ++ A).size) < (0 : Int).toNat + (4 - A.size)
                rw [ByteArray.size_append, HES.out]
                omega⟩
            · have h16 : m % 16 < 16 := Nat.mod_lt _ (by decide)
              have hEs : (hexD.extract (m % 16) (m % 16 + 1)).size = 1 := by rw [hexD_at _ h16]; rfl
              have HES := Lib.hid hEs
              have hml : m / 16 < m := by omega
              have hmq : m / 16 < 16777216 := by omega
              clear hgo
              go_wp2_with fail
              exact ⟨⟨m / 16, hexD.extract (m % 16) (m % 16 + 1) ++ A, digU (m % 16) :: acc, rfl, by go_num, by rw [ByteArray.size_append, HES.out]; omega, hmq, Lib.hid HST.out.2⟩, by
                show ((m : Int) / 16).toNat + (4 - (hexD.extract (m % 16) (m % 16 + 1) ++ A).size) < ((m : Nat) : Int).toNat + (4 - A.size)
                rw [ByteArray.size_append, HES.out]
                omega⟩
          · obtain rfl : m = 0 := by omega
            have g2 : decide ((A.size : Int) < 4) = false := by rw [decide_eq_false_iff_not]; omega
            have hsz : A.size = acc.length := by rw [Hr.out.1]; simp [ByteArray.size]
            have he : acc = refGo 12 n [] := by
              rw [← Hr.out.2.2.2]
              obtain ⟨k, hk⟩ : ∃ k, 12 - acc.length = k + 1 := ⟨11 - acc.length, by have := Hr.out.2.1; omega⟩
              rw [hk, refGo, if_neg (by omega)]
            have hA2 : A = ⟨(refGo 12 n []).toArray⟩ := by rw [Hr.out.1, he]
            have HA2 := Lib.hid hA2
            clear hgo he hA2 hsz
            go_wp2_with fail
            go_ret2
            exact ⟨ret_val (by rw [HT.out, HE.out, ← head_85, ← HA2.out]; rfl), Below.refl _ _⟩
      · have d1 : decide ((32 : Int) < (n : Int)) = true := by rw [decide_eq_true_iff]; omega
        have d2 : decide ((n : Int) < 127) = false := by rw [decide_eq_false_iff_not]; omega
        go_enter Tryd.func19, Tryd.ntmps19
        go_wp2_with (go_at_call 35; refine (rscalar_any _ _).mono ?_; rintro e w' ⟨rfl, rfl⟩; rw [Hok.out])
        go_loop [4, 5] (fun v4 v5 => ∃ (m : Nat) (A : ByteArray) (acc : List UInt8), v4 = .string A ∧ v5 = .int .i64 m ∧ A.size ≤ 6 ∧ m < 16777216 ∧ Hid (A = ⟨acc.toArray⟩ ∧ acc.length ≤ 6 ∧ m < 16 ^ (6 - acc.length) ∧ refGo (12 - acc.length) m acc = refGo 12 n [])) (fun v4 v5 => (intOf v5).toNat + (4 - szOf v4))
        case atStart => exact ⟨n, ByteArray.empty, [], rfl, rfl, by decide, by omega, Lib.hid ⟨rfl, by simp, by simp; omega, rfl⟩⟩
        case round =>
          obtain ⟨m, A, acc, rfl, rfl, hA, hm, Hr⟩ := hrel
          by_cases hgo : 0 < m ∨ A.size < 4
          · have HST := Lib.hid (text_step hgo Hr.out)
            have hA5 : A.size ≤ 5 := HST.out.1
            by_cases hm0 : m = 0
            · subst hm0
              have hA4 : A.size < 4 := by omega
              have g2 : decide ((A.size : Int) < 4) = true := by rw [decide_eq_true_iff]; omega
              have hEs : (hexD.extract 0 1).size = 1 := by decide
              have HES := Lib.hid hEs
              clear hgo
              go_wp2_with fail
              exact ⟨⟨0, hexD.extract 0 1 ++ A, digU 0 :: acc, rfl, rfl, by rw [ByteArray.size_append, HES.out]; omega, by omega, Lib.hid HST.out.2⟩, by
                show (0 : Int).toNat + (4 - (hexD.extract 0 1 ++ A).size) < (0 : Int).toNat + (4 - A.size)
                rw [ByteArray.size_append, HES.out]
                omega⟩
            · have h16 : m % 16 < 16 := Nat.mod_lt _ (by decide)
              have hEs : (hexD.extract (m % 16) (m % 16 + 1)).size = 1 := by rw [hexD_at _ h16]; rfl
              have HES := Lib.hid hEs
              have hml : m / 16 < m := by omega
              have hmq : m / 16 < 16777216 := by omega
              clear hgo
              go_wp2_with fail
              exact ⟨⟨m / 16, hexD.extract (m % 16) (m % 16 + 1) ++ A, digU (m % 16) :: acc, rfl, by go_num, by rw [ByteArray.size_append, HES.out]; omega, hmq, Lib.hid HST.out.2⟩, by
                show ((m : Int) / 16).toNat + (4 - (hexD.extract (m % 16) (m % 16 + 1) ++ A).size) < ((m : Nat) : Int).toNat + (4 - A.size)
                rw [ByteArray.size_append, HES.out]
                omega⟩
          · obtain rfl : m = 0 := by omega
            have g2 : decide ((A.size : Int) < 4) = false := by rw [decide_eq_false_iff_not]; omega
            have hsz : A.size = acc.length := by rw [Hr.out.1]; simp [ByteArray.size]
            have he : acc = refGo 12 n [] := by
              rw [← Hr.out.2.2.2]
              obtain ⟨k, hk⟩ : ∃ k, 12 - acc.length = k + 1 := ⟨11 - acc.length, by have := Hr.out.2.1; omega⟩
              rw [hk, refGo, if_neg (by omega)]
            have hA2 : A = ⟨(refGo 12 n []).toArray⟩ := by rw [Hr.out.1, he]
            have HA2 := Lib.hid hA2
            clear hgo he hA2 hsz
            go_wp2_with fail
            go_ret2
            exact ⟨ret_val (by rw [HT.out, HE.out, ← head_85, ← HA2.out]; rfl), Below.refl _ _⟩
      · have d1 : decide ((32 : Int) < (n : Int)) = true := by rw [decide_eq_true_iff]; omega
        have d2 : decide ((n : Int) < 127) = true := by rw [decide_eq_true_iff]; omega
        have d3 : ((n : Int) != 39) = false := by rw [bne_eq_false_iff_eq]; omega
        clear q
        go_enter Tryd.func19, Tryd.ntmps19
        go_wp2_with (go_at_call 35; refine (rscalar_any _ _).mono ?_; rintro e w' ⟨rfl, rfl⟩; rw [Hok.out])
        go_loop [4, 5] (fun v4 v5 => ∃ (m : Nat) (A : ByteArray) (acc : List UInt8), v4 = .string A ∧ v5 = .int .i64 m ∧ A.size ≤ 6 ∧ m < 16777216 ∧ Hid (A = ⟨acc.toArray⟩ ∧ acc.length ≤ 6 ∧ m < 16 ^ (6 - acc.length) ∧ refGo (12 - acc.length) m acc = refGo 12 n [])) (fun v4 v5 => (intOf v5).toNat + (4 - szOf v4))
        case atStart => exact ⟨n, ByteArray.empty, [], rfl, rfl, by decide, by omega, Lib.hid ⟨rfl, by simp, by simp; omega, rfl⟩⟩
        case round =>
          obtain ⟨m, A, acc, rfl, rfl, hA, hm, Hr⟩ := hrel
          by_cases hgo : 0 < m ∨ A.size < 4
          · have HST := Lib.hid (text_step hgo Hr.out)
            have hA5 : A.size ≤ 5 := HST.out.1
            by_cases hm0 : m = 0
            · subst hm0
              have hA4 : A.size < 4 := by omega
              have g2 : decide ((A.size : Int) < 4) = true := by rw [decide_eq_true_iff]; omega
              have hEs : (hexD.extract 0 1).size = 1 := by decide
              have HES := Lib.hid hEs
              clear hgo
              go_wp2_with fail
              exact ⟨⟨0, hexD.extract 0 1 ++ A, digU 0 :: acc, rfl, rfl, by rw [ByteArray.size_append, HES.out]; omega, by omega, Lib.hid HST.out.2⟩, by
                show (0 : Int).toNat + (4 - (hexD.extract 0 1 ++ A).size) < (0 : Int).toNat + (4 - A.size)
                rw [ByteArray.size_append, HES.out]
                omega⟩
            · have h16 : m % 16 < 16 := Nat.mod_lt _ (by decide)
              have hEs : (hexD.extract (m % 16) (m % 16 + 1)).size = 1 := by rw [hexD_at _ h16]; rfl
              have HES := Lib.hid hEs
              have hml : m / 16 < m := by omega
              have hmq : m / 16 < 16777216 := by omega
              clear hgo
              go_wp2_with fail
              exact ⟨⟨m / 16, hexD.extract (m % 16) (m % 16 + 1) ++ A, digU (m % 16) :: acc, rfl, by go_num, by rw [ByteArray.size_append, HES.out]; omega, hmq, Lib.hid HST.out.2⟩, by
                show ((m : Int) / 16).toNat + (4 - (hexD.extract (m % 16) (m % 16 + 1) ++ A).size) < ((m : Nat) : Int).toNat + (4 - A.size)
                rw [ByteArray.size_append, HES.out]
                omega⟩
          · obtain rfl : m = 0 := by omega
            have g2 : decide ((A.size : Int) < 4) = false := by rw [decide_eq_false_iff_not]; omega
            have hsz : A.size = acc.length := by rw [Hr.out.1]; simp [ByteArray.size]
            have he : acc = refGo 12 n [] := by
              rw [← Hr.out.2.2.2]
              obtain ⟨k, hk⟩ : ∃ k, 12 - acc.length = k + 1 := ⟨11 - acc.length, by have := Hr.out.2.1; omega⟩
              rw [hk, refGo, if_neg (by omega)]
            have hA2 : A = ⟨(refGo 12 n []).toArray⟩ := by rw [Hr.out.1, he]
            have HA2 := Lib.hid hA2
            clear hgo he hA2 hsz
            go_wp2_with fail
            go_ret2
            exact ⟨ret_val (by rw [HT.out, HE.out, ← head_85, ← HA2.out]; rfl), Below.refl _ _⟩
  · have hok' : okRune r = false := by simpa using hok
    have et : textL r = [] := by rw [textL, hok']; rfl
    have ee : textE r = 12 := by rw [textE, hok']; rfl
    have HT := Lib.hid et
    have HE := Lib.hid ee
    have Hok := Lib.hid hok'
    clear hok hok' et ee
    go_enter Tryd.func19, Tryd.ntmps19
    go_wp2_with (go_at_call 35; refine (rscalar_any _ _).mono ?_; rintro e w' ⟨rfl, rfl⟩; rw [Hok.out])
    go_ret2
    exact ⟨ret_val (by rw [HT.out, HE.out]; rfl), Below.refl _ _⟩
end Go.Proofs.YtpdaciljdcfikaaDoor
