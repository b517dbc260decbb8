/- How a rune is written (P4.3), in plain words. -/
import Derived.Test.YtpdaciljdcfikaaDoorHex
import Derived.Lib.Case
import Derived.Lib.Repeat
namespace Go.Proofs.YtpdaciljdcfikaaDoor
open Go
set_option linter.unusedVariables false
set_option linter.unusedSimpArgs false

/-- A digit's byte, great letters. -/
def digU (d : Nat) : UInt8 := (([48, 49, 50, 51, 52, 53, 54, 55, 56, 57, 65, 66, 67, 68, 69, 70] : List UInt8).getD d 0)
/-- n's digits ahead of acc, at least four in all. -/
def refGo : Nat → Nat → List UInt8 → List UInt8
  | 0, _, acc => acc
  | f + 1, n, acc => if 0 < n ∨ acc.length < 4 then refGo f (n / 16) (digU (n % 16) :: acc) else acc
def okRune (r : Int) : Bool := decide (0 ≤ r) && decide (r ≤ 1114111) && (decide (r < 55296) || decide (57343 < r))
def textL (r : Int) : List UInt8 :=
  if okRune r then (if 32 < r ∧ r < 127 ∧ ¬ r = 39 then [39, UInt8.ofNat r.toNat, 39] else [85, 43] ++ refGo 12 r.toNat []) else []
def textE (r : Int) : Nat := if okRune r then 0 else 12

theorem refGo_zero : ∀ f (acc : List UInt8), 4 ≤ f + acc.length → refGo f 0 acc = List.replicate (4 - acc.length) 48 ++ acc := by
  intro f
  induction f with
  | zero => intro acc h; rw [refGo, show 4 - acc.length = 0 by omega]; rfl
  | succ f ih =>
    intro acc h
    rw [refGo]
    by_cases c : acc.length < 4
    · rw [if_pos (Or.inr c), ih _ (by simp; omega)]
      rw [show 4 - acc.length = (4 - (digU (0 % 16) :: acc).length) + 1 by simp; omega, List.replicate_succ', List.append_assoc]
      rfl
    · rw [if_neg (by omega), show 4 - acc.length = 0 by omega]; rfl
theorem up_dig (d : Nat) (h : d < 16) : Lib.upperB (dig d) = digU d := by
  have key : ∀ d : Fin 16, Lib.upperB (dig d.1) = digU d.1 := by decide +kernel
  exact key ⟨d, h⟩
theorem hexGo_len : ∀ f u (acc : List UInt8), u < 16 ^ f → acc.length < (hexGo (f + 1) u acc).length ∧ (hexGo (f + 1) u acc).length ≤ f + 1 + acc.length := by
  intro f
  induction f with
  | zero => intro u acc h; rw [hexGo_small (by simp at h; omega)]; simp; omega
  | succ f ih =>
    intro u acc h
    by_cases c : u < 16
    · rw [hexGo_small c]; simp; omega
    · rw [hexGo_big (by omega)]
      rw [Nat.pow_succ] at h
      have := ih (u / 16) (dig (u % 16) :: acc) (by omega)
      simp at this
      omega
theorem ref_hex : ∀ f u (acc : List UInt8), u < 16 ^ f → (0 < u ∨ acc.length < 4) → ∀ g, f + 5 ≤ g → refGo g u (Lib.toUpperA acc) = List.replicate (4 - (hexGo (f + 1) u acc).length) 48 ++ Lib.toUpperA (hexGo (f + 1) u acc) := by
  intro f
  induction f with
  | zero =>
    intro u acc h hu g hg
    simp at h
    subst h
    obtain ⟨g, rfl⟩ : ∃ k, g = k + 1 := ⟨g - 1, by omega⟩
    rw [hexGo_small (by omega), refGo, if_pos (by simpa [Lib.toUpperA] using hu), show 0 / 16 = 0 from rfl, refGo_zero _ _ (by simp; omega)]
    simp [Lib.toUpperA, up_dig]
  | succ f ih =>
    intro u acc h hu g hg
    obtain ⟨g, rfl⟩ : ∃ k, g = k + 1 := ⟨g - 1, by omega⟩
    rw [refGo, if_pos (by simpa [Lib.toUpperA] using hu)]
    by_cases c : u < 16
    · rw [hexGo_small c, show u / 16 = 0 by omega, refGo_zero _ _ (by simp; omega), show u % 16 = u by omega]
      simp [Lib.toUpperA, up_dig u c]
    · rw [hexGo_big (by omega)]
      rw [Nat.pow_succ] at h
      have := ih (u / 16) (dig (u % 16) :: acc) (by omega) (Or.inl (by omega)) g (by omega)
      rw [← this]
      simp [Lib.toUpperA, up_dig (u % 16) (by omega)]
theorem text_hex {u : Nat} (h : u < 16777216) : refGo 12 u [] = Lib.repeatL [48] (4 - (hexGo 7 u []).length) ++ Lib.toUpperA (hexGo 7 u []) := by
  have := ref_hex 6 u [] (by simpa using h) (Or.inr (by simp)) 12 (by omega)
  rw [show Lib.toUpperA [] = [] from rfl] at this
  rw [this]
  congr 1
  generalize 4 - (hexGo 7 u []).length = k
  induction k with
  | zero => rfl
  | succ k ih => rw [List.replicate_succ, ih]; rfl
theorem hex_ascii : ∀ f u (acc : List UInt8), (∀ b ∈ acc, b.toNat < 128) → ∀ b ∈ hexGo f u acc, b.toNat < 128 := by
  have hd : ∀ d, d < 16 → (dig d).toNat < 128 := by
    have key : ∀ d : Fin 16, (dig d.1).toNat < 128 := by decide +kernel
    exact fun d h => key ⟨d, h⟩
  intro f
  induction f with
  | zero => intro u acc h b hb; exact h b hb
  | succ f ih =>
    intro u acc h b hb
    rw [hexGo] at hb
    split at hb
    · rcases List.mem_cons.1 hb with rfl | hb
      · exact hd _ (by omega)
      · exact h b hb
    · exact ih _ _ (fun x hx => by
        rcases List.mem_cons.1 hx with rfl | hx
        · exact hd _ (by omega)
        · exact h x hx) b hb
end Go.Proofs.YtpdaciljdcfikaaDoor
