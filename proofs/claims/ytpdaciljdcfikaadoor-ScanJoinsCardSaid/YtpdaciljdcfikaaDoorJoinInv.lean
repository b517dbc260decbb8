/- Plain: what the loops of ScanJoins keep. -/
import Derived.Test.YtpdaciljdcfikaaDoorJoinLex
import Derived.Test.YtpdaciljdcfikaaDoorScanSt
namespace Go.Proofs.YtpdaciljdcfikaaDoor
open Go
set_option linter.unusedVariables false
set_option linter.unusedSimpArgs false

def SameW (w v : Wd) : Prop := w.kind = v.kind ∧ w.txt = v.txt ∧ w.r = v.r ∧ w.n = v.n ∧ w.fr ≤ w.en ∧ v.fr ≤ v.en ∧ w.en - w.fr = v.en - v.fr
/-- What is written behind i rounds. -/
def Inv (a : ByteArray) (la : List Wd) (i : Nat) (S : ByteArray) : Prop :=
  ∃ ws, Runs S ws ∧ ws.length = i ∧ (∀ j (h1 : j < ws.length) (h2 : j < la.length), SameW ws[j] la[j]) ∧ S.size ≤ 8 * i + (if h : 0 < i ∧ i ≤ la.length then (la[i - 1]'(by omega)).en else 0)
theorem inv_zero (a : ByteArray) (la : List Wd) : Inv a la 0 ⟨#[]⟩ := ⟨[], runs_nil, rfl, fun j h1 => by simp at h1, Nat.zero_le _⟩
theorem inv_step {a S r : ByteArray} {la : List Wd} {i : Nat} (h : Inv a la i S) (hok : ∀ w ∈ la, WdOk a w) (hch : Chain 0 la) (hi : i < la.length) (hr : r ∈ fillsL) : Inv a la (i + 1) (S ++ r ++ a.extract la[i].fr la[i].en) := by
  obtain ⟨ws, h1, h2, h3, h4⟩ := h
  have hw := hok la[i] (List.getElem_mem hi)
  have hlt := hw.lt
  have hle := hw.le
  have hs := fills_size r hr
  refine ⟨_, runs_step h1 hr hw, by simp [h2], fun j j1 j2 => ?_, ?_⟩
  · by_cases c : j < ws.length
    · rw [List.getElem_append_left c]
      exact h3 j c j2
    · simp only [List.length_append, List.length_singleton] at j1
      obtain rfl : j = i := by omega
      rw [List.getElem_append_right (by omega)]
      simp only [h2, Nat.sub_self, List.getElem_singleton]
      exact ⟨rfl, rfl, rfl, rfl, by simp [Wd.at_], by omega, by simp [Wd.at_]⟩
  · rw [dif_pos ⟨by omega, by omega⟩]
    have hz : (S ++ r ++ a.extract la[i].fr la[i].en).size = S.size + r.size + (la[i].en - la[i].fr) := by rw [ByteArray.size_append, ByteArray.size_append]; simp; omega
    rw [hz]
    simp only [Nat.add_sub_cancel]
    by_cases c : 0 < i
    · rw [dif_pos ⟨c, by omega⟩] at h4
      have hc := chain_at la 0 (i - 1) (by omega) hch
      simp only [show i - 1 + 1 = i by omega] at hc
      omega
    · rw [dif_neg (fun x => c x.1)] at h4
      omega
theorem inv_size {a S : ByteArray} {la : List Wd} {i : Nat} (h : Inv a la i S) (hok : ∀ w ∈ la, WdOk a w) : S.size ≤ 8 * i + a.size := by
  obtain ⟨ws, h1, h2, h3, h4⟩ := h
  split at h4
  · rename_i c
    have := (hok _ (List.getElem_mem (show i - 1 < la.length by omega))).le
    omega
  · omega
theorem inv_end {a S : ByteArray} {la : List Wd} (h : Inv a la la.length S) : ∃ ws, lexN S = (ws, none) ∧ ws.length = la.length ∧ ∀ j (h1 : j < ws.length) (h2 : j < la.length), SameW ws[j] la[j] := by
  obtain ⟨ws, h1, h2, h3, h4⟩ := h
  exact ⟨ws, runs_lex h1, h2, h3⟩

theorem cells_a {a b : ByteArray} {w : Wd} (h : WdOk a w) : wcells (bothB a b) w = wcells a w := by
  have := h.lt
  have := h.le
  unfold wcells
  rw [lc_both_a h.seg (by omega)]
theorem cells_b {a b : ByteArray} {w : Wd} (ha : Seg a 0 a.size) (h : WdOk b w) : wcells (bothB a b) (w.at_ (a.size + 1 + w.fr)) =
    [.int .i64 w.kind, .string w.txt, .int .i32 w.r, .int .i64 w.n, .int .i64 ((w.fr : Int) + (a.size : Int) + 1), .int .i64 (((lcN b w.fr 0 1 1).1 : Int) + ((1 + endsGo a a.size 0 : Nat) : Int)), .int .i64 (lcN b w.fr 0 1 1).2, .int .i64 ((w.en : Int) + (a.size : Int) + 1)] := by
  have h1 := h.lt
  have h2 := h.le
  have e : ((a.size + 1 + w.fr : Nat) : Int) = (w.fr : Int) + (a.size : Int) + 1 := by omega
  have e2 : ((a.size + 1 + w.fr + (w.en - w.fr) : Nat) : Int) = (w.en : Int) + (a.size : Int) + 1 := by omega
  have e3 : ((1 + endsGo a a.size 0 + (lcN b w.fr 0 1 1).1 : Nat) : Int) = ((lcN b w.fr 0 1 1).1 : Int) + ((1 + endsGo a a.size 0 : Nat) : Int) := by omega
  unfold wcells Wd.at_
  simp only []
  rw [lc_both_b ha h.seg (by omega), e, e2, e3]
theorem both_at {la lb : List Wd} {i : Nat} (f : Wd → Wd) (hi : i < la.length) (hi' : i < (la ++ lb.map f).length) : (la ++ lb.map f)[i] = la[i] := by
  rw [List.getElem_append_left hi]
theorem both_at2 {la lb : List Wd} {i : Nat} (f : Wd → Wd) (hi : ¬ i < la.length) (hi2 : i - la.length < lb.length) (hi' : i < (la ++ lb.map f).length) : (la ++ lb.map f)[i] = f lb[i - la.length] := by
  rw [List.getElem_append_right (by omega), List.getElem_map]
theorem ends_le (s : ByteArray) : ∀ f i, endsGo s f i ≤ f := by
  intro f
  induction f with
  | zero => intro i; exact Nat.le_refl _
  | succ f ih => intro i; rw [endsGo]; have := ih (i + 1); split <;> omega
theorem ends_step (s : ByteArray) (i : Nat) : endsGo s (i + 1) 0 = endsGo s i 0 + (if B s i = 10 then 1 else 0) := by
  rw [ends_add s i 1 0]; simp [endsGo]
end Go.Proofs.YtpdaciljdcfikaaDoor
