/- Words on worlds: all blocks but some lie as they lay (Keep); a block known whole (Blk). No program in sight. -/
import Derived.Below
import Derived.OneCell
import Derived.Lib.OthersKept
import Derived.Laws.NewBlocks
import Derived.RowKit3
import Derived.Lib.Hide
namespace Go.Proofs.YtpdaciljdcfikaaDoor
open Go Go.RowKit
set_option linter.unusedVariables false
set_option linter.unusedSimpArgs false

/-- W' is W with new blocks, and with turns of the blocks of S alone. -/
structure Keep (S : Nat → Prop) (W W' : World) : Prop where
  os : W'.os = W.os
  tape : W'.tape = W.tape
  output : W'.output = W.output
  size : W.heap.size ≤ W'.heap.size
  block : ∀ k, k < W.heap.size → ¬ S k → W'.heap[k]? = W.heap[k]?

theorem Keep.refl (S : Nat → Prop) (W : World) : Keep S W W := ⟨rfl, rfl, rfl, Nat.le_refl _, fun _ _ _ => rfl⟩
theorem Keep.trans {S : Nat → Prop} {a b c : World} (h : Keep S a b) (k : Keep S b c) : Keep S a c :=
  ⟨k.os.trans h.os, k.tape.trans h.tape, k.output.trans h.output, Nat.le_trans h.size k.size, fun i hi hs => (k.block i (Nat.lt_of_lt_of_le hi h.size) hs).trans (h.block i hi hs)⟩
/-- Behind a, what is new since a may be turned at will. -/
theorem Keep.trans' {S T : Nat → Prop} {a b c : World} (h : Keep S a b) (k : Keep T b c) (hst : ∀ i, i < a.heap.size → ¬ S i → ¬ T i) : Keep S a c :=
  ⟨k.os.trans h.os, k.tape.trans h.tape, k.output.trans h.output, Nat.le_trans h.size k.size, fun i hi hs => (k.block i (Nat.lt_of_lt_of_le hi h.size) (hst i hi hs)).trans (h.block i hi hs)⟩
theorem Keep.mono {S T : Nat → Prop} {a b : World} (h : Keep S a b) (hst : ∀ i, i < a.heap.size → S i → T i) : Keep T a b :=
  ⟨h.os, h.tape, h.output, h.size, fun i hi hs => h.block i hi fun k => hs (hst i hi k)⟩
theorem Keep.alloc {S : Nat → Prop} {a b : World} (h : Keep S a b) (o : Obj) : Keep S a (b.alloc o) :=
  h.trans ⟨rfl, rfl, rfl, by simp, fun k hk _ => Below.heap_alloc _ _ _ hk⟩
theorem Keep.drew {S : Nat → Prop} {a b : World} (h : Keep S a b) : Keep S a b.drew := ⟨h.os, h.tape, h.output, h.size, h.block⟩
theorem Keep.setCell {S : Nat → Prop} {a b : World} (h : Keep S a b) {p : Addr} (hp : p.block < a.heap.size → S p.block) (u : Value) : Keep S a (b.setCell p u) :=
  ⟨h.os, h.tape, h.output, by rw [show (b.setCell p u).heap.size = b.heap.size by simp [World.setCell]]; exact h.size, fun i hi hs => by
    rw [Below.heap_setCell _ _ _ _ (fun e => hs (by rw [e]; exact hp (by rw [← e]; exact hi)))]; exact h.block i hi hs⟩
theorem Keep.iterAt {S : Nat → Prop} {a b : World} (h : Keep S a b) {k : Nat} (hk : k < a.heap.size → S k) (s : ByteArray) (pos : Nat) : Keep S a (b.iterAt k s pos) :=
  ⟨h.os, h.tape, h.output, by rw [Lib.iterAt_size]; exact h.size, fun i hi hs => by
    rw [Lib.iterAt_other _ _ _ _ _ (fun e => hs (by rw [e]; exact hk (by rw [← e]; exact hi)))]; exact h.block i hi hs⟩
theorem Keep.of_below {W W' : World} (h : Below W.heap.size W W') (S : Nat → Prop) : Keep S W W' := ⟨h.os, h.tape, h.output, h.size, fun k hk _ => h.block k hk⟩
theorem Keep.below {S : Nat → Prop} {W W' : World} (h : Keep S W W') {B : Nat} (hB : ∀ k, k < B → k < W.heap.size ∧ ¬ S k) : Below B W W' :=
  ⟨h.os, h.tape, h.output, h.size, fun k hk => h.block k (hB k hk).1 (hB k hk).2⟩
theorem Keep.of_grown {W W' : World} {row : Option Nat} (h : W.grownBy W' row) {S : Nat → Prop} (hr : ∀ k, row = some k → S k) : Keep S W W' :=
  ⟨h.os, h.tape, h.output, h.size, fun k hk hs => h.block k hk (fun e => hs (hr k e.symm))⟩
theorem Keep.cell {S : Nat → Prop} {W W' : World} (h : Keep S W W') {p : Addr} (hp : p.block < W.heap.size) (hs : ¬ S p.block) : W'.cell? p = W.cell? p := World.cell?_of_block (h.block _ hp hs)
theorem Keep.frozen {S : Nat → Prop} {W W' : World} (h : Keep S W W') {p : Addr} (hp : p.block < W.heap.size) (hs : ¬ S p.block) : W'.frozen? p = W.frozen? p := World.frozen?_of_block (h.block _ hp hs)

/-- Block b is a row of cells, none of them frozen. -/
def Blk (W : World) (b : Nat) (vs : List Value) (T : TypeId) : Prop := W.heap[b]? = some (.cells vs.toArray T (0, 0))
theorem Blk.lt {W : World} {b : Nat} {vs : List Value} {T : TypeId} (h : Blk W b vs T) : b < W.heap.size := lt_of_block h
theorem Blk.cell {W : World} {b : Nat} {vs : List Value} {T : TypeId} (h : Blk W b vs T) (i : Nat) : W.cell? ⟨b, i, none⟩ = vs[i]? := by
  simp [World.cell?, show W.heap[b]? = _ from h]
theorem Blk.frozen {W : World} {b : Nat} {vs : List Value} {T : TypeId} (h : Blk W b vs T) (i : Nat) : W.frozen? ⟨b, i, none⟩ = false := by
  simp [World.frozen?, show W.heap[b]? = _ from h]
theorem Blk.new (W : World) (vs : List Value) (T : TypeId) : Blk (W.alloc (.cells vs.toArray T)) W.heap.size vs T := by
  show (W.heap.push _)[W.heap.size]? = _
  simp
theorem Blk.new' (W : World) (A : Array Value) (T : TypeId) : Blk (W.alloc (.cells A T)) W.heap.size A.toList T := by
  show (W.heap.push _)[W.heap.size]? = _
  simp
theorem Blk.keep {S : Nat → Prop} {W W' : World} {b : Nat} {vs : List Value} {T : TypeId} (h : Blk W b vs T) (k : Keep S W W') (hs : ¬ S b) : Blk W' b vs T := (k.block b h.lt hs).trans h
theorem Blk.alloc {W : World} {b : Nat} {vs : List Value} {T : TypeId} (h : Blk W b vs T) (o : Obj) : Blk (W.alloc o) b vs T := (Below.heap_alloc _ _ _ h.lt).trans h
theorem Blk.drew {W : World} {b : Nat} {vs : List Value} {T : TypeId} (h : Blk W b vs T) : Blk W.drew b vs T := h
theorem Blk.other {W : World} {b : Nat} {vs : List Value} {T : TypeId} (h : Blk W b vs T) {p : Addr} (hp : b ≠ p.block) (u : Value) : Blk (W.setCell p u) b vs T := (Below.heap_setCell _ _ _ _ hp).trans h
theorem Blk.iterAt {W : World} {b : Nat} {vs : List Value} {T : TypeId} (h : Blk W b vs T) {k : Nat} (hk : b ≠ k) (s : ByteArray) (pos : Nat) : Blk (W.iterAt k s pos) b vs T := (Lib.iterAt_other _ _ _ _ _ hk).trans h
theorem Blk.set {W : World} {b : Nat} {vs : List Value} {T : TypeId} (h : Blk W b vs T) (i : Nat) (u : Value) : Blk (W.setCell ⟨b, i, none⟩ u) b (vs.set i u) T := by
  have hlt := h.lt
  have h' : W.heap[b] = .cells vs.toArray T (0, 0) := by simpa [Array.getElem?_eq_getElem hlt] using (show W.heap[b]? = _ from h)
  show (W.heap.modify b _)[b]? = _
  rw [Array.getElem?_eq_getElem (by simpa using hlt), Array.getElem_modify_self, h']
  simp

theorem Blk.of_eq {W : World} {b : Nat} {vs vs' : List Value} {T : TypeId} (h : Blk W b vs T) (e : vs = vs') : Blk W b vs' T := e ▸ h

/-- A string's iterator in block k. -/
def Itr (W : World) (k : Nat) (s : ByteArray) (pos : Nat) : Prop := W.heap[k]? = some (.stringIter s pos)
theorem Itr.lt {W : World} {k : Nat} {s : ByteArray} {pos : Nat} (h : Itr W k s pos) : k < W.heap.size := lt_of_block h
theorem Itr.new (W : World) (s : ByteArray) (pos : Nat) : Itr (W.iter s pos) W.heap.size s pos := World.iter_heap W s pos
theorem Itr.keep {S : Nat → Prop} {W W' : World} {k : Nat} {s : ByteArray} {pos : Nat} (h : Itr W k s pos) (kp : Keep S W W') (hs : ¬ S k) : Itr W' k s pos := (kp.block k h.lt hs).trans h
theorem Itr.alloc {W : World} {k : Nat} {s : ByteArray} {pos : Nat} (h : Itr W k s pos) (o : Obj) : Itr (W.alloc o) k s pos := (Below.heap_alloc _ _ _ h.lt).trans h
theorem Itr.other {W : World} {k : Nat} {s : ByteArray} {pos : Nat} (h : Itr W k s pos) {p : Addr} (hp : k ≠ p.block) (u : Value) : Itr (W.setCell p u) k s pos := (Below.heap_setCell _ _ _ _ hp).trans h
theorem Itr.at {W : World} {k : Nat} {s : ByteArray} {pos : Nat} (h : Itr W k s pos) (pos' : Nat) : Itr (W.iterAt k s pos') k s pos' := Lib.iterAt_heap _ _ _ _ _ h
theorem Keep.iter {S : Nat → Prop} {a b : World} (h : Keep S a b) (s : ByteArray) (pos : Nat) : Keep S a (b.iter s pos) := h.alloc _
theorem Blk.iter {W : World} {b : Nat} {vs : List Value} {T : TypeId} (h : Blk W b vs T) (s : ByteArray) (pos : Nat) : Blk (W.iter s pos) b vs T := h.alloc _
end Go.Proofs.YtpdaciljdcfikaaDoor
