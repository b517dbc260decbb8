/- scan.scan: what holds at its labels. -/
import Derived.Test.YtpdaciljdcfikaaDoorScanQuoted
import Derived.Test.YtpdaciljdcfikaaDoorScanTo
import Derived.Test.YtpdaciljdcfikaaDoorLexSteps
import Derived.Test.YtpdaciljdcfikaaDoorScope
import Derived.WalkMore
namespace Go.Proofs.YtpdaciljdcfikaaDoor
open Go.RowKit Go.Shelf
set_option linter.unusedVariables false
set_option linter.unusedSimpArgs false

def wcells (s : ByteArray) (w : Wd) : List Value := [.int .i64 w.kind, .string w.txt, .int .i32 w.r, .int .i64 w.n, .int .i64 w.fr, .int .i64 (lcN s w.fr 0 1 1).1, .int .i64 (lcN s w.fr 0 1 1).2, .int .i64 w.en]
def wpart (w : Wd) : List Value := [.int .i64 w.kind, .string w.txt, .int .i32 w.r, .int .i64 w.n, .int .i64 0, .int .i64 0, .int .i64 0, .int .i64 0]
def zeroW : List Value := [.int .i64 0, .string { data := #[] }, .int .i32 0, .int .i64 0, .int .i64 0, .int .i64 0, .int .i64 0, .int .i64 0]

structure St (s : ByteArray) (b : Nat) (w0 W : World) (a0 p : Nat) (l : List Wd) (v2 : Value) (ws : List Value) : Prop where
  cur : Blk W b (cur s a0 (lcN s a0 0 1 1).1 (lcN s a0 0 1 1).2) 105
  word : Blk W (b + 1) ws 41
  wlen : ws.length = 8
  row : W.ownsRow (b + 2) 41 8 v2 l.length (l.flatMap (wcells s))
  seg0 : Seg s 0 a0
  seg : Seg s a0 p
  below : Below b w0 W
  len : l.length ≤ p
  ple : p ≤ s.size
  nil : l = [] → v2 = .slice none 0 0

inductive Fr (s : ByteArray) (b : Nat) (v2 v6 v7 : Value) : Act → Prop where
  | mk (u3 u8 u9 u10 u11 u12 u13 u14 u15 u16 u17 u18 u19 u20 u21 u22 u23 u24 u25 u26 u27 u28 u29 u30 u31 u32 u33 u34 u35 u36 u37 u38 u39 u40 u41 u42 u43 u44 u45 u46 u47 u48 u49 u50 u51 u52 u53 u54 u55 u56 u57 u58 u59 u60 u61 u62 u63 u64 u65 u66 u67 u68 u69 u70 u71 u72 u73 u74 u75 u76 u77 u78 u79 u80 u81 u82 u83 u84 u85 u86 u87 u88 u89 u90 u91 u92 u93 u94 u95 u96 u97 u98 u99 u100 u101 u102 u103 u104 u105 u106 u107 u108 u109 u110 u111 u112 u113 u114 u115 u116 u117 u118 u119 u120 u121 u122 u123 u124 u125 u126 u127 u128 u129 u130 u131 u132 u133 u134 u135 u136 u137 u138 u139 u140 u141 u142 u143 u144 u145 u146 u147 u148 u149 u150 u151 u152 u153 u154 : Value) : Fr s b v2 v6 v7 { tmps := #[.string s, undef, v2, u3, .pointer (some ⟨b, 0, none⟩), .pointer (some ⟨b + 1, 0, none⟩), v6, v7, u8, u9, u10, u11, u12, u13, u14, u15, u16, u17, u18, u19, u20, u21, u22, u23, u24, u25, u26, u27, u28, u29, u30, u31, u32, u33, u34, u35, u36, u37, u38, u39, u40, u41, u42, u43, u44, u45, u46, u47, u48, u49, u50, u51, u52, u53, u54, u55, u56, u57, u58, u59, u60, u61, u62, u63, u64, u65, u66, u67, u68, u69, u70, u71, u72, u73, u74, u75, u76, u77, u78, u79, u80, u81, u82, u83, u84, u85, u86, u87, u88, u89, u90, u91, u92, u93, u94, u95, u96, u97, u98, u99, u100, u101, u102, u103, u104, u105, u106, u107, u108, u109, u110, u111, u112, u113, u114, u115, u116, u117, u118, u119, u120, u121, u122, u123, u124, u125, u126, u127, u128, u129, u130, u131, u132, u133, u134, u135, u136, u137, u138, u139, u140, u141, u142, u143, u144, u145, u146, u147, u148, u149, u150, u151, u152, u153, u154], defers := [] }

/-- Which byte a label's state begins with. -/
def TokB (k c : Nat) : Prop := (k = 1 ∧ c = 35) ∨ (k = 2 ∧ smallB c = true) ∨ (k = 3 ∧ digitB c = true) ∨ (k = 4 ∧ c = 85) ∨ (k = 5 ∧ c = 39)

inductive JS (s : ByteArray) (b : Nat) (w0 : World) : Nat → Nat → Act → World → Prop where
  | between (p a0 f : Nat) (l : List Wd) (v2 v6 : Value) (ws : List Value) (a : Act) (W : World) (hf : Fr s b v2 v6 (.int .i64 p) a) (hs : St s b w0 W a0 p l v2 ws) (hfu : s.size - p ≤ f) (hl : lexGo s f p l = lexN s) : JS s b w0 0 (10 * (s.size - p) + 9) a W
  | token (k p a0 f : Nat) (l : List Wd) (v2 : Value) (a : Act) (W : World) (hf : Fr s b v2 (.int .i64 p) (.int .i64 p) a) (hs : St s b w0 W a0 p l v2 zeroW) (hp : p < s.size) (hk : TokB k (B s p)) (hfu : s.size - p ≤ f + 1) (hl : lexGo s (f + 1) p l = lexN s) : JS s b w0 k (10 * (s.size - p) + 8) a W
  | apart (p q a0 f : Nat) (l : List Wd) (v2 : Value) (wd : Wd) (a : Act) (W : World) (hf : Fr s b v2 (.int .i64 p) (.int .i64 q) a) (hs : St s b w0 W a0 p l v2 (wpart wd)) (hpq : p < q) (hq : q ≤ s.size) (hsg : Seg s p q) (hfr : wd.fr = p) (hen : wd.en = q) (hfu : s.size - q ≤ f)
      (hl : lexN s = if grownB (B s q) = true then (l, some q) else lexGo s f q (l ++ [wd])) : JS s b w0 7 (10 * (s.size - p) + 7) a W
  | done (p q a0 f : Nat) (l : List Wd) (v2 : Value) (wd : Wd) (a : Act) (W : World) (hf : Fr s b v2 (.int .i64 p) (.int .i64 q) a) (hs : St s b w0 W a0 p l v2 (wpart wd)) (hpq : p < q) (hq : q ≤ s.size) (hsg : Seg s p q) (hfr : wd.fr = p) (hen : wd.en = q) (hfu : s.size - q ≤ f)
      (hl : lexN s = lexGo s f q (l ++ [wd])) : JS s b w0 6 (10 * (s.size - p) + 6) a W

theorem list8 {l : List Value} (h : l.length = 8) : ∃ x0 x1 x2 x3 x4 x5 x6 x7, l = [x0, x1, x2, x3, x4, x5, x6, x7] := by
  match l, h with
  | [x0, x1, x2, x3, x4, x5, x6, x7], _ => exact ⟨x0, x1, x2, x3, x4, x5, x6, x7, rfl⟩


theorem St.lt {s : ByteArray} {b : Nat} {w0 W : World} {a0 p : Nat} {l : List Wd} {v2 : Value} {ws : List Value} (h : St s b w0 W a0 p l v2 ws) : b + 2 ≤ W.heap.size := by
  have := h.word.lt; omega
theorem St.later {s : ByteArray} {b : Nat} {w0 W W' : World} {a0 p : Nat} {l : List Wd} {v2 : Value} {ws : List Value} (h : St s b w0 W a0 p l v2 ws) (hB : Below W.heap.size W W') : St s b w0 W' a0 p l v2 ws :=
  { h with
    cur := h.cur.keep (Keep.of_below hB (fun _ => False)) (by simp)
    word := h.word.keep (Keep.of_below hB (fun _ => False)) (by simp)
    row := h.row.kept (row := none) ⟨hB.os, hB.tape, hB.output, hB.size, fun k hk _ => hB.block k hk⟩ (by cases v2.ownBlock <;> simp)
    below := h.below.trans (hB.mono (by have := h.lt; omega)) }
theorem St.setW {s : ByteArray} {b : Nat} {w0 W : World} {a0 p : Nat} {l : List Wd} {v2 : Value} {ws : List Value} (h : St s b w0 W a0 p l v2 ws) (i : Nat) (u : Value) : St s b w0 (W.setCell ⟨b + 1, i, none⟩ u) a0 p l v2 (ws.set i u) :=
  { h with
    cur := h.cur.other (by dsimp only; omega) _
    word := h.word.set i u
    wlen := by rw [List.length_set]; exact h.wlen
    row := ownsRow_setCell_below h.row (by dsimp only; omega) u
    below := h.below.setCell (by dsimp only; omega) u }
theorem St.of_eq {s : ByteArray} {b : Nat} {w0 W : World} {a0 p : Nat} {l : List Wd} {v2 : Value} {ws ws' : List Value} (h : St s b w0 W a0 p l v2 ws) (e : ws = ws') : St s b w0 W a0 p l v2 ws' := e ▸ h
theorem St.step {s : ByteArray} {b : Nat} {w0 W : World} {a0 p q : Nat} {l : List Wd} {v2 : Value} {ws : List Value} (h : St s b w0 W a0 p l v2 ws) (hs : Seg s p q) (hq : q ≤ s.size) : St s b w0 W a0 q l v2 ws :=
  { h with seg := h.seg.trans hs, len := Nat.le_trans h.len hs.le, ple := hq }
theorem St.zero {s : ByteArray} {b : Nat} {w0 W : World} {a0 p : Nat} {l : List Wd} {v2 : Value} {x0 x1 x2 x3 x4 x5 x6 x7 : Value} (h : St s b w0 W a0 p l v2 [x0, x1, x2, x3, x4, x5, x6, x7]) :
    St s b w0 ((((((((W.setCell ⟨b + 1, 0, none⟩ (.int .i64 0)).setCell ⟨b + 1, 1, none⟩ (.string { data := #[] })).setCell ⟨b + 1, 2, none⟩ (.int .i32 0)).setCell ⟨b + 1, 3, none⟩ (.int .i64 0)).setCell ⟨b + 1, 4, none⟩ (.int .i64 0)).setCell ⟨b + 1, 5, none⟩ (.int .i64 0)).setCell ⟨b + 1, 6, none⟩ (.int .i64 0)).setCell ⟨b + 1, 7, none⟩ (.int .i64 0)) a0 p l v2 zeroW :=
  ((((((((h.setW 0 (.int .i64 0)).setW 1 (.string { data := #[] })).setW 2 (.int .i32 0)).setW 3 (.int .i64 0)).setW 4 (.int .i64 0)).setW 5 (.int .i64 0)).setW 6 (.int .i64 0)).setW 7 (.int .i64 0)).of_eq rfl
theorem cells_new (W : World) (b : Nat) (hb : b = W.heap.size) (A : List Value) (T : TypeId) : ∀ j u, A[j]? = some u → (W.alloc (.cells A.toArray T)).cell? ((⟨b, 0, none⟩ : Addr).add j) = some u := by
  intro j u h
  have hadd : (⟨b, 0, none⟩ : Addr).add j = ⟨b, j, none⟩ := by unfold Addr.add; split <;> simp_all
  rw [hadd, hb, (Blk.new W A T).cell j, h]
theorem own_lt {W : World} {base : Nat} {e : TypeId} {size : Nat} {v : Value} {n : Nat} {xs : List Value} (h : W.ownsRow base e size v n xs) {k : Nat} (hk : k < base) : v.ownBlock ≠ some k := fun e => by
  have := (h.lt k e).1; omega
theorem St.turn {s : ByteArray} {b : Nat} {w0 W W2 : World} {a0 p L C : Nat} {l : List Wd} {v2 : Value} {ws : List Value} (h : St s b w0 W a0 p l v2 ws) (hc : Blk W2 b (Go.Proofs.YtpdaciljdcfikaaDoor.cur s p L C) 105) (hk : Keep (· = b) W W2) (e1 : L = (lcN s p 0 1 1).1) (e2 : C = (lcN s p 0 1 1).2) : St s b w0 W2 p p l v2 ws :=
  { h with
    cur := by rw [← e1, ← e2]; exact hc
    word := h.word.keep hk (by omega)
    row := h.row.kept (row := some b) ⟨hk.os, hk.tape, hk.output, hk.size, fun k h1 h2 => hk.block k h1 (fun e => h2 (by rw [e]))⟩ (Or.inr (own_lt h.row (by omega)))
    seg0 := h.seg0.trans h.seg
    seg := .nil p
    below := h.below.trans (hk.below (fun k h1 => ⟨by have := h.lt; omega, by omega⟩)) }
theorem St.next {s : ByteArray} {b : Nat} {w0 W W4 : World} {a0 p q : Nat} {l : List Wd} {v2 v' : Value} {ws : List Value} {wd : Wd} {o : Obj} (h : St s b w0 W a0 p l v2 ws) (hown : W4.ownsRow (b + 2) 41 8 v' (l.length + 1) (l.flatMap (wcells s) ++ wcells s wd)) (hg : (W.alloc o).grownBy W4 v2.ownBlock) (hpq : p < q) (hq : q ≤ s.size) (hs : Seg s p q) : St s b w0 W4 a0 q (l ++ [wd]) v' ws :=
  { cur := (h.cur.alloc o).keep (Keep.of_grown hg (S := fun k => v2.ownBlock = some k) (fun k e => e)) (own_lt h.row (by omega))
    word := (h.word.alloc o).keep (Keep.of_grown hg (S := fun k => v2.ownBlock = some k) (fun k e => e)) (own_lt h.row (by omega))
    wlen := h.wlen
    row := by rw [List.length_append, List.flatMap_append]; simpa using hown
    seg0 := h.seg0
    seg := h.seg.trans hs
    below := (h.below.alloc (by have := h.lt; omega) o).grown hg (by have := h.lt; simp; omega) (fun k e => by have := (h.row.lt k e).1; omega)
    len := by have := h.len; simp; omega
    ple := hq
    nil := fun e => by simp at e }
theorem St.tabs {s : ByteArray} {w W : World} {a0 p : Nat} {l : List Wd} {v2 : Value} {ws : List Value} (h : St s w.heap.size w W a0 p l v2 ws) (hT : Tabs w) : Tabs W := Utf8Tabs_below hT h.below

def dotsB (s : ByteArray) (p : Nat) : Bool := B s p == 46 && B s (p + 1) == 46
theorem dots_any (s : ByteArray) (p : Nat) (hp : p < s.size) (w : World) : Calls Tryd.prog 48 #[.string (s.extract p s.size), .string { data := #[46, 46] }] w fun e w' => e = .returned (.bool (dotsB s p)) ∧ w = w' :=
  (Tryd.strings_HasPrefix _ _ w).mono fun _ _ ⟨he, hw⟩ => ⟨by
    rw [he]
    refine ret_bool ?_
    rw [Bool.eq_iff_iff]
    show Lib.hasPrefix (s.extract p s.size).data.toList [46, 46] = true ↔ _
    rw [prefix2, B_tail _ _ _ (by omega), B_tail _ _ _ (by omega), Nat.add_zero]
    simp only [dotsB, Bool.and_eq_true, beq_iff_eq]
    constructor
    · rintro ⟨_, h1, h2⟩; exact ⟨h1, h2⟩
    · rintro ⟨h1, h2⟩
      refine ⟨?_, h1, h2⟩
      have : p + 1 < s.size := by
        by_cases c : p + 1 < s.size
        · exact c
        · rw [B_out (by omega)] at h2; omega
      simp; omega, hw.symm⟩
def signI (c : Nat) : Int := if signN c = 0 then -1 else signN c - 4
theorem signIdx : ∀ c : Nat, c < 256 → Lib.indexByte [123, 125, 59, 61, 43] (c : Int).toNat.toUInt8 = signI c := by
  have h : ∀ c : Fin 256, Lib.indexByte [123, 125, 59, 61, 43] ((c.1 : Nat) : Int).toNat.toUInt8 = signI c.1 := by decide +kernel
  exact fun c hc => h ⟨c, hc⟩
theorem sign_any (c : Nat) (hc : c < 256) (w : World) :
    Calls Tryd.prog 61 #[.string { data := #[123, 125, 59, 61, 43] }, .int .u8 c] w fun e w' => e = .returned (.int .i64 (signI c)) ∧ w = w' :=
  (Tryd.strings_IndexByte _ c w).mono fun _ _ ⟨he, hw⟩ => ⟨by rw [he, ← signIdx c hc], hw.symm⟩
theorem sign_val (c : Nat) : signN c = 0 ∨ (4 ≤ signN c ∧ signN c ≤ 8) := by
  unfold signN; repeat' split
  all_goals simp
theorem signI_pos {c : Nat} (h : 0 ≤ signI c) : ¬ signN c = 0 := by
  intro e; rw [signI, if_pos e] at h; omega
theorem signI_neg {c : Nat} (h : ¬ 0 ≤ signI c) : signN c = 0 := by
  by_cases e : signN c = 0
  · exact e
  · rw [signI, if_neg e] at h
    have := sign_val c; omega
theorem signI_eq {c : Nat} (h : ¬ signN c = 0) : 4 + signI c = signN c := by rw [signI, if_neg h]; omega
theorem signI_le (c : Nat) : signI c ≤ 4 ∧ -1 ≤ signI c := by
  have := sign_val c
  unfold signI; split <;> omega
theorem sign_lt {c : Nat} (h : ¬ signN c = 0) : c < 128 := by
  unfold signN at h; repeat' split at h
  all_goals first | omega | exact absurd rfl h
theorem seg_to {s : ByteArray} {a b : Nat} (h : a ≤ b) (hb : b ≤ s.size) (hc : ∀ i, a ≤ i → i < b → B s i < 128) : Seg s a b := ascii_seg (b - a) a b rfl h hb hc
theorem name_seg {s : ByteArray} {p : Nat} (hp : p < s.size) (h : smallB (B s p) = true) : Seg s p (nameN s p).1 := by
  obtain ⟨a, b, c⟩ := nameN_spec hp h
  exact seg_to (by omega) b fun i h1 h2 => by have := (nameB_iff _).1 (c i h1 h2); omega
theorem number_seg {s : ByteArray} {p : Nat} (hp : p < s.size) (h : digitB (B s p) = true) : Seg s p (numberN s p).2.1 := by
  obtain ⟨a, b, c⟩ := numberN_spec hp h
  exact seg_to (by omega) b fun i h1 h2 => by have := (digitB_iff _).1 (c i h1 h2); omega
theorem point_seg {s : ByteArray} {p : Nat} (hp : p < s.size) (h : B s p = 85) : Seg s p (pointN s p).2.1 := by
  obtain ⟨a, b, c⟩ := pointN_spec hp h
  exact seg_to (by omega) b c

def Post (s : ByteArray) (w : World) (e : Ending) (w' : World) : Prop :=
  (∃ l v, lexN s = (l, none) ∧ e = .returned (.tuple #[v, .int .i64 (-1)]) ∧ w'.ownsRow w.heap.size 41 8 v l.length (l.flatMap (wcells s)) ∧ l.length ≤ s.size ∧ (l = [] → v = .slice none 0 0) ∧ Below w.heap.size w w') ∨
  (∃ l q : _, lexN s = (l, some q) ∧ e = .returned (.tuple #[.slice none 0 0, .int .i64 (q : Nat)]) ∧ Below w.heap.size w w')

theorem Less.mk {J : Nat → Nat → Act → World → Prop} {n l : Nat} {a : Act} {w : World} (n' : Nat) (h : n' < n) (hJ : J l n' a w) : Less J n l a w := ⟨n', h, hJ⟩
theorem anyJ {J : Nat → Nat → Act → World → Prop} {l : Nat} {a : Act} {w : World} (n' : Nat) (hJ : J l n' a w) : ∃ n, J l n a w := ⟨n', hJ⟩
theorem owns_mono {W : World} {base b : Nat} {e : TypeId} {size : Nat} {v : Value} {n : Nat} {xs : List Value} (h : W.ownsRow base e size v n xs) (hb : b ≤ base) : W.ownsRow b e size v n xs := by
  obtain ⟨h1, h2⟩ := h
  refine ⟨h1, ?_⟩
  rcases h2 with h2 | ⟨g, cap, cur, hv, hg, r⟩
  · exact Or.inl h2
  · exact Or.inr ⟨g, cap, cur, hv, Nat.le_trans hb hg, r⟩
theorem St.first (s : ByteArray) (w : World) : St s w.heap.size w ((w.alloc (.cells #[.string s, .int .i64 0, .int .i64 1, .int .i64 1] 105)).alloc (.cells #[.int .i64 0, .string { data := #[] }, .int .i32 0, .int .i64 0, .int .i64 0, .int .i64 0, .int .i64 0, .int .i64 0] 41)) 0 0 [] (.slice none 0 0) zeroW :=
  { cur := ((Blk.new w [.string s, .int .i64 0, .int .i64 1, .int .i64 1] _).alloc _).of_eq (by rw [lcN_end s 0 0 1 1 (Nat.le_refl _)]; rfl)
    word := by
      have := Blk.new (w.alloc (.cells #[.string s, .int .i64 0, .int .i64 1, .int .i64 1] 105)) zeroW 41
      simpa [zeroW] using this
    wlen := rfl
    row := World.ownsRow_nil _ _ _ _
    seg0 := .nil 0
    seg := .nil 0
    below := ((Below.refl _ w).alloc (Nat.le_refl _) _).alloc (by simp) _
    len := Nat.le_refl _
    ple := Nat.zero_le _
    nil := fun _ => rfl }
theorem info_Word : (Tryd.prog.info? 41).map (fun i => (i.zero, i.size, i.bytes)) = some (some (.agg #[.int .i64 0, .string ⟨#[]⟩, .int .i32 0, .int .i64 0, .int .i64 0, .int .i64 0, .int .i64 0, .int .i64 0]), 8, 72) := by kernel_rfl
end Go.Proofs.YtpdaciljdcfikaaDoor
