/- script.Level, walked. Printed by gen_level14.py. -/
import Derived.Test.YtioehfhdoohdmaaGreatDoorScrA
set_option linter.unusedVariables false
set_option linter.unusedSimpArgs false
namespace Go.Proofs.YtioehfhdoohdmaaGreatDoor
open Go.RowKit Go.Shelf
attribute [local go_sem] Oper.semAt_some
def lowR (s : ByteArray) (x : Pl s) : Bool := decide (spR s x < 128)
def fitR (T : Tab) (s : ByteArray) (x : Pl s) : Bool := freeR T (spR s x) (spB s x) || decide (0 < ((bdL T (spR s x) (spB s x)).length : Int))
def levelN (T : Tab) (s : ByteArray) : Int := if (places s).all (lowR s) then 1 else if !(stopN T s).isSome then 2 else if (places s).all (fitR T s) then 3 else 4
structure LvSt (w : World) (b2 b7 b8 nb bb : Nat) (s : ByteArray) (a c : Bool) (W : World) : Prop where
 B : Below w.heap.size w W
 k2 : Blk W b2 [.pointer (some ⟨bb, 0, none⟩)] 29
 k7 : Blk W b7 [.bool a] 4
 k8 : Blk W b8 [.bool c] 4
 kn : Blk W nb [.string s] 9
theorem LvSt.below {w : World} {b2 b7 b8 nb bb : Nat} {s : ByteArray} {a c : Bool} {W W' : World} (h : LvSt w b2 b7 b8 nb bb s a c W) (hB : Below W.heap.size W W') : LvSt w b2 b7 b8 nb bb s a c W' :=
 ⟨h.B.trans (hB.mono h.B.size), h.k2.keep (Keep.of_below hB (fun _ => False)) (by simp), h.k7.keep (Keep.of_below hB (fun _ => False)) (by simp), h.k8.keep (Keep.of_below hB (fun _ => False)) (by simp), h.kn.keep (Keep.of_below hB (fun _ => False)) (by simp)⟩
theorem LvSt.own {w : World} (b2 b7 b8 nb bb : Nat) (s : ByteArray) {BB : Nat} (hw : w.heap.size ≤ BB) {β : Type} (f g : β → Bool) : OwnFrom BB (fun (x : β) W => LvSt w b2 b7 b8 nb bb s (f x) (g x) W) := fun x W W' row h hg hr =>
 ⟨h.B.grown hg h.B.size (fun k e => Nat.le_trans hw (hr k e).1), grown_blk h.k2 hg (fun r e => (hr r e).2), grown_blk h.k7 hg (fun r e => (hr r e).2), grown_blk h.k8 hg (fun r e => (hr r e).2), grown_blk h.kn hg (fun r e => (hr r e).2)⟩
theorem LvSt.set7 {w : World} {b2 b7 b8 nb bb : Nat} {s : ByteArray} {a c : Bool} {W : World} (h : LvSt w b2 b7 b8 nb bb s a c W) (h2 : b2 ≠ b7) (h8 : b8 ≠ b7) (hn : nb ≠ b7) (hw : w.heap.size ≤ b7) (a' : Bool) : LvSt w b2 b7 b8 nb bb s a' c (W.setCell ⟨b7, 0, none⟩ (.bool a')) :=
 ⟨h.B.setCell (by exact hw) _, h.k2.other (by exact h2) _, h.k7.set 0 _, h.k8.other (by exact h8) _, h.kn.other (by exact hn) _⟩
theorem LvSt.set8 {w : World} {b2 b7 b8 nb bb : Nat} {s : ByteArray} {a c : Bool} {W : World} (h : LvSt w b2 b7 b8 nb bb s a c W) (h2 : b2 ≠ b8) (h7 : b7 ≠ b8) (hn : nb ≠ b8) (hw : w.heap.size ≤ b8) (c' : Bool) : LvSt w b2 b7 b8 nb bb s a c' (W.setCell ⟨b8, 0, none⟩ (.bool c')) :=
 ⟨h.B.setCell (by exact hw) _, h.k2.other (by exact h2) _, h.k7.other (by exact h7) _, h.k8.set 0 _, h.kn.other (by exact hn) _⟩
def LevelPost (w : World) (v : Int) (e : Ending) (w' : World) : Prop := e = .returned (.int .i64 v) ∧ Below w.heap.size w w'
set_option maxRecDepth 100000 in
set_option maxHeartbeats 8000000 in
theorem slevel_any (T : Tab) (bb : Nat) (Bk : BAddr) (s : ByteArray) (w : World) (h : BookAt w bb Bk T) (hf : TabFit T) (hs : s.size ≤ 1048576) : Calls Tryz.prog 23 #[.pointer (some ⟨bb, 0, none⟩), .string s] w (LevelPost w (levelN T s)) := by
 refine (callsIn_wide (n := 5)).1 ?_
 obtain ⟨V1, hV1⟩ : ∃ V, w.alloc (.cells #[.pointer (some ⟨bb, 0, none⟩)] 29) = V := ⟨_, rfl⟩
 have s1 : V1.heap.size = w.heap.size + 1 := by rw [← hV1]; simp
 have B1 : Below w.heap.size w V1 := by rw [← hV1]; exact (Below.refl _ _).alloc (Nat.le_refl _) _
 have k0 : Blk V1 w.heap.size [.pointer (some ⟨bb, 0, none⟩)] 29 := by rw [← hV1]; exact Blk.new' w #[.pointer (some ⟨bb, 0, none⟩)] 29
 have HStop := Lib.hid (sstop_any T bb Bk s V1 (h.below B1) hf hs)
 have HE := Lib.hid B1
 have HK0 := Lib.hid k0
 have HS1 := Lib.hid s1
 have HBk := Lib.hid h
 have HF := Lib.hid hf
 have HV1 := Lib.hid hV1
 clear h hf B1 k0 s1 hV1
 have HLev : Hid (levelN T s = if (places s).all (lowR s) then 1 else if !(stopN T s).isSome then 2 else if (places s).all (fitR T s) then 3 else 4) := Lib.hid rfl
 obtain ⟨sv, hsv⟩ : ∃ v, stopN T s = v := ⟨_, rfl⟩
 have hst := HStop.out
 unfold StopPost stopV at hst
 rw [hsv] at hst HLev
 have HSt := Lib.hid hst
 clear hst hsv HStop
 obtain ⟨LV, hLV⟩ : ∃ v, levelN T s = v := ⟨_, rfl⟩
 rw [hLV] at HLev ⊢
 clear hLV
 refine callsIn_of_wp_marks Tryz.func23 rfl trivial ?_ rfl
 simp only [Tryz.ntmps23, List.size_toArray, List.length_cons, List.length_nil, Nat.reduceAdd, Nat.reduceSub, Array.replicate_succ, Array.replicate_zero, List.push_toArray, List.append_toArray, List.nil_append, List.cons_append]
 gi_wp2_with fail
 rw [HV1.out]
 refine ⟨trivial, ?_⟩
 gi_at_call 19
 refine (callsIn_wide.2 HSt.out).mono ?_
 rintro e w1 ⟨rfl, hB1⟩
 have HB1 := Lib.hid hB1
 clear hB1 HSt
 obtain ⟨pa, pb, hpab⟩ : ∃ a b : Nat, sv.getD (0, 0) = (a, b) := ⟨_, _, rfl⟩
 rw [hpab]
 clear hpab
 obtain ⟨mx, hmx⟩ : ∃ b, sv.isSome = b := ⟨_, rfl⟩
 rw [hmx] at HLev ⊢
 clear hmx
 dsimp only
 gi_wp2_with (refine ⟨trivial, ?_⟩; gi_at_call 50; refine (callsIn_wide.2 (spots_any s _)).mono ?_; rintro e w' ⟨rfl, rfl⟩)
 have hz1 : w.heap.size + 1 ≤ w1.heap.size := by have h1 := HB1.out.size; have h2 := HS1.out; omega
 have hB3 : Below w1.heap.size w1 ((((w1.alloc (.cells #[.int .i64 pa, .int .i64 pb] 46)).alloc (.cells #[.bool true] 4)).alloc (.cells #[.bool true] 4)).alloc (.cells #[.string s] 9)) := ((((Below.refl _ w1).alloc (Nat.le_refl _) _).alloc (by simp) _).alloc (by simp; omega) _).alloc (by simp; omega) _
 have k7 := ((Blk.new' (w1.alloc (.cells #[.int .i64 pa, .int .i64 pb] 46)) #[.bool true] 4).alloc (.cells #[.bool true] 4)).alloc (.cells #[.string s] 9)
 have k8 := (Blk.new' ((w1.alloc (.cells #[.int .i64 pa, .int .i64 pb] 46)).alloc (.cells #[.bool true] 4)) #[.bool true] 4).alloc (.cells #[.string s] 9)
 have kn := Blk.new' (((w1.alloc (.cells #[.int .i64 pa, .int .i64 pb] 46)).alloc (.cells #[.bool true] 4)).alloc (.cells #[.bool true] 4)) #[.string s] 9
 simp only [World.size_alloc, Nat.add_assoc, Nat.reduceAdd] at k7 k8 kn
 have hsz : ((((w1.alloc (.cells #[.int .i64 pa, .int .i64 pb] 46)).alloc (.cells #[.bool true] 4)).alloc (.cells #[.bool true] 4)).alloc (.cells #[.string s] 9)).heap.size = w1.heap.size + 4 := by simp
 simp only [Nat.add_assoc, Nat.reduceAdd]
 generalize hW3 : ((((w1.alloc (.cells #[.int .i64 pa, .int .i64 pb] 46)).alloc (.cells #[.bool true] 4)).alloc (.cells #[.bool true] 4)).alloc (.cells #[.string s] 9)) = W3 at *
 have hst : LvSt w w.heap.size (w1.heap.size + 1) (w1.heap.size + 2) (w1.heap.size + 3) bb s true true W3 := ⟨HE.out.trans ((HB1.out.trans (hB3.mono HB1.out.size)).mono HE.out.size), HK0.out.keep (Keep.of_below (HB1.out.trans (hB3.mono HB1.out.size)) (fun _ => False)) (by simp), k7, k8, kn⟩
 clear hW3 k7 k8 kn hB3
 refine wpIn_rangeFunc_ownH rfl (by omega) (gf := 84) (lb := #[.pointer (some ⟨w1.heap.size + 3, 0, none⟩)]) rfl trivial (enters_of Tryz.func84 (by kernel_rfl) rfl)
  (spots_stops 4 (by omega) (w1.heap.size + 3) s (by omega) W3 (hst.kn.cell 0)) kps_t (fun W l o o' _ h hc hw => kps_b W l o o' h hc hw) (Below.refl _ _) (fun _ => rfl)
  (fun pre W => LvSt w w.heap.size (w1.heap.size + 1) (w1.heap.size + 2) (w1.heap.size + 3) bb s (pre.all (lowR s)) (pre.all (fitR T s)) W) NoX
  (LvSt.own _ _ _ _ _ s (by omega) (fun pre : List (Pl s) => pre.all (lowR s)) (fun pre : List (Pl s) => pre.all (fitR T s))) (fun c s W W' row h _ _ => h.elim) hst
  (fun x a' W => ∃ Bx, w1.heap.size + 3 < Bx ∧ Blk W Bx [.int .i32 (Utf8.decode s x.1).1, .int .i64 (Utf8.decode s x.1).2, .bool (!goodAt s x.1)] 77 ∧ a' = { tmps := #[Value.pointer (some { block := bb, off := 0 }), Value.string s, Value.pointer (some { block := w.heap.size, off := 0 }), undef, Value.int IntKind.i64 0, Value.pointer (some { block := w1.heap.size, off := 0 }), Value.bool mx, Value.pointer (some { block := w1.heap.size + 1, off := 0 }), Value.pointer (some { block := w1.heap.size + 2, off := 0 }), undef, Value.pointer (some { block := Bx, off := 0 }), undef, undef, Value.pointer (some { block := bb, off := 0 }), Value.bool false, Value.tuple #[Value.agg #[Value.int IntKind.i64 pa, Value.int IntKind.i64 pb], Value.bool mx], Value.pointer (some { block := bb, off := 0 }), Value.string s, Value.tuple #[Value.agg #[Value.int IntKind.i64 pa, Value.int IntKind.i64 pb], Value.bool mx], Value.agg #[Value.int IntKind.i64 pa, Value.int IntKind.i64 pb], Value.bool mx, Value.string s, Value.func (Fn.func 84) #[] #[Value.pointer (some { block := w1.heap.size + 3, off := 0 })], Value.int IntKind.i64 x.1, .agg #[.int .i32 (Utf8.decode s x.1).1, .int .i64 (Utf8.decode s x.1).2, .bool (!goodAt s x.1)], undef, undef, undef, undef, undef, undef, undef, undef, undef, undef, undef, undef, undef, undef, undef, undef, undef, undef, undef, undef, undef, undef, undef, undef, undef, undef, undef, undef, undef], defers := [] })
  (fun x a' _ X Y row hs hg hr => by obtain ⟨Bx, h1, h2, h3⟩ := hs; exact ⟨Bx, h1, grown_blk h2 hg (fun r e => (hr r e).2), h3⟩)
  ?assign ?body ?done ?stop
 case assign =>
  rintro l pre x W K hI hK
  unfold encS
  gi_wp2
  have hA : Below W.heap.size W (W.alloc (.cells #[.int .i32 (Utf8.decode s x.1).1, .int .i64 (Utf8.decode s x.1).2, .bool (!goodAt s x.1)] 77)) := (Below.refl _ _).alloc (Nat.le_refl _) _
  exact hK _ _ ((ko_below hA).from _) (kps_below hA) (hI.below hA) ⟨W.heap.size, by have := hI.kn.lt; omega, Blk.new W _ _, rfl⟩
 case body =>
  rintro l pre x a' W hl ⟨r, hr⟩ hI ⟨Bx, hBx, bX, rfl⟩ hlt
  have hrb := dec_rune s x.1
  have HBd : Hid (∀ U, Below w.heap.size w U → BoundPost U T (spR s x) (spB s x) = BoundPost U T (spR s x) (spB s x) → Calls Tryz.prog 51 #[.pointer (some ⟨bb, 0, none⟩), .agg #[.int .i32 (spR s x), .int .i64 ((Utf8.decode s x.1).2 : Nat), .bool (spB s x)]] U (BoundPost U T (spR s x) (spB s x))) := Lib.hid (fun U hU _ => bound_any T bb Bk (spR s x) (by unfold spR I32; omega) ((Utf8.decode s x.1).2 : Nat) (spB s x) U (HBk.out.below hU) HF.out)
  have HA1 : Hid ((pre ++ [x]).all (lowR s) = (pre.all (lowR s) && decide (spR s x < 128))) := Lib.hid (by rw [List.all_append]; simp [lowR])
  have HA2 : Hid ((pre ++ [x]).all (fitR T s) = (pre.all (fitR T s) && (freeR T (spR s x) (spB s x) || decide (0 < ((bdL T (spR s x) (spB s x)).length : Int))))) := Lib.hid (by rw [List.all_append]; simp [fitR])
  obtain ⟨av, hav⟩ : ∃ b, pre.all (lowR s) = b := ⟨_, rfl⟩
  obtain ⟨cv, hcv⟩ : ∃ b, pre.all (fitR T s) = b := ⟨_, rfl⟩
  rw [hav, hcv] at hI
  rw [hav] at HA1
  rw [hcv] at HA2
  clear hav hcv
  have HI := Lib.hid hI
  have HX := Lib.hid bX
  have c2 := hI.k2.cell 0
  have c7 := hI.k7.cell 0
  have f7 := hI.k7.frozen 0
  have x0 := bX.cell 0
  dsimp only [List.getElem?_cons_zero, List.getElem?_cons_succ] at c2 c7 x0
  have HRR : Hid (((Utf8.decode s x.1).1 : Int) = spR s x) := Lib.hid rfl
  have HBB : Hid ((!goodAt s x.1) = spB s x) := Lib.hid rfl
  rw [HRR.out] at x0 HX ⊢
  rw [HBB.out] at HX ⊢
  generalize (Utf8.decode s x.1).2 = K at *
  clear hI bX HRR HBB hrb hst
  obtain ⟨D, hD⟩ : ∃ D, bdL T (spR s x) (spB s x) = D := ⟨_, rfl⟩
  obtain ⟨fr, hfr⟩ : ∃ b, freeR T (spR s x) (spB s x) = b := ⟨_, rfl⟩
  have HBd2 : Hid (∀ U, Below w.heap.size w U → Calls Tryz.prog 51 #[.pointer (some ⟨bb, 0, none⟩), .agg #[.int .i32 (spR s x), .int .i64 K, .bool (spB s x)]] U (fun e w' => ∃ (o : Option Addr) (c : Nat), e = .returned (.tuple #[.slice o D.length c, .bool (!fr)]) ∧ Below U.heap.size U w')) := Lib.hid (fun U hU => (HBd.out U hU rfl).mono (fun e w' hh => by
   unfold BoundPost at hh
   rw [hD, hfr] at hh
   obtain ⟨o, c, h1, _, _, h4⟩ := hh
   exact ⟨o, c, h1, h4⟩))
  rw [hD, hfr] at HA2
  clear HBd hD hfr
  generalize spR s x = R at *
  generalize spB s x = bad at *
  cases av with
  | false =>
   gi_upto_region 8 with fail
   have hs7 := HI.out.set7 (by omega) (by omega) (by omega) (by omega) false
   have hX1 := HX.out.other (p := ⟨w1.heap.size + 1, 0, none⟩) (by simp; omega) (.bool false)
   have HKp : Hid (KeepsOthers W (W.setCell ⟨w1.heap.size + 1, 0, none⟩ (.bool false)) ∧ KpS (w1.heap.size + 3) s W (W.setCell ⟨w1.heap.size + 1, 0, none⟩ (.bool false))) := Lib.hid ⟨KeepsOthers.setCell _ _ _, kps_set _ (by simp)⟩
   generalize W.setCell ⟨w1.heap.size + 1, 0, none⟩ (.bool false) = W1 at *
   have c2 := hs7.k2.cell 0
   have x0 := hX1.cell 0
   have x1 := hX1.cell 1
   have x2 := hX1.cell 2
   dsimp only [List.getElem?_cons_zero, List.getElem?_cons_succ] at c2 x0 x1 x2
   have HS7 := Lib.hid hs7
   clear hs7 hX1 c7 f7
   gi_wp2_with fail
   refine ⟨trivial, ?_⟩
   gi_at_call 51
   refine (callsIn_wide.2 (HBd2.out W1 HS7.out.B)).mono ?_
   rintro e W2 ⟨o, d, rfl, hB⟩
   have hs8 := HS7.out.below hB
   have HB2 := Lib.hid hB
   have c8 := hs8.k8.cell 0
   have f8 := hs8.k8.frozen 0
   dsimp only [List.getElem?_cons_zero] at c8
   have HS8 := Lib.hid hs8
   clear hs8 hB c2 x0 x1 x2 HBd2
   cases cv with
   | false =>
    gi_wp2
    any_goals (exact absurd ‹some undef = some (Value.bool _)› (by simp [undef]))
    refine ⟨((HKp.out.1.trans (ko_below HB2.out)).trans (KeepsOthers.setCell _ _ _)).from _, kps_t (kps_t HKp.out.2 (kps_below HB2.out)) (kps_set _ (by simp)), ?_⟩
    show LvSt w w.heap.size (w1.heap.size + 1) (w1.heap.size + 2) (w1.heap.size + 3) bb s ((pre ++ [x]).all (lowR s)) ((pre ++ [x]).all (fitR T s)) _
    rw [HA1.out, HA2.out]
    exact HS8.out.set8 (by omega) (by omega) (by omega) (by omega) false
   | true =>
    cases fr with
    | true =>
     gi_wp2
     refine ⟨((HKp.out.1.trans (ko_below HB2.out)).trans (KeepsOthers.setCell _ _ _)).from _, kps_t (kps_t HKp.out.2 (kps_below HB2.out)) (kps_set _ (by simp)), ?_⟩
     show LvSt w w.heap.size (w1.heap.size + 1) (w1.heap.size + 2) (w1.heap.size + 3) bb s ((pre ++ [x]).all (lowR s)) ((pre ++ [x]).all (fitR T s)) _
     rw [HA1.out, HA2.out]
     exact HS8.out.set8 (by omega) (by omega) (by omega) (by omega) true
    | false =>
     obtain ⟨dl, hdl⟩ : ∃ n, D.length = n := ⟨_, rfl⟩
     rw [hdl] at HA2 ⊢
     clear hdl
     by_cases hz : 0 < dl
     ·have hlen : decide (0 < (dl : Int)) = true := by simp; omega
      gi_wp2
      refine ⟨((HKp.out.1.trans (ko_below HB2.out)).trans (KeepsOthers.setCell _ _ _)).from _, kps_t (kps_t HKp.out.2 (kps_below HB2.out)) (kps_set _ (by simp)), ?_⟩
      show LvSt w w.heap.size (w1.heap.size + 1) (w1.heap.size + 2) (w1.heap.size + 3) bb s ((pre ++ [x]).all (lowR s)) ((pre ++ [x]).all (fitR T s)) _
      rw [HA1.out, HA2.out, hlen]
      exact HS8.out.set8 (by omega) (by omega) (by omega) (by omega) true
     ·obtain rfl : dl = 0 := by omega
      have hlen : decide (0 < ((0 : Nat) : Int)) = false := rfl
      gi_wp2
      refine ⟨((HKp.out.1.trans (ko_below HB2.out)).trans (KeepsOthers.setCell _ _ _)).from _, kps_t (kps_t HKp.out.2 (kps_below HB2.out)) (kps_set _ (by simp)), ?_⟩
      show LvSt w w.heap.size (w1.heap.size + 1) (w1.heap.size + 2) (w1.heap.size + 3) bb s ((pre ++ [x]).all (lowR s)) ((pre ++ [x]).all (fitR T s)) _
      rw [HA1.out, HA2.out, hlen]
      exact HS8.out.set8 (by omega) (by omega) (by omega) (by omega) false
  | true =>
   cases hr128 : decide (R < 128) with
   | true =>
    rw [hr128] at HA1
    gi_upto_region 8 with fail
    have hs7 := HI.out.set7 (by omega) (by omega) (by omega) (by omega) true
    have hX1 := HX.out.other (p := ⟨w1.heap.size + 1, 0, none⟩) (by simp; omega) (.bool true)
    have HKp : Hid (KeepsOthers W (W.setCell ⟨w1.heap.size + 1, 0, none⟩ (.bool true)) ∧ KpS (w1.heap.size + 3) s W (W.setCell ⟨w1.heap.size + 1, 0, none⟩ (.bool true))) := Lib.hid ⟨KeepsOthers.setCell _ _ _, kps_set _ (by simp)⟩
    generalize W.setCell ⟨w1.heap.size + 1, 0, none⟩ (.bool true) = W1 at *
    have c2 := hs7.k2.cell 0
    have x0 := hX1.cell 0
    have x1 := hX1.cell 1
    have x2 := hX1.cell 2
    dsimp only [List.getElem?_cons_zero, List.getElem?_cons_succ] at c2 x0 x1 x2
    have HS7 := Lib.hid hs7
    clear hs7 hX1 c7 f7
    gi_wp2_with fail
    refine ⟨trivial, ?_⟩
    gi_at_call 51
    refine (callsIn_wide.2 (HBd2.out W1 HS7.out.B)).mono ?_
    rintro e W2 ⟨o, d, rfl, hB⟩
    have hs8 := HS7.out.below hB
    have HB2 := Lib.hid hB
    have c8 := hs8.k8.cell 0
    have f8 := hs8.k8.frozen 0
    dsimp only [List.getElem?_cons_zero] at c8
    have HS8 := Lib.hid hs8
    clear hs8 hB c2 x0 x1 x2 HBd2
    cases cv with
    | false =>
     gi_wp2
     any_goals (exact absurd ‹some undef = some (Value.bool _)› (by simp [undef]))
     refine ⟨((HKp.out.1.trans (ko_below HB2.out)).trans (KeepsOthers.setCell _ _ _)).from _, kps_t (kps_t HKp.out.2 (kps_below HB2.out)) (kps_set _ (by simp)), ?_⟩
     show LvSt w w.heap.size (w1.heap.size + 1) (w1.heap.size + 2) (w1.heap.size + 3) bb s ((pre ++ [x]).all (lowR s)) ((pre ++ [x]).all (fitR T s)) _
     rw [HA1.out, HA2.out]
     exact HS8.out.set8 (by omega) (by omega) (by omega) (by omega) false
    | true =>
     cases fr with
     | true =>
      gi_wp2
      refine ⟨((HKp.out.1.trans (ko_below HB2.out)).trans (KeepsOthers.setCell _ _ _)).from _, kps_t (kps_t HKp.out.2 (kps_below HB2.out)) (kps_set _ (by simp)), ?_⟩
      show LvSt w w.heap.size (w1.heap.size + 1) (w1.heap.size + 2) (w1.heap.size + 3) bb s ((pre ++ [x]).all (lowR s)) ((pre ++ [x]).all (fitR T s)) _
      rw [HA1.out, HA2.out]
      exact HS8.out.set8 (by omega) (by omega) (by omega) (by omega) true
     | false =>
      obtain ⟨dl, hdl⟩ : ∃ n, D.length = n := ⟨_, rfl⟩
      rw [hdl] at HA2 ⊢
      clear hdl
      by_cases hz : 0 < dl
      ·have hlen : decide (0 < (dl : Int)) = true := by simp; omega
       gi_wp2
       refine ⟨((HKp.out.1.trans (ko_below HB2.out)).trans (KeepsOthers.setCell _ _ _)).from _, kps_t (kps_t HKp.out.2 (kps_below HB2.out)) (kps_set _ (by simp)), ?_⟩
       show LvSt w w.heap.size (w1.heap.size + 1) (w1.heap.size + 2) (w1.heap.size + 3) bb s ((pre ++ [x]).all (lowR s)) ((pre ++ [x]).all (fitR T s)) _
       rw [HA1.out, HA2.out, hlen]
       exact HS8.out.set8 (by omega) (by omega) (by omega) (by omega) true
      ·obtain rfl : dl = 0 := by omega
       have hlen : decide (0 < ((0 : Nat) : Int)) = false := rfl
       gi_wp2
       refine ⟨((HKp.out.1.trans (ko_below HB2.out)).trans (KeepsOthers.setCell _ _ _)).from _, kps_t (kps_t HKp.out.2 (kps_below HB2.out)) (kps_set _ (by simp)), ?_⟩
       show LvSt w w.heap.size (w1.heap.size + 1) (w1.heap.size + 2) (w1.heap.size + 3) bb s ((pre ++ [x]).all (lowR s)) ((pre ++ [x]).all (fitR T s)) _
       rw [HA1.out, HA2.out, hlen]
       exact HS8.out.set8 (by omega) (by omega) (by omega) (by omega) false
   | false =>
    rw [hr128] at HA1
    gi_upto_region 8 with fail
    have hs7 := HI.out.set7 (by omega) (by omega) (by omega) (by omega) false
    have hX1 := HX.out.other (p := ⟨w1.heap.size + 1, 0, none⟩) (by simp; omega) (.bool false)
    have HKp : Hid (KeepsOthers W (W.setCell ⟨w1.heap.size + 1, 0, none⟩ (.bool false)) ∧ KpS (w1.heap.size + 3) s W (W.setCell ⟨w1.heap.size + 1, 0, none⟩ (.bool false))) := Lib.hid ⟨KeepsOthers.setCell _ _ _, kps_set _ (by simp)⟩
    generalize W.setCell ⟨w1.heap.size + 1, 0, none⟩ (.bool false) = W1 at *
    have c2 := hs7.k2.cell 0
    have x0 := hX1.cell 0
    have x1 := hX1.cell 1
    have x2 := hX1.cell 2
    dsimp only [List.getElem?_cons_zero, List.getElem?_cons_succ] at c2 x0 x1 x2
    have HS7 := Lib.hid hs7
    clear hs7 hX1 c7 f7
    gi_wp2_with fail
    refine ⟨trivial, ?_⟩
    gi_at_call 51
    refine (callsIn_wide.2 (HBd2.out W1 HS7.out.B)).mono ?_
    rintro e W2 ⟨o, d, rfl, hB⟩
    have hs8 := HS7.out.below hB
    have HB2 := Lib.hid hB
    have c8 := hs8.k8.cell 0
    have f8 := hs8.k8.frozen 0
    dsimp only [List.getElem?_cons_zero] at c8
    have HS8 := Lib.hid hs8
    clear hs8 hB c2 x0 x1 x2 HBd2
    cases cv with
    | false =>
     gi_wp2
     any_goals (exact absurd ‹some undef = some (Value.bool _)› (by simp [undef]))
     refine ⟨((HKp.out.1.trans (ko_below HB2.out)).trans (KeepsOthers.setCell _ _ _)).from _, kps_t (kps_t HKp.out.2 (kps_below HB2.out)) (kps_set _ (by simp)), ?_⟩
     show LvSt w w.heap.size (w1.heap.size + 1) (w1.heap.size + 2) (w1.heap.size + 3) bb s ((pre ++ [x]).all (lowR s)) ((pre ++ [x]).all (fitR T s)) _
     rw [HA1.out, HA2.out]
     exact HS8.out.set8 (by omega) (by omega) (by omega) (by omega) false
    | true =>
     cases fr with
     | true =>
      gi_wp2
      refine ⟨((HKp.out.1.trans (ko_below HB2.out)).trans (KeepsOthers.setCell _ _ _)).from _, kps_t (kps_t HKp.out.2 (kps_below HB2.out)) (kps_set _ (by simp)), ?_⟩
      show LvSt w w.heap.size (w1.heap.size + 1) (w1.heap.size + 2) (w1.heap.size + 3) bb s ((pre ++ [x]).all (lowR s)) ((pre ++ [x]).all (fitR T s)) _
      rw [HA1.out, HA2.out]
      exact HS8.out.set8 (by omega) (by omega) (by omega) (by omega) true
     | false =>
      obtain ⟨dl, hdl⟩ : ∃ n, D.length = n := ⟨_, rfl⟩
      rw [hdl] at HA2 ⊢
      clear hdl
      by_cases hz : 0 < dl
      ·have hlen : decide (0 < (dl : Int)) = true := by simp; omega
       gi_wp2
       refine ⟨((HKp.out.1.trans (ko_below HB2.out)).trans (KeepsOthers.setCell _ _ _)).from _, kps_t (kps_t HKp.out.2 (kps_below HB2.out)) (kps_set _ (by simp)), ?_⟩
       show LvSt w w.heap.size (w1.heap.size + 1) (w1.heap.size + 2) (w1.heap.size + 3) bb s ((pre ++ [x]).all (lowR s)) ((pre ++ [x]).all (fitR T s)) _
       rw [HA1.out, HA2.out, hlen]
       exact HS8.out.set8 (by omega) (by omega) (by omega) (by omega) true
      ·obtain rfl : dl = 0 := by omega
       have hlen : decide (0 < ((0 : Nat) : Int)) = false := rfl
       gi_wp2
       refine ⟨((HKp.out.1.trans (ko_below HB2.out)).trans (KeepsOthers.setCell _ _ _)).from _, kps_t (kps_t HKp.out.2 (kps_below HB2.out)) (kps_set _ (by simp)), ?_⟩
       show LvSt w w.heap.size (w1.heap.size + 1) (w1.heap.size + 2) (w1.heap.size + 3) bb s ((pre ++ [x]).all (lowR s)) ((pre ++ [x]).all (fitR T s)) _
       rw [HA1.out, HA2.out, hlen]
       exact HS8.out.set8 (by omega) (by omega) (by omega) (by omega) false
 case done =>
  rintro D zs W hD rfl hI hK
  have HI := Lib.hid hI
  have c7 := hI.k7.cell 0
  have c8 := hI.k8.cell 0
  dsimp only [List.getElem?_cons_zero] at c7 c8
  clear hI hst
  generalize (places s).all (lowR s) = av at *
  generalize (places s).all (fitR T s) = cv at *
  cases av with
  | true =>
   have HV : Hid (LV = 1) := Lib.hid HLev.out
   gi_wp2
   refine ⟨by simp, .inl ⟨_, _, rfl, run_takeDeferred hK, ?_⟩⟩
   refine ⟨.int .i64 1, ?_, by rw [HV.out], HI.out.B.trans (belowK_b (w := w) (Nat.le_refl _) _ D _ _ (by omega) hK rfl rfl)⟩
   simp [results, Tryz.results23, go_sem]
  | false =>
   cases mx with
   | false =>
    have HV : Hid (LV = 2) := Lib.hid HLev.out
    gi_wp2
    refine ⟨by simp, .inl ⟨_, _, rfl, run_takeDeferred hK, ?_⟩⟩
    refine ⟨.int .i64 2, ?_, by rw [HV.out], HI.out.B.trans (belowK_b (w := w) (Nat.le_refl _) _ D _ _ (by omega) hK rfl rfl)⟩
    simp [results, Tryz.results23, go_sem]
   | true =>
    cases cv with
    | true =>
     have HV : Hid (LV = 3) := Lib.hid HLev.out
     gi_wp2
     refine ⟨by simp, .inl ⟨_, _, rfl, run_takeDeferred hK, ?_⟩⟩
     refine ⟨.int .i64 3, ?_, by rw [HV.out], HI.out.B.trans (belowK_b (w := w) (Nat.le_refl _) _ D _ _ (by omega) hK rfl rfl)⟩
     simp [results, Tryz.results23, go_sem]
    | false =>
     have HV : Hid (LV = 4) := Lib.hid HLev.out
     gi_wp2
     refine ⟨by simp, .inl ⟨_, _, rfl, run_takeDeferred hK, ?_⟩⟩
     refine ⟨.int .i64 4, ?_, by rw [HV.out], HI.out.B.trans (belowK_b (w := w) (Nat.le_refl _) _ D _ _ (by omega) hK rfl rfl)⟩
     simp [results, Tryz.results23, go_sem]
 case stop =>
  rintro D c pre W hD hpre hx hK
  exact hx.elim
end Go.Proofs.YtioehfhdoohdmaaGreatDoor
