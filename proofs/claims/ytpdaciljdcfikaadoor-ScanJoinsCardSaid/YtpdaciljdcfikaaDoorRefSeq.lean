/- guiseref4.sequence walked. -/
import Derived.Test.YtpdaciljdcfikaaDoorRefNeed
import Derived.Test.YtpdaciljdcfikaaDoorLexSeq
import Derived.Laws.Bits64b
namespace Go.Proofs.YtpdaciljdcfikaaDoor
open Go.RowKit Go.Shelf
set_option linter.unusedVariables false
set_option linter.unusedSimpArgs false

/-- A rune that is still to take f bytes. -/
def bnd : Nat → Nat
  | 0 => 2097152
  | 1 => 32768
  | 2 => 512
  | _ => 8
theorem needT_some {c n lo hi : Nat} (h : needN c = some (n, lo, hi)) : needT c = (n, lo, hi, true) := by unfold needT; rw [h]
theorem needT_none {c : Nat} (h : needN c = none) : needT c = (0, 0, 0, false) := by unfold needT; rw [h]
theorem need_bounds {c n lo hi : Nat} (hc : c < 256) (h : needN c = some (n, lo, hi)) : n ≤ 3 ∧ lo < 256 ∧ hi < 256 ∧ (n = 0 → c < 128) := by
  unfold needN at h
  repeat' split at h
  all_goals first | cases h | skip
  all_goals (refine ⟨by omega, by omega, by omega, fun e => ?_⟩; first | assumption | omega)
theorem mask_bnd {c n : Nat} (hn : n ≤ 3) (hc : c < 256) (h0 : n = 0 → c < 128) : maskN n c < bnd n := by
  unfold maskN
  match n, hn with
  | 0, _ => simp [bnd]; omega
  | 1, _ => simp [bnd]; omega
  | 2, _ => simp [bnd]; omega
  | 3, _ => simp [bnd]; omega
theorem bnd_step {f r b : Nat} (h : r < bnd (f + 1)) (hf : f ≤ 2) (hb : b < 64) : r * 64 + b < bnd f := by
  match f, hf with
  | 0, _ => simp [bnd] at h ⊢; omega
  | 1, _ => simp [bnd] at h ⊢; omega
  | 2, _ => simp [bnd] at h ⊢; omega
theorem bnd_le {f r : Nat} (h : r < bnd f) : r < 2097152 := by
  unfold bnd at h; split at h <;> omega

theorem and31 (c : Nat) (h : c < 256) : bits BinOp.and IntKind.i32 (c : Int) 31 = ((c % 32 : Nat) : Int) := by
  have key : ∀ c : Fin 256, bits BinOp.and IntKind.i32 (c.1 : Int) 31 = ((c.1 % 32 : Nat) : Int) := by decide +kernel
  exact key ⟨c, h⟩
theorem and15 (c : Nat) (h : c < 256) : bits BinOp.and IntKind.i32 (c : Int) 15 = ((c % 16 : Nat) : Int) := by
  have key : ∀ c : Fin 256, bits BinOp.and IntKind.i32 (c.1 : Int) 15 = ((c.1 % 16 : Nat) : Int) := by decide +kernel
  exact key ⟨c, h⟩
theorem and7 (c : Nat) (h : c < 256) : bits BinOp.and IntKind.i32 (c : Int) 7 = ((c % 8 : Nat) : Int) := by
  have key : ∀ c : Fin 256, bits BinOp.and IntKind.i32 (c.1 : Int) 7 = ((c.1 % 8 : Nat) : Int) := by decide +kernel
  exact key ⟨c, h⟩
theorem and63 (c : Nat) (h : c < 256) : bits BinOp.and IntKind.u8 (c : Int) 63 = ((c % 64 : Nat) : Int) := by
  have key : ∀ c : Fin 256, bits BinOp.and IntKind.u8 (c.1 : Int) 63 = ((c.1 % 64 : Nat) : Int) := by decide +kernel
  exact key ⟨c, h⟩

set_option maxRecDepth 100000 in
set_option maxHeartbeats 4000000 in
theorem sequence_any (s : ByteArray) (p : Nat) (w : World) (hs : s.size ≤ 140737488351232) (hp : p < 140737488351232) :
    Calls Tryd.prog 30 #[.string s, .int .i64 p] w fun e w' => e = .returned (.tuple #[.int .i32 (seqT s p).1, .int .i64 (seqT s p).2.1, .bool (seqT s p).2.2]) ∧ w = w' := by
  by_cases hlt : p < s.size
  · have Hb := Lib.hid (B_at hlt)
    have hc : (s[p]'hlt).toNat < 256 := UInt8.toNat_lt _
    have hn := fun W => need_any (s[p]'hlt).toNat hc W
    cases e : needN (B s p) with
    | none =>
      have Es := Lib.hid (seqT_none hlt e)
      rw [Hb.out] at e
      rw [needT_none e] at hn
      have Hn := Lib.hid hn
      clear hn e
      go_enter Tryd.func30, Tryd.ntmps30
      go_wp2_with fail
      refine Calls.mono (Hn.out _) ?_
      rintro e w' ⟨rfl, rfl⟩
      go_wp2_with fail
      refine bodyPost_ret (v := .tuple #[.int .i32 0, .int .i64 p, .bool false]) (by simp [results, Tryd.results30, go_sem]) rfl ?_
      exact ⟨by rw [Es.out]; rfl, rfl⟩
    | some x =>
      obtain ⟨n, lo, hi⟩ := x
      have Es := Lib.hid (seqT_some hlt e)
      rw [Hb.out] at e
      have hbd := need_bounds hc e
      rw [needT_some e] at hn
      have Hn := Lib.hid hn
      clear hn e
      have a31 := and31 _ hc
      have a15 := and15 _ hc
      have a7 := and7 _ hc
      have hmb := mask_bnd hbd.1 hc hbd.2.2.2
      rw [Hb.out] at Es
      obtain ⟨hn3, hlo, hhi, h0⟩ := hbd
      generalize hcc : (s[p]'hlt).toNat = c at *
      have Hcc := Lib.hid hcc
      clear hcc
      have hn4 : n = 0 ∨ n = 1 ∨ n = 2 ∨ n = 3 := by omega
      rcases hn4 with rfl | rfl | rfl | rfl
      · go_enter Tryd.func30, Tryd.ntmps30
        go_wp2_with fail
        have hwr : wrap32 ((s[p]'hlt).toNat : Int) = (c : Int) := by rw [Hcc.out]; unfold wrap32; omega
        rw [Hcc.out]
        refine Calls.mono (Hn.out _) ?_
        rintro e w' ⟨rfl, rfl⟩
        go_wp2_with fail
        go_loop [8, 9, 11, 12] (fun v8 v9 v11 v12 => ∃ lo' hi' r k f : Nat, v8 = .int .u8 lo' ∧ v9 = .int .u8 hi' ∧ v11 = .int .i32 r ∧ v12 = .int .i64 k ∧ lo' < 256 ∧ hi' < 256 ∧ f ≤ 0 ∧ k + f = 0 + 1 ∧ r < 2097152 ∧ Hid (r < bnd f) ∧ Hid (seqGo s p f k lo' hi' r = seqT s p)) (fun _ _ _ v12 => 0 + 1 - (intOf v12).toNat)
        case atStart => exact ⟨lo, hi, maskN 0 c, 1, 0, rfl, rfl, by rw [hwr]; rfl, rfl, hlo, hhi, by omega, by omega, bnd_le hmb, Lib.hid hmb, Lib.hid Es.out.symm⟩
        case round =>
          obtain ⟨lo', hi', r, k, f, rfl, rfl, rfl, rfl, hlo', hhi', hf, hkf, hr, Hr, Hg⟩ := hrel
          cases f with
          | zero =>
            have hk : k = 0 + 1 := by omega
            subst hk
            go_wp2_with fail
            refine bodyPost_ret (v := .tuple #[.int .i32 r, .int .i64 ((p : Int) + 0 + 1), .bool true]) (by simp [results, Tryd.results30, go_sem]) rfl ?_
            exact ⟨by rw [← Hg.out]; refine ret_val ?_; simp [seqGo]; try omega, rfl⟩
          | succ f => exfalso; omega
      · go_enter Tryd.func30, Tryd.ntmps30
        go_wp2_with fail
        have hwr : wrap32 ((s[p]'hlt).toNat : Int) = (c : Int) := by rw [Hcc.out]; unfold wrap32; omega
        rw [Hcc.out]
        refine Calls.mono (Hn.out _) ?_
        rintro e w' ⟨rfl, rfl⟩
        go_wp2_with fail
        clear hwr
        go_loop [8, 9, 11, 12] (fun v8 v9 v11 v12 => ∃ lo' hi' r k f : Nat, v8 = .int .u8 lo' ∧ v9 = .int .u8 hi' ∧ v11 = .int .i32 r ∧ v12 = .int .i64 k ∧ lo' < 256 ∧ hi' < 256 ∧ f ≤ 1 ∧ k + f = 1 + 1 ∧ r < 2097152 ∧ Hid (r < bnd f) ∧ Hid (seqGo s p f k lo' hi' r = seqT s p)) (fun _ _ _ v12 => 1 + 1 - (intOf v12).toNat)
        case atStart => exact ⟨lo, hi, maskN 1 c, 1, 1, rfl, rfl, by first | rfl | simp [maskN], rfl, hlo, hhi, by omega, by omega, bnd_le hmb, Lib.hid hmb, Lib.hid Es.out.symm⟩
        case round =>
          obtain ⟨lo', hi', r, k, f, rfl, rfl, rfl, rfl, hlo', hhi', hf, hkf, hr, Hr, Hg⟩ := hrel
          cases f with
          | zero =>
            have hk : k = 1 + 1 := by omega
            subst hk
            go_wp2_with fail
            refine bodyPost_ret (v := .tuple #[.int .i32 r, .int .i64 ((p : Int) + 1 + 1), .bool true]) (by simp [results, Tryd.results30, go_sem]) rfl ?_
            exact ⟨by rw [← Hg.out]; refine ret_val ?_; simp [seqGo]; try omega, rfl⟩
          | succ f =>
            have hkn : k ≤ 1 := by omega
            by_cases hin : p + k < s.size
            · have Hb' := Lib.hid (B_at hin)
              have hc' : (s[p + k]'hin).toNat < 256 := UInt8.toNat_lt _
              have a63 := and63 _ hc'
              obtain ⟨b, hbb⟩ : ∃ b, b = (s[p + k]'hin).toNat := ⟨_, rfl⟩
              rw [hbb.symm] at hc' a63
              have Hbb := Lib.hid hbb
              have d1 : decide ((s.size : Int) ≤ (p : Int) + (k : Int)) = false := by rw [decide_eq_false_iff_not]; omega
              have hbf : f ≤ 2 := by omega
              have hbs := bnd_step Hr.out hbf (Nat.mod_lt b (by decide : 0 < 64))
              have Hbs := Lib.hid hbs
              have hbl := bnd_le hbs
              clear hbs
              by_cases hlo2 : b < lo'
              · have d2 : decide ((((s[p + k]'hin).toNat : Nat) : Int) < (lo' : Int)) = true := by rw [decide_eq_true_iff, ← hbb]; omega
                go_wp2_with fail
                refine bodyPost_ret (v := .tuple #[.int .i32 0, .int .i64 ((p : Int) + k), .bool false]) (by simp [results, Tryd.results30, go_sem]) rfl ?_
                exact ⟨by rw [← Hg.out, seqGo, if_neg (by rw [Hb'.out, ← Hbb.out]; omega)]; rfl, rfl⟩
              · have d2 : decide ((((s[p + k]'hin).toNat : Nat) : Int) < (lo' : Int)) = false := by rw [decide_eq_false_iff_not, ← hbb]; omega
                by_cases hhi2 : hi' < b
                · have d3 : decide ((hi' : Int) < (((s[p + k]'hin).toNat : Nat) : Int)) = true := by rw [decide_eq_true_iff, ← hbb]; omega
                  go_wp2_with fail
                  refine bodyPost_ret (v := .tuple #[.int .i32 0, .int .i64 ((p : Int) + k), .bool false]) (by simp [results, Tryd.results30, go_sem]) rfl ?_
                  exact ⟨by rw [← Hg.out, seqGo, if_neg (by rw [Hb'.out, ← Hbb.out]; omega)]; rfl, rfl⟩
                · have d3 : decide ((hi' : Int) < (((s[p + k]'hin).toNat : Nat) : Int)) = false := by rw [decide_eq_false_iff_not, ← hbb]; omega
                  go_wp2_with (simp only [a63])
                  go_round
                  case rel => exact ⟨128, 191, r * 64 + b % 64, k + 1, f, rfl, rfl, by rw [hbb]; go_num, by go_num, by omega, by omega, by omega, by omega, hbl, Hbs, Lib.hid (by rw [← Hg.out, seqGo, if_pos (by rw [Hb'.out, ← Hbb.out]; omega), Hb'.out, ← Hbb.out])⟩
                  case measure => simp [intOf]; omega
            · have d1 : decide ((s.size : Int) ≤ (p : Int) + (k : Int)) = true := by rw [decide_eq_true_iff]; omega
              go_wp2_with fail
              refine bodyPost_ret (v := .tuple #[.int .i32 0, .int .i64 ((p : Int) + k), .bool false]) (by simp [results, Tryd.results30, go_sem]) rfl ?_
              exact ⟨by rw [← Hg.out, seqGo, if_neg (by omega)]; rfl, rfl⟩
      · go_enter Tryd.func30, Tryd.ntmps30
        go_wp2_with fail
        have hwr : wrap32 ((s[p]'hlt).toNat : Int) = (c : Int) := by rw [Hcc.out]; unfold wrap32; omega
        rw [Hcc.out]
        refine Calls.mono (Hn.out _) ?_
        rintro e w' ⟨rfl, rfl⟩
        go_wp2_with fail
        clear hwr
        go_loop [8, 9, 11, 12] (fun v8 v9 v11 v12 => ∃ lo' hi' r k f : Nat, v8 = .int .u8 lo' ∧ v9 = .int .u8 hi' ∧ v11 = .int .i32 r ∧ v12 = .int .i64 k ∧ lo' < 256 ∧ hi' < 256 ∧ f ≤ 2 ∧ k + f = 2 + 1 ∧ r < 2097152 ∧ Hid (r < bnd f) ∧ Hid (seqGo s p f k lo' hi' r = seqT s p)) (fun _ _ _ v12 => 2 + 1 - (intOf v12).toNat)
        case atStart => exact ⟨lo, hi, maskN 2 c, 1, 2, rfl, rfl, by first | rfl | simp [maskN], rfl, hlo, hhi, by omega, by omega, bnd_le hmb, Lib.hid hmb, Lib.hid Es.out.symm⟩
        case round =>
          obtain ⟨lo', hi', r, k, f, rfl, rfl, rfl, rfl, hlo', hhi', hf, hkf, hr, Hr, Hg⟩ := hrel
          cases f with
          | zero =>
            have hk : k = 2 + 1 := by omega
            subst hk
            go_wp2_with fail
            refine bodyPost_ret (v := .tuple #[.int .i32 r, .int .i64 ((p : Int) + 2 + 1), .bool true]) (by simp [results, Tryd.results30, go_sem]) rfl ?_
            exact ⟨by rw [← Hg.out]; refine ret_val ?_; simp [seqGo]; try omega, rfl⟩
          | succ f =>
            have hkn : k ≤ 2 := by omega
            by_cases hin : p + k < s.size
            · have Hb' := Lib.hid (B_at hin)
              have hc' : (s[p + k]'hin).toNat < 256 := UInt8.toNat_lt _
              have a63 := and63 _ hc'
              obtain ⟨b, hbb⟩ : ∃ b, b = (s[p + k]'hin).toNat := ⟨_, rfl⟩
              rw [hbb.symm] at hc' a63
              have Hbb := Lib.hid hbb
              have d1 : decide ((s.size : Int) ≤ (p : Int) + (k : Int)) = false := by rw [decide_eq_false_iff_not]; omega
              have hbf : f ≤ 2 := by omega
              have hbs := bnd_step Hr.out hbf (Nat.mod_lt b (by decide : 0 < 64))
              have Hbs := Lib.hid hbs
              have hbl := bnd_le hbs
              clear hbs
              by_cases hlo2 : b < lo'
              · have d2 : decide ((((s[p + k]'hin).toNat : Nat) : Int) < (lo' : Int)) = true := by rw [decide_eq_true_iff, ← hbb]; omega
                go_wp2_with fail
                refine bodyPost_ret (v := .tuple #[.int .i32 0, .int .i64 ((p : Int) + k), .bool false]) (by simp [results, Tryd.results30, go_sem]) rfl ?_
                exact ⟨by rw [← Hg.out, seqGo, if_neg (by rw [Hb'.out, ← Hbb.out]; omega)]; rfl, rfl⟩
              · have d2 : decide ((((s[p + k]'hin).toNat : Nat) : Int) < (lo' : Int)) = false := by rw [decide_eq_false_iff_not, ← hbb]; omega
                by_cases hhi2 : hi' < b
                · have d3 : decide ((hi' : Int) < (((s[p + k]'hin).toNat : Nat) : Int)) = true := by rw [decide_eq_true_iff, ← hbb]; omega
                  go_wp2_with fail
                  refine bodyPost_ret (v := .tuple #[.int .i32 0, .int .i64 ((p : Int) + k), .bool false]) (by simp [results, Tryd.results30, go_sem]) rfl ?_
                  exact ⟨by rw [← Hg.out, seqGo, if_neg (by rw [Hb'.out, ← Hbb.out]; omega)]; rfl, rfl⟩
                · have d3 : decide ((hi' : Int) < (((s[p + k]'hin).toNat : Nat) : Int)) = false := by rw [decide_eq_false_iff_not, ← hbb]; omega
                  go_wp2_with (simp only [a63])
                  go_round
                  case rel => exact ⟨128, 191, r * 64 + b % 64, k + 1, f, rfl, rfl, by rw [hbb]; go_num, by go_num, by omega, by omega, by omega, by omega, hbl, Hbs, Lib.hid (by rw [← Hg.out, seqGo, if_pos (by rw [Hb'.out, ← Hbb.out]; omega), Hb'.out, ← Hbb.out])⟩
                  case measure => simp [intOf]; omega
            · have d1 : decide ((s.size : Int) ≤ (p : Int) + (k : Int)) = true := by rw [decide_eq_true_iff]; omega
              go_wp2_with fail
              refine bodyPost_ret (v := .tuple #[.int .i32 0, .int .i64 ((p : Int) + k), .bool false]) (by simp [results, Tryd.results30, go_sem]) rfl ?_
              exact ⟨by rw [← Hg.out, seqGo, if_neg (by omega)]; rfl, rfl⟩
      · go_enter Tryd.func30, Tryd.ntmps30
        go_wp2_with fail
        have hwr : wrap32 ((s[p]'hlt).toNat : Int) = (c : Int) := by rw [Hcc.out]; unfold wrap32; omega
        rw [Hcc.out]
        refine Calls.mono (Hn.out _) ?_
        rintro e w' ⟨rfl, rfl⟩
        go_wp2_with fail
        clear hwr
        go_loop [8, 9, 11, 12] (fun v8 v9 v11 v12 => ∃ lo' hi' r k f : Nat, v8 = .int .u8 lo' ∧ v9 = .int .u8 hi' ∧ v11 = .int .i32 r ∧ v12 = .int .i64 k ∧ lo' < 256 ∧ hi' < 256 ∧ f ≤ 3 ∧ k + f = 3 + 1 ∧ r < 2097152 ∧ Hid (r < bnd f) ∧ Hid (seqGo s p f k lo' hi' r = seqT s p)) (fun _ _ _ v12 => 3 + 1 - (intOf v12).toNat)
        case atStart => exact ⟨lo, hi, maskN 3 c, 1, 3, rfl, rfl, by first | rfl | simp [maskN], rfl, hlo, hhi, by omega, by omega, bnd_le hmb, Lib.hid hmb, Lib.hid Es.out.symm⟩
        case round =>
          obtain ⟨lo', hi', r, k, f, rfl, rfl, rfl, rfl, hlo', hhi', hf, hkf, hr, Hr, Hg⟩ := hrel
          cases f with
          | zero =>
            have hk : k = 3 + 1 := by omega
            subst hk
            go_wp2_with fail
            refine bodyPost_ret (v := .tuple #[.int .i32 r, .int .i64 ((p : Int) + 3 + 1), .bool true]) (by simp [results, Tryd.results30, go_sem]) rfl ?_
            exact ⟨by rw [← Hg.out]; refine ret_val ?_; simp [seqGo]; try omega, rfl⟩
          | succ f =>
            have hkn : k ≤ 3 := by omega
            by_cases hin : p + k < s.size
            · have Hb' := Lib.hid (B_at hin)
              have hc' : (s[p + k]'hin).toNat < 256 := UInt8.toNat_lt _
              have a63 := and63 _ hc'
              obtain ⟨b, hbb⟩ : ∃ b, b = (s[p + k]'hin).toNat := ⟨_, rfl⟩
              rw [hbb.symm] at hc' a63
              have Hbb := Lib.hid hbb
              have d1 : decide ((s.size : Int) ≤ (p : Int) + (k : Int)) = false := by rw [decide_eq_false_iff_not]; omega
              have hbf : f ≤ 2 := by omega
              have hbs := bnd_step Hr.out hbf (Nat.mod_lt b (by decide : 0 < 64))
              have Hbs := Lib.hid hbs
              have hbl := bnd_le hbs
              clear hbs
              by_cases hlo2 : b < lo'
              · have d2 : decide ((((s[p + k]'hin).toNat : Nat) : Int) < (lo' : Int)) = true := by rw [decide_eq_true_iff, ← hbb]; omega
                go_wp2_with fail
                refine bodyPost_ret (v := .tuple #[.int .i32 0, .int .i64 ((p : Int) + k), .bool false]) (by simp [results, Tryd.results30, go_sem]) rfl ?_
                exact ⟨by rw [← Hg.out, seqGo, if_neg (by rw [Hb'.out, ← Hbb.out]; omega)]; rfl, rfl⟩
              · have d2 : decide ((((s[p + k]'hin).toNat : Nat) : Int) < (lo' : Int)) = false := by rw [decide_eq_false_iff_not, ← hbb]; omega
                by_cases hhi2 : hi' < b
                · have d3 : decide ((hi' : Int) < (((s[p + k]'hin).toNat : Nat) : Int)) = true := by rw [decide_eq_true_iff, ← hbb]; omega
                  go_wp2_with fail
                  refine bodyPost_ret (v := .tuple #[.int .i32 0, .int .i64 ((p : Int) + k), .bool false]) (by simp [results, Tryd.results30, go_sem]) rfl ?_
                  exact ⟨by rw [← Hg.out, seqGo, if_neg (by rw [Hb'.out, ← Hbb.out]; omega)]; rfl, rfl⟩
                · have d3 : decide ((hi' : Int) < (((s[p + k]'hin).toNat : Nat) : Int)) = false := by rw [decide_eq_false_iff_not, ← hbb]; omega
                  go_wp2_with (simp only [a63])
                  go_round
                  case rel => exact ⟨128, 191, r * 64 + b % 64, k + 1, f, rfl, rfl, by rw [hbb]; go_num, by go_num, by omega, by omega, by omega, by omega, hbl, Hbs, Lib.hid (by rw [← Hg.out, seqGo, if_pos (by rw [Hb'.out, ← Hbb.out]; omega), Hb'.out, ← Hbb.out])⟩
                  case measure => simp [intOf]; omega
            · have d1 : decide ((s.size : Int) ≤ (p : Int) + (k : Int)) = true := by rw [decide_eq_true_iff]; omega
              go_wp2_with fail
              refine bodyPost_ret (v := .tuple #[.int .i32 0, .int .i64 ((p : Int) + k), .bool false]) (by simp [results, Tryd.results30, go_sem]) rfl ?_
              exact ⟨by rw [← Hg.out, seqGo, if_neg (by omega)]; rfl, rfl⟩
  · have Es : Hid (seqT s p = (0, p, false)) := Lib.hid (by unfold seqT; rw [if_pos (by omega)])
    go_enter Tryd.func30, Tryd.ntmps30
    go_wp2_with fail
    refine bodyPost_ret (v := .tuple #[.int .i32 0, .int .i64 p, .bool false]) (by simp [results, Tryd.results30, go_sem]) rfl ?_
    exact ⟨by rw [Es.out]; rfl, rfl⟩
end Go.Proofs.YtpdaciljdcfikaaDoor
