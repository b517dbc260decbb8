/- guiseref4.Words walked. -/
import Derived.Test.YtpdaciljdcfikaaDoorRefWord2
import Derived.Test.YtpdaciljdcfikaaDoorRefBlank
import Derived.Test.YtpdaciljdcfikaaDoorWords
namespace Go.Proofs.YtpdaciljdcfikaaDoor
open Go.RowKit Go.Shelf
set_option linter.unusedVariables false
set_option linter.unusedSimpArgs false

theorem rword_any (s : ByteArray) (p : Nat) (w : World) (hs : s.size ≤ 1000000) (hp : p < s.size) :
    Calls Tryd.prog 45 #[.string s, .int .i64 p] w (RWPost s p w) := by
  cases h1 : smallB (B s p) with
  | true => exact rword_name s p w hs hp h1
  | false =>
    cases h2 : digitB (B s p) with
    | true => exact rword_number s p w hs hp h2
    | false =>
      by_cases h3 : B s p = 85
      · exact rword_plus s p w hs hp h3
      by_cases h4 : B s p = 39
      · exact rword_quoted s p w hs hp h4
      by_cases h5 : B s p = 46
      · exact rword_dots s p w hs hp h5
      · exact rword_sign s p w hs hp ⟨h1, h2, h3, h4, h5⟩

/-- A word of the document's as it lies in memory. -/
def rcells (wd : Wd) : List Value := [.int .i64 wd.kind, .string wd.txt, .int .i32 wd.r, .int .i64 wd.n, .int .i64 wd.fr, .int .i64 wd.en]
/-- The first wrong byte; -1: there is none. -/
def badN (s : ByteArray) : Int :=
  if 262144 < s.size then 0 else match (lexN s).2 with
    | none => -1
    | some q => q
theorem info_RWord : (Tryd.prog.info? 59).map (fun i => (i.zero, i.size, i.bytes)) = some (some (.agg #[.int .i64 0, .string ⟨#[]⟩, .int .i32 0, .int .i64 0, .int .i64 0, .int .i64 0]), 6, 56) := by kernel_rfl
theorem bad_good {s : ByteArray} (h : s.size ≤ 262144) {l : List Wd} (e : lexN s = (l, none)) : badN s = -1 := by
  unfold badN; rw [if_neg (by omega), e]
theorem bad_bad {s : ByteArray} (h : s.size ≤ 262144) {l : List Wd} {q : Nat} (e : lexN s = (l, some q)) : badN s = q := by
  unfold badN; rw [if_neg (by omega), e]
def RWords (s : ByteArray) (w : World) (e : Ending) (w' : World) : Prop :=
  ∃ v, e = .returned (.tuple #[v, .int .i64 (badN s), .int .i64 (errN s)]) ∧ w'.ownsRow w.heap.size 59 6 v (wdsN s).length ((wdsN s).flatMap rcells) ∧ (wdsN s).length ≤ s.size ∧ (wdsN s = [] → v = .slice none 0 0) ∧ Below w.heap.size w w'
theorem rwords_bad {s : ByteArray} {w w' : World} {l : List Wd} {q : Nat} (h : s.size ≤ 262144) (e : lexN s = (l, some q)) (hb : Below w.heap.size w w') : RWords s w (.returned (.tuple #[.slice none 0 0, .int .i64 q, .int .i64 (if q = s.size then 21 else 20 : Nat)])) w' := by
  obtain ⟨e1, e2, e3⟩ := bad_spec h e
  exact ⟨.slice none 0 0, by rw [bad_bad h e, e1], by rw [e3]; exact World.ownsRow_nil _ _ _ _, by rw [e3]; exact Nat.zero_le _, fun _ => rfl, hb⟩
theorem rwords_good {s : ByteArray} {w w' : World} {l : List Wd} {v : Value} (h : s.size ≤ 262144) (e : lexN s = (l, none)) (hown : w'.ownsRow w.heap.size 59 6 v l.length (l.flatMap rcells)) (hlen : l.length ≤ s.size) (hnil : l = [] → v = .slice none 0 0) (hb : Below w.heap.size w w') : RWords s w (.returned (.tuple #[v, .int .i64 (-1), .int .i64 0])) w' := by
  obtain ⟨e1, e2, e3⟩ := good_spec h e
  exact ⟨v, by rw [bad_good h e, e1]; rfl, by rw [e3]; exact hown, by rw [e3]; exact hlen, by rw [e3]; exact hnil, hb⟩

set_option maxRecDepth 100000 in
set_option maxHeartbeats 3000000 in
theorem rwords_any (s : ByteArray) (w : World) (hs : s.size ≤ 140737488351232) :
    Calls Tryd.prog 28 #[.string s] w (RWords s w) := by
  by_cases hbig : 262144 < s.size
  · obtain ⟨e1, e2, e3⟩ := long_spec hbig
    have e4 : badN s = 0 := by unfold badN; rw [if_pos hbig]
    go_enter Tryd.func28, Tryd.ntmps28
    go_wp2_with fail
    refine bodyPost_ret (v := .tuple #[.slice none 0 0, .int .i64 0, .int .i64 3]) (by simp [results, Tryd.results28, go_sem]) rfl ?_
    exact ⟨.slice none 0 0, by rw [e4, e1]; rfl, by rw [e3]; exact World.ownsRow_nil _ _ _ _, by rw [e3]; exact Nat.zero_le _, fun _ => rfl, Below.refl _ _⟩
  · have hs2 : s.size ≤ 262144 := by omega
    go_enter Tryd.func28, Tryd.ntmps28
    go_wp2_with fail
    go_loopw [5, 6] (fun v5 v6 wr => ∃ (p f : Nat) (l : List Wd), v6 = .int .i64 p ∧ p ≤ s.size ∧ l.length ≤ p ∧ s.size - p ≤ f ∧ Hid (lexGo s f p l = lexN s) ∧ wr.ownsRow w.heap.size 59 6 v5 l.length (l.flatMap rcells) ∧ (l = [] → v5 = .slice none 0 0) ∧ Below w.heap.size w wr) (fun _ v6 _ => s.size - (intOf v6).toNat)
    case atStart => exact ⟨0, s.size, [], rfl, by omega, by simp, by omega, Lib.hid rfl, World.ownsRow_nil _ _ _ _, fun _ => rfl, Below.refl _ _⟩
    case round =>
      obtain ⟨p, f, l, rfl, hp, hlp, hf, Hl, hown, hnil, hB⟩ := hrel
      go_wp2_with fail
      refine (rblank_any s p _ (by omega) hp).mono ?_
      rintro e w' ⟨q, ok, rfl, hP, rfl⟩
      obtain ⟨hq, hpq, hok, hno⟩ := hP
      cases ok with
      | false =>
        have HE := Lib.hid (show lexN s = (l, some q) by rw [← Hl.out]; exact hno rfl f l hf)
        clear hok hno
        by_cases hqs : q = s.size
        · have hq1 : ((q : Int) == (s.size : Int)) = true := by rw [beq_iff_eq, hqs]
          have hP := rwords_bad (w := w) hs2 HE.out hB
          rw [if_pos hqs] at hP
          clear hqs
          go_wp2_with fail
          exact bodyPost_ret (v := .tuple #[.slice none 0 0, .int .i64 q, .int .i64 21]) (by simp [results, Tryd.results28, go_sem]) rfl hP
        · have hq1 : ((q : Int) == (s.size : Int)) = false := by rw [beq_eq_false_iff_ne]; omega
          have hP := rwords_bad (w := w) hs2 HE.out hB
          rw [if_neg hqs] at hP
          clear hqs
          go_wp2_with fail
          exact bodyPost_ret (v := .tuple #[.slice none 0 0, .int .i64 q, .int .i64 20]) (by simp [results, Tryd.results28, go_sem]) rfl hP
      | true =>
        obtain ⟨hnb, hbs⟩ := hok rfl
        obtain ⟨f', hf', hl'⟩ := hbs f l hf
        have HL := Lib.hid (hl'.symm.trans Hl.out)
        clear hok hno hbs hl'
        by_cases hqs : q = s.size
        · have hq1 : ((q : Int) == (s.size : Int)) = true := by rw [beq_iff_eq, hqs]
          have HE : lexN s = (l, none) := by rw [← HL.out, hqs]; exact lex_end _ _ _ _ (Nat.le_refl _)
          have hP := rwords_good (w := w) hs2 HE hown (by omega) hnil hB
          have HP := Lib.hid hP
          clear hqs hnb HE hP
          go_wp2_with fail
          exact bodyPost_ret (v := .tuple #[_, .int .i64 (-1), .int .i64 0]) (by simp [results, Tryd.results28, go_sem]) rfl HP.out
        · have hql : q < s.size := by omega
          have hq1 : ((q : Int) == (s.size : Int)) = false := by rw [beq_eq_false_iff_ne]; omega
          obtain ⟨g, rfl⟩ : ∃ g, f' = g + 1 := ⟨f' - 1, by omega⟩
          obtain ⟨n1, n2⟩ := hnb hql
          have hlw := lex_word (f := g) (l := l) hql n1 n2
          have hwle := wordN_le hql
          have hww := fun W => rword_any s q W (by omega) hql
          clear hnb n1 n2
          unfold RWPost at hww
          rcases hN : wordN s q with ⟨wd, q2, ok2⟩
          simp only [hN] at hww hwle hlw
          obtain ⟨hq2, hqq2, hadv⟩ := hwle
          have Hww := Lib.hid hww
          have hlw' := HL.out
          rw [hlw] at hlw'
          clear hlw hww hN HL
          cases ok2 with
          | false =>
            have HE := Lib.hid (show lexN s = (l, some q2) by rw [← hlw']; rfl)
            clear hlw'
            have hP := fun W h => rwords_bad (w := w) (w' := W) hs2 HE.out h
            by_cases hqs2 : q2 = s.size
            · have hq3 : ((q2 : Int) == (s.size : Int)) = true := by rw [beq_iff_eq, hqs2]
              rw [if_pos hqs2] at hP
              have HP := Lib.hid hP
              clear hqs hqs2 hP
              go_wp2_with fail
              refine Calls.mono (Hww.out _) ?_
              rintro e w2 ⟨k, x, r, n, fr, en, rfl, _, hB2⟩
              go_wp2_with fail
              exact bodyPost_ret (v := .tuple #[.slice none 0 0, .int .i64 q2, .int .i64 21]) (by simp [results, Tryd.results28, go_sem]) rfl (HP.out _ ((hB.trans (hB2.mono hB.size)).alloc (Nat.le_trans hB.size hB2.size) _))
            · have hq3 : ((q2 : Int) == (s.size : Int)) = false := by rw [beq_eq_false_iff_ne]; omega
              rw [if_neg hqs2] at hP
              have HP := Lib.hid hP
              clear hqs hqs2 hP
              go_wp2_with fail
              refine Calls.mono (Hww.out _) ?_
              rintro e w2 ⟨k, x, r, n, fr, en, rfl, _, hB2⟩
              go_wp2_with fail
              exact bodyPost_ret (v := .tuple #[.slice none 0 0, .int .i64 q2, .int .i64 20]) (by simp [results, Tryd.results28, go_sem]) rfl (HP.out _ ((hB.trans (hB2.mono hB.size)).alloc (Nat.le_trans hB.size hB2.size) _))
          | true =>
            have HE := Lib.hid (show lexGo s g q2 (l ++ [wd]) = lexN s by rw [← hlw']; rfl)
            have hadv := hadv rfl
            clear hlw' hqs
            go_wp2_with fail
            refine Calls.mono (Hww.out _) ?_
            rintro e w2 ⟨k, x, r, n, fr, en, rfl, hwd, hB2⟩
            obtain ⟨rfl, rfl, rfl, rfl, rfl, rfl⟩ := hwd (by first | rfl | trivial)
            have hB3 := hB.trans (hB2.mono hB.size)
            have hown3 := (owns_later hown hB2).alloc (.cells #[.int .i64 wd.kind, .string wd.txt, .int .i32 wd.r, .int .i64 wd.n, .int .i64 wd.fr, .int .i64 wd.en] 59)
            have hB4 := hB3.alloc hB3.size (.cells #[.int .i64 wd.kind, .string wd.txt, .int .i32 wd.r, .int .i64 wd.n, .int .i64 wd.fr, .int .i64 wd.en] 59)
            obtain ⟨i0, hi, hz0, hz1, hz2⟩ := info_parts info_RWord
            have hz := hB4.size
            go_wp2_with (at_builtin; refine wpList_append_own _ rfl _ _ 55 rfl w.heap.size 59 i0 _ 6 56 Tryd.underlying55 hi hz0 hz1 hz2 rfl (by decide) _ l.length (l.flatMap rcells) rfl (hown3.alloc _) ⟨w2.heap.size + 1, 0, none⟩ 1 1 (rcells wd) rfl rfl (cells_new _ _ (by simp) (rcells wd) _) (by simp [Value.oneCell', rcells]) (by unfold maxLen; omega) (by omega) (by simp at hz ⊢; omega) ?_; intro v' w4 hown' hgrow _)
            have hB5 := (hB4.alloc hB4.size (.cells (rcells wd).toArray 59)).grown hgrow (by simp at hz ⊢; omega) (fun k e => by have := (hown.lt k e).1; omega)
            exact ⟨⟨q2, g, l ++ [wd], by go_num, hq2, by simp; omega, by omega, HE, by rw [List.length_append, List.flatMap_append]; simpa using hown', fun e => by simp at e, hB5⟩, by simp [intOf]; omega⟩
end Go.Proofs.YtpdaciljdcfikaaDoor
