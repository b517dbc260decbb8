/- KindsA: Kinds, StopsLaw. -/
import Derived.Test.YtioehfhdoohdmaaGreatDoorSpotA
import Derived.Test.YtioehfhdoohdmaaGreatDoorScrA
import Derived.Test.YtioehfhdoohdmaaGreatDoorMeetA
set_option linter.unusedVariables false
set_option linter.unusedSimpArgs false
namespace Go.Proofs.YtioehfhdoohdmaaGreatDoor
open Go
def stepK (T : Tab) (L : List Int) (k : Int × Bool) : List Int := if freeR T k.1 k.2 then L else L.filter fun n => (bdL T k.1 k.2).contains n
def foldK (T : Tab) (ks : List (Int × Bool)) : List Int := ks.foldl (stepK T) (allL T.scripts.length)
theorem foldO_k (T : Tab) (s : ByteArray) : foldO T s (places s) = foldK T (kindsFrom s 0) := by
 unfold foldO foldK kindsFrom places
 rw [List.foldl_map]
 rfl
theorem mem_foldl (T : Tab) (n : Int) : ∀ (ks : List (Int × Bool)) (L : List Int), n ∈ ks.foldl (stepK T) L ↔ n ∈ L ∧ ∀ k ∈ ks, freeR T k.1 k.2 = true ∨ n ∈ bdL T k.1 k.2
 | [], L => by simp
 | k :: t, L => by
  rw [List.foldl_cons, mem_foldl T n t]
  unfold stepK
  cases h : freeR T k.1 k.2 with
  | true => simp [h]
  | false =>
   simp only [if_neg (by decide : ¬ (false = true)), List.mem_filter, List.contains_iff_mem, List.mem_cons, forall_eq_or_imp, h, false_or, and_assoc]
   constructor
   ·rintro ⟨h1, h2, h3⟩; exact ⟨h1, Or.inr h2, h3⟩
   ·rintro ⟨h1, h2, h3⟩
    refine ⟨h1, ?_, h3⟩
    rcases h2 with h2 | h2
    ·cases h2
    ·exact h2
theorem mem_foldK (T : Tab) (n : Int) (ks : List (Int × Bool)) : n ∈ foldK T ks ↔ n ∈ allL T.scripts.length ∧ ∀ k ∈ ks, freeR T k.1 k.2 = true ∨ n ∈ bdL T k.1 k.2 := mem_foldl T n ks _
theorem foldK_sub {T : Tab} {ks ks' : List (Int × Bool)} (h : ∀ k ∈ ks', k ∈ ks) {n : Int} (hn : n ∈ foldK T ks) : n ∈ foldK T ks' := by
 rw [mem_foldK] at hn ⊢
 exact ⟨hn.1, fun k hk => hn.2 k (h k hk)⟩
theorem foldK_empty {T : Tab} {ks ks' : List (Int × Bool)} (h : ∀ k ∈ ks', k ∈ ks) (he : foldK T ks' = []) : foldK T ks = [] :=
 List.eq_nil_iff_forall_not_mem.2 fun n hn => by have := foldK_sub h hn; rw [he] at this; cases this
def stopP (T : Tab) : List (Nat × Int × Bool) → List Int → Nat → Option (Nat × Nat)
 | [], _, _ => none
 | x :: t, L, n => if freeR T x.2.1 x.2.2 then stopP T t L (n + 1) else if (stepK T L x.2).isEmpty then some (x.1, n) else stopP T t (stepK T L x.2) (n + 1)
theorem stopGo_p (T : Tab) (s : ByteArray) : ∀ (ps : List (Pl s)) (L : List Int) (n : Nat), stopGo T s ps L n = stopP T (ps.map fun x => (x.1, kdAt s x.1)) L n
 | [], _, _ => rfl
 | x :: t, L, n => by
  rw [stopGo_cons, List.map_cons, stopP, stopGo_p T s t, stopGo_p T s t]
  rfl
theorem stopN_p (T : Tab) (s : ByteArray) : stopN T s = stopP T (pkFrom s 0) (allL T.scripts.length) 0 := stopGo_p T s _ _ _
def foldP (T : Tab) (l : List (Nat × Int × Bool)) (L : List Int) : List Int := (l.map (·.2)).foldl (stepK T) L
theorem stopP_some {T : Tab} : ∀ {l : List (Nat × Int × Bool)} {L : List Int} {n p m : Nat}, stopP T l L n = some (p, m) →
 ∃ pre k post, l = pre ++ (p, k) :: post ∧ m = n + pre.length ∧ stopP T pre L n = none ∧ freeR T k.1 k.2 = false ∧ stepK T (foldP T pre L) k = [] := by
 intro l
 induction l with
 | nil => intro L n p m h; cases h
 | cons x t ih =>
  intro L n p m h
  rw [stopP] at h
  cases hf : freeR T x.2.1 x.2.2 with
  | true =>
   rw [if_pos hf] at h
   obtain ⟨pre, k, post, e1, e2, e3, e4, e5⟩ := ih h
   have hs : stepK T L x.2 = L := by unfold stepK; rw [if_pos hf]
   refine ⟨x :: pre, k, post, by rw [e1]; rfl, by rw [e2, List.length_cons]; omega, by rw [stopP, if_pos hf]; exact e3, e4, ?_⟩
   show stepK T (foldP T pre (stepK T L x.2)) k = []
   rw [hs]; exact e5
  | false =>
   rw [if_neg (by rw [hf]; decide)] at h
   by_cases he : (stepK T L x.2).isEmpty = true
   ·rw [if_pos he] at h
    obtain ⟨rfl, rfl⟩ : x.1 = p ∧ n = m := by simpa using h
    exact ⟨[], x.2, t, rfl, rfl, rfl, hf, List.isEmpty_iff.1 he⟩
   ·rw [if_neg he] at h
    obtain ⟨pre, k, post, e1, e2, e3, e4, e5⟩ := ih h
    exact ⟨x :: pre, k, post, by rw [e1]; rfl, by rw [e2, List.length_cons]; omega, by rw [stopP, if_neg (by rw [hf]; decide), if_neg he]; exact e3, e4, e5⟩
theorem stopP_is {T : Tab} : ∀ (pre : List (Nat × Int × Bool)) {x : Nat × Int × Bool} {post : List (Nat × Int × Bool)} {L : List Int} {n : Nat}, freeR T x.2.1 x.2.2 = false → stepK T (foldP T pre L) x.2 = [] → (stopP T (pre ++ x :: post) L n).isSome = true := by
 intro pre
 induction pre with
 | nil =>
  intro x post L n hf he
  have he' : stepK T L x.2 = [] := he
  rw [List.nil_append, stopP, if_neg (by rw [hf]; decide), if_pos (by rw [he']; rfl)]
  rfl
 | cons y t ih =>
  intro x post L n hf he
  rw [List.cons_append, stopP]
  split
  ·rename_i h
   refine ih hf ?_
   have hs : stepK T L y.2 = L := by unfold stepK; rw [if_pos h]
   have he' : stepK T (foldP T t (stepK T L y.2)) x.2 = [] := he
   rw [hs] at he'; exact he'
  ·split
   ·rfl
   ·exact ih hf he
theorem stopP_at {T : Tab} : ∀ (pre : List (Nat × Int × Bool)) {x : Nat × Int × Bool} {post : List (Nat × Int × Bool)} {L : List Int} {n : Nat}, stopP T pre L n = none → freeR T x.2.1 x.2.2 = false → stepK T (foldP T pre L) x.2 = [] → stopP T (pre ++ x :: post) L n = some (x.1, n + pre.length) := by
 intro pre
 induction pre with
 | nil =>
  intro x post L n _ hf he
  have he' : stepK T L x.2 = [] := he
  rw [List.nil_append, stopP, if_neg (by rw [hf]; decide), if_pos (by rw [he']; rfl)]
  rfl
 | cons y t ih =>
  intro x post L n hn hf he
  rw [stopP] at hn
  rw [List.cons_append, stopP]
  have he' : stepK T (foldP T t (stepK T L y.2)) x.2 = [] := he
  by_cases h : freeR T y.2.1 y.2.2 = true
  ·rw [if_pos h] at hn ⊢
   have hs : stepK T L y.2 = L := by unfold stepK; rw [if_pos h]
   rw [hs] at he'
   rw [ih hn hf he', List.length_cons]
   congr 2; omega
  ·rw [if_neg h] at hn ⊢
   by_cases hE : (stepK T L y.2).isEmpty = true
   ·rw [if_pos hE] at hn; cases hn
   ·rw [if_neg hE] at hn ⊢
    rw [ih hn hf he', List.length_cons]
    congr 2; omega
theorem foldP_k (T : Tab) (l : List (Nat × Int × Bool)) (x : Nat × Int × Bool) : stepK T (foldP T l (allL T.scripts.length)) x.2 = foldK T (l.map (·.2) ++ [x.2]) := by
 unfold foldP foldK
 rw [List.foldl_append]
 rfl
theorem stop_iff (T : Tab) (s : ByteArray) : (stopN T s).isSome = true ↔ ∃ pre k post, kindsFrom s 0 = pre ++ k :: post ∧ freeR T k.1 k.2 = false ∧ foldK T (pre ++ [k]) = [] := by
 rw [stopN_p, kinds_pk]
 constructor
 ·intro h
  obtain ⟨⟨p, m⟩, hv⟩ := Option.isSome_iff_exists.1 h
  obtain ⟨pre, k, post, e1, _, _, e4, e5⟩ := stopP_some hv
  refine ⟨pre.map (·.2), k, post.map (·.2), by rw [e1, List.map_append]; rfl, e4, ?_⟩
  rw [← foldP_k T pre (p, k)]; exact e5
 ·rintro ⟨pre, k, post, e1, e2, e3⟩
  obtain ⟨l1, l2, e4, e5, e6⟩ := List.map_eq_append_iff.1 e1
  obtain ⟨x, l3, e7, e8, e9⟩ := List.map_eq_cons_iff.1 e6
  subst e7 e8
  rw [e4]
  refine stopP_is l1 e2 ?_
  rw [foldP_k, e5]; exact e3
theorem piece_law (T : Tab) (s : ByteArray) {p q : Nat} (hp : p ≤ s.size) (h : Reach s p 0) (hq : q ≤ (s.extract 0 p).size) (h' : Reach (s.extract 0 p) q 0) :
 (∀ n ∈ foldO T s (places s), n ∈ foldO T ((s.extract 0 p).extract q (s.extract 0 p).size) (places _)) ∧ ((stopN T ((s.extract 0 p).extract q (s.extract 0 p).size)).isSome = true → (stopN T s).isSome = true) := by
 have e1 := kinds_cut hp h
 have e2 := kinds_cut hq h'
 rw [foldO_k, foldO_k]
 rw [stop_iff, stop_iff]
 generalize kindsFrom ((s.extract 0 p).extract q (s.extract 0 p).size) 0 = P at *
 rw [e2] at e1
 rw [e1]
 refine ⟨fun n hn => foldK_sub (fun k hk => by simp [hk]) hn, ?_⟩
 rintro ⟨pre, k, post, rfl, e4, e5⟩
 refine ⟨kindsFrom ((s.extract 0 p).extract 0 q) 0 ++ pre, k, post ++ kindsFrom (s.extract p s.size) 0, by simp, e4, ?_⟩
 exact foldK_empty (fun j hj => by rw [List.append_assoc]; exact List.mem_append_right _ hj) e5
end Go.Proofs.YtioehfhdoohdmaaGreatDoor
namespace Go.Proofs.YtioehfhdoohdmaaGreatDoor
open Go
theorem Reach.snoc {s : ByteArray} {p a : Nat} (h : Reach s p a) (hp : p < s.size) : Reach s (p + (Utf8.decode s p).2) a := by
 induction h with
 | refl => exact Reach.step hp Reach.refl
 | step h r ih => exact Reach.step h ih
theorem pk_split {s : ByteArray} : ∀ (pre : List (Nat × Int × Bool)) {a p : Nat} {k : Int × Bool} {post : List (Nat × Int × Bool)}, pkFrom s a = pre ++ (p, k) :: post → Reach s p a ∧ p < s.size ∧ pkFrom s p = (p, k) :: post ∧ post = pkFrom s (p + (Utf8.decode s p).2) := by
 intro pre
 induction pre with
 | nil =>
  intro a p k post h
  by_cases ha : a < s.size
  ·rw [List.nil_append] at h
   have h2 := h
   rw [pk_step ha] at h2
   simp only [List.cons.injEq, Prod.mk.injEq] at h2
   obtain ⟨⟨rfl, _⟩, h3⟩ := h2
   exact ⟨Reach.refl, ha, h, h3.symm⟩
  ·rw [pk_end (by omega)] at h; cases h
 | cons y t ih =>
  intro a p k post h
  by_cases ha : a < s.size
  ·rw [pk_step ha, List.cons_append] at h
   obtain ⟨h1, h2, h3, h4⟩ := ih (List.cons.inj h).2
   exact ⟨Reach.step ha h1, h2, h3, h4⟩
  ·rw [pk_end (by omega)] at h; cases h
theorem stopP_none {T : Tab} : ∀ (l : List (Nat × Int × Bool)) {L : List Int} {n : Nat}, stopP T l L n = none → L ≠ [] → foldP T l L ≠ [] := by
 intro l
 induction l with
 | nil => intro L n _ h; exact h
 | cons y t ih =>
  intro L n hn hL
  rw [stopP] at hn
  cases h : freeR T y.2.1 y.2.2 with
  | true =>
   rw [if_pos h] at hn
   have hs : stepK T L y.2 = L := by unfold stepK; rw [if_pos h]
   show foldP T t (stepK T L y.2) ≠ []
   rw [hs]
   exact ih hn hL
  | false =>
   rw [if_neg (by rw [h]; decide)] at hn
   by_cases hE : (stepK T L y.2).isEmpty = true
   ·rw [if_pos hE] at hn; cases hn
   ·rw [if_neg hE] at hn
    exact ih hn (fun e => hE (by rw [e]; rfl))
theorem foldP_K (T : Tab) (s : ByteArray) : foldP T (pkFrom s 0) (allL T.scripts.length) = foldO T s (places s) := by
 rw [foldO_k]
 unfold foldP foldK
 rw [← kinds_pk]
theorem stops_none (T : Tab) (s : ByteArray) (h : stopN T s = none) : 0 < (foldO T s (places s)).length ∨ T.scripts.length = 0 := by
 rw [stopN_p] at h
 by_cases h0 : T.scripts.length = 0
 ·exact Or.inr h0
 ·left
  have := stopP_none _ h (by intro e; have := congrArg List.length e; rw [allL_len] at this; exact h0 this)
  rw [foldP_K] at this
  exact List.length_pos_iff.2 this
theorem stops_some (T : Tab) (s : ByteArray) {p m : Nat} (h : stopN T s = some (p, m)) : p < s.size ∧ (places (s.extract 0 p)).length = m ∧ foldO T s (places s) = [] ∧ stopN T (s.extract 0 p) = none ∧ p + (Utf8.decode s p).2 ≤ s.size ∧ stopN T (s.extract 0 (p + (Utf8.decode s p).2)) = some (p, m) := by
 rw [stopN_p] at h
 obtain ⟨pre, k, post, e1, e2, e3, e4, e5⟩ := stopP_some h
 obtain ⟨r1, r2, r3, r4⟩ := pk_split pre e1
 have hf := dec_fits r2
 have q1 := pk_prefix (Nat.le_of_lt r2) r1
 rw [e1, r3] at q1
 have q1 := (List.append_cancel_right q1).symm
 have q2 := pk_prefix hf (r1.snoc r2)
 rw [e1, ← r4, show pre ++ (p, k) :: post = (pre ++ [(p, k)]) ++ post by simp] at q2
 have q2 := (List.append_cancel_right q2).symm
 refine ⟨r2, ?_, ?_, by rw [stopN_p, q1]; exact e3, hf, ?_⟩
 ·have := congrArg List.length q1
  unfold pkFrom at this
  rw [List.length_map] at this
  unfold places
  rw [this, e2]; omega
 ·rw [foldO_k]
  refine foldK_empty (ks' := pre.map (·.2) ++ [k]) (fun j hj => ?_) ?_
  ·rw [kinds_pk, e1]
   simp only [List.map_append, List.map_cons, List.mem_append, List.mem_cons, List.mem_singleton] at hj ⊢
   rcases hj with h | rfl | h
   ·exact Or.inl h
   ·exact Or.inr (Or.inl rfl)
   ·cases h
  ·rw [← foldP_k T pre (p, k)]; exact e5
 ·rw [stopN_p, q2, stopP_at pre e3 e4 e5, e2]
theorem inAll_one (n : Int) (l : List Int) : inAll [n] l = l.contains n := by simp [inAll]
end Go.Proofs.YtioehfhdoohdmaaGreatDoor
