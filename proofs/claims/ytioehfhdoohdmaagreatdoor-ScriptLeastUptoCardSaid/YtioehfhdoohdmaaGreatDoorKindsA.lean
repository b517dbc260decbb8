/- KindsA: Reach, Kinds, StopsLaw. -/
import Derived.Test.YtioehfhdoohdmaaGreatDoorSpotA
import Derived.Test.YtioehfhdoohdmaaGreatDoorLex
import Derived.Lib.RuneCountTail
import Derived.Test.YtioehfhdoohdmaaGreatDoorScrA
import Derived.Test.YtioehfhdoohdmaaGreatDoorSameI2
import Derived.Test.YtioehfhdoohdmaaGreatDoorMeetA
set_option linter.unusedVariables false
set_option linter.unusedSimpArgs false
namespace Go.Proofs.YtioehfhdoohdmaaGreatDoor
open Go
inductive Reach (s:ByteArray) (b:Nat):Nat→Prop
 | refl:Reach s b b
 | step {a:Nat} (h:a<s.size) (r:Reach s b (a+(Utf8.decode s a).2)):Reach s b a
theorem Reach.le {s:ByteArray}{a b:Nat}(h:Reach s b a):a≤b:=by
 induction h with
 | refl=>exact Nat.le_refl _
 | step h r ih=>omega
theorem reach_or {s:ByteArray}{b:Nat}(hb:b≤s.size):∀d a,b - a=d→a≤b→Reach s b a∨∃f,a≤f∧f<b∧b<f+(Utf8.decode s f).2:=by
 intro d
 induction d using Nat.strongRecOn with
 | _ d ih=>
  intro a hd ha
  have hw:=dec_width s a
  by_cases h0:a=b
  ·subst h0;exact Or.inl Reach.refl
  ·by_cases h1:b<a+(Utf8.decode s a).2
   ·exact Or.inr ⟨a,Nat.le_refl _,by omega,h1⟩
   ·rcases ih (b - (a+(Utf8.decode s a).2)) (by omega) _ rfl (by omega) with h | ⟨f,h2,h3,h4⟩
    ·exact Or.inl (Reach.step (by omega) h)
    ·exact Or.inr ⟨f,by omega,h3,h4⟩
theorem good_same {s s':ByteArray}{i i':Nat}(hg:goodAt s i=true) (hle:i'+(Utf8.decode s i).2≤s'.size) (hb:∀j,j<(Utf8.decode s i).2→B s' (i'+j)=B s (i+j)):Utf8.decode s' i'=Utf8.decode s i∧goodAt s' i'=true:=by
 have hw:=dec_width s i
 have hg2:=good_iff.1 hg
 have e0:=hb 0 (by omega)
 rw[Nat.add_zero,Nat.add_zero] at e0
 have e:Utf8.decode s' i'=Utf8.decode s i:=by
  rw[dec_eq s i] at hg2 hb hw hle ⊢
  rw[dec_eq s',e0]
  exact decodeN_congr (B_lt _ _) (B_lt _ _) (B_lt _ _) (B_lt _ _) (B_lt _ _) (B_lt _ _) (B_lt _ _) hg2 (by omega) (fun h=>hb 1 (by omega)) (fun h=>hb 2 (by omega)) (fun h=>hb 3 (by omega))
 exact⟨e,good_iff.2 (by rw[e,e0];exact hg2)⟩
theorem bad_dec {s:ByteArray}{i:Nat}(h:goodAt s i=false):Utf8.decode s i=(65533,1):=by
 have h1:¬ ((Utf8.decode s i).2≠1∨B s i<128):=fun hh=>by rw[good_iff.2 hh] at h;cases h
 rw[dec_eq] at h1 ⊢
 rcases decodeN_cases (s.size - i) (B s i) (B s (i+1)) (B s (i+2)) (B s (i+3)) (B_lt _ _) (B_lt _ _) (B_lt _ _) (B_lt _ _) with ⟨h2,e⟩ | ⟨_,_,e⟩ | ⟨_,_,e⟩ | ⟨_,_,e⟩ | ⟨_,_,_,_,e⟩
 ·exact absurd (Or.inr h2) h1
 ·rw[e] at h1;exact absurd (Or.inl (by simp)) h1
 ·rw[e] at h1;exact absurd (Or.inl (by simp)) h1
 ·rw[e] at h1;exact absurd (Or.inl (by simp)) h1
 ·exact e
theorem cut_dec {s:ByteArray}{b a:Nat}(hb:b≤s.size) (h:a+(Utf8.decode s a).2≤b):Utf8.decode (s.extract 0 b) a=Utf8.decode s a∧goodAt (s.extract 0 b) a=goodAt s a:=by
 have hz:(s.extract 0 b).size=b:=by simp;omega
 have hB:∀k,k<b→B (s.extract 0 b) k=B s k:=fun k hk=>by rw[B_extract s 0 b k (by omega) hb,Nat.zero_add]
 cases hg:goodAt s a with
 | true=>exact good_same hg (by rw[hz];exact h) (fun j hj=>hB _ (by omega))
 | false=>
  have hw:=dec_width (s.extract 0 b) a
  have hws:=dec_width s a
  cases hg':goodAt (s.extract 0 b) a with
  | false=>exact⟨(bad_dec hg').trans (bad_dec hg).symm,rfl⟩
  | true=>
   have hf:=dec_fits (s:=s.extract 0 b) (i:=a) (by rw[hz];omega)
   rw[hz] at hf
   have:=(good_same (s':=s) (i':=a) hg' (by omega) (fun j hj=>(hB _ (by omega)).symm)).2
   rw[hg] at this
   cases this
def kdAt (s:ByteArray) (i:Nat):Int×Bool:=(((Utf8.decode s i).1:Nat),!goodAt s i)
def pkFrom (s:ByteArray) (i:Nat):List (Nat×Int×Bool):=(placesFrom s i).map fun x=>(x.1,kdAt s x.1)
def kindsFrom (s:ByteArray) (i:Nat):List (Int×Bool):=(placesFrom s i).map fun x=>kdAt s x.1
theorem pk_step {s:ByteArray}{i:Nat}(h:i<s.size):pkFrom s i=(i,kdAt s i)::pkFrom s (i+(Utf8.decode s i).2):=by rw[pkFrom,places_step h];rfl
theorem pk_end {s:ByteArray}{i:Nat}(h:s.size≤i):pkFrom s i=[]:=by rw[pkFrom,places_end h];rfl
theorem kinds_step {s:ByteArray}{i:Nat}(h:i<s.size):kindsFrom s i=kdAt s i::kindsFrom s (i+(Utf8.decode s i).2):=by rw[kindsFrom,places_step h];rfl
theorem kinds_end {s:ByteArray}{i:Nat}(h:s.size≤i):kindsFrom s i=[]:=by rw[kindsFrom,places_end h];rfl
theorem kinds_pk (s:ByteArray) (i:Nat):kindsFrom s i=(pkFrom s i).map (·.2):=by rw[kindsFrom,pkFrom,List.map_map];rfl
theorem pk_prefix {s:ByteArray}{p a:Nat}(hp:p≤s.size) (h:Reach s p a):pkFrom s a=pkFrom (s.extract 0 p) a++pkFrom s p:=by
 have hz:(s.extract 0 p).size=p:=by simp;omega
 induction h with
 | refl=>rw[pk_end (s:=s.extract 0 p) (by omega)];rfl
 | @step a h r ih=>
  have hl:=r.le
  have hw:=dec_width s a
  obtain⟨e1,e2⟩:=cut_dec hp hl
  rw[pk_step h,pk_step (s:=s.extract 0 p) (by rw[hz];omega),ih,e1]
  have e3:kdAt (s.extract 0 p) a=kdAt s a:=by unfold kdAt;rw[e1,e2]
  rw[e3]
  rfl
theorem kd_tail {s:ByteArray}{p:Nat}(hp:p≤s.size) (i:Nat):kdAt (s.extract p s.size) i=kdAt s (p+i):=by
 unfold kdAt
 have e:=Lib.tail_decode s p i
 have e2:goodAt (s.extract p s.size) i=goodAt s (p+i):=by unfold goodAt;rw[e,B_tail s p i hp]
 rw[e,e2]
theorem kinds_tail {s:ByteArray}{p:Nat}(hp:p≤s.size):∀d i,s.size - (p+i)=d→kindsFrom (s.extract p s.size) i=kindsFrom s (p+i):=by
 have hz:(s.extract p s.size).size=s.size - p:=by simp
 intro d
 induction d using Nat.strongRecOn with
 | _ d ih=>
  intro i hd
  have hw:=dec_width s (p+i)
  by_cases h:p+i<s.size
  ·rw[kinds_step h,kinds_step (s:=s.extract p s.size) (by rw[hz];omega),kd_tail hp,Lib.tail_decode s p i,ih (s.size - (p+(i+(Utf8.decode s (p+i)).2))) (by omega) _ rfl,Nat.add_assoc]
  ·rw[kinds_end (s:=s) (by omega),kinds_end (s:=s.extract p s.size) (by rw[hz];omega)]
theorem kinds_cut {s:ByteArray}{p:Nat}(hp:p≤s.size) (h:Reach s p 0):kindsFrom s 0=kindsFrom (s.extract 0 p) 0++kindsFrom (s.extract p s.size) 0:=by
 rw[kinds_tail hp _ 0 rfl,kinds_pk s 0,pk_prefix hp h,List.map_append,←kinds_pk,←kinds_pk]
 rfl
theorem wide_lead {s:ByteArray}{f:Nat}(h:1<(Utf8.decode s f).2):192≤B s f∧goodAt s f=true:=by
 refine⟨?_,good_iff.2 (Or.inl (by omega))⟩
 rw[dec_eq] at h
 rcases decodeN_cases (s.size - f) (B s f) (B s (f+1)) (B s (f+2)) (B s (f+3)) (B_lt _ _) (B_lt _ _) (B_lt _ _) (B_lt _ _) with ⟨_,e⟩ | ⟨_,x,e⟩ | ⟨_,x,e⟩ | ⟨_,x,e⟩ | ⟨_,_,_,_,e⟩
 ·rw[e] at h;simp at h
 ·unfold Seq at x;omega
 ·unfold Seq at x;omega
 ·unfold Seq at x;omega
 ·rw[e] at h;simp at h
theorem wide_tail {s:ByteArray}{g k:Nat}(h1:1≤k) (h:k<(Utf8.decode s g).2):B s (g+k)<192:=by
 rw[dec_eq] at h
 rcases decodeN_cases (s.size - g) (B s g) (B s (g+1)) (B s (g+2)) (B s (g+3)) (B_lt _ _) (B_lt _ _) (B_lt _ _) (B_lt _ _) with ⟨_,e⟩ | ⟨_,x,e⟩ | ⟨_,x,e⟩ | ⟨_,x,e⟩ | ⟨_,_,_,_,e⟩
 ·rw[e] at h;simp at h;omega
 ·rw[e] at h
  obtain rfl:k=1:=by simp at h;omega
  unfold Seq at x;omega
 ·rw[e] at h
  have:k=1∨k=2:=by simp at h;omega
  rcases this with rfl | rfl <;> unfold Seq at x <;> omega
 ·rw[e] at h
  have:k=1∨k=2∨k=3:=by simp at h;omega
  rcases this with rfl | rfl | rfl <;> unfold Seq at x <;> omega
 ·rw[e] at h;simp at h;omega
theorem reach_none {s:ByteArray}{p:Nat}(hp:p≤s.size) (h:∀f,p≤f+3→f<p→¬ (1<(Utf8.decode s f).2∧p<f+(Utf8.decode s f).2)):Reach s p 0:=by
 rcases reach_or hp _ 0 rfl (Nat.zero_le _) with h1 | ⟨f,_,h2,h3⟩
 ·exact h1
 ·have hw:=dec_width s f
  exact absurd ⟨by omega,h3⟩ (h f (by omega) h2)
theorem reach_wide {s:ByteArray}{f:Nat}(hf:f≤s.size) (h:1<(Utf8.decode s f).2):Reach s f 0:=by
 rcases reach_or hf _ 0 rfl (Nat.zero_le _) with h1 | ⟨g,_,h2,h3⟩
 ·exact h1
 ·have h4:=wide_tail (s:=s) (g:=g) (k:=f - g) (by omega) (by omega)
  have h5:=(wide_lead h).1
  rw[show g+(f - g)=f by omega] at h4
  omega
end Go.Proofs.YtioehfhdoohdmaaGreatDoor
namespace Go.Proofs.YtioehfhdoohdmaaGreatDoor
open Go
def stepK (T:Tab) (L:List Int) (k:Int×Bool):List Int:=if freeR T k.1 k.2 then L else L.filter fun n=>(bdL T k.1 k.2).contains n
def foldK (T:Tab) (ks:List (Int×Bool)):List Int:=ks.foldl (stepK T) (allL T.scripts.length)
theorem foldO_k (T:Tab) (s:ByteArray):foldO T s (places s)=foldK T (kindsFrom s 0):=by
 unfold foldO foldK kindsFrom places
 rw[List.foldl_map]
 rfl
theorem mem_foldl (T:Tab) (n:Int):∀(ks:List (Int×Bool)) (L:List Int),n∈ks.foldl (stepK T) L↔n∈L∧∀k∈ks,freeR T k.1 k.2=true∨n∈bdL T k.1 k.2
 | [],L=>by simp
 | k::t,L=>by
  rw[List.foldl_cons,mem_foldl T n t]
  unfold stepK
  cases h:freeR T k.1 k.2 with
  | true=>simp[h]
  | false=>
   simp only[if_neg (by decide:¬ (false=true)),List.mem_filter,List.contains_iff_mem,List.mem_cons,forall_eq_or_imp,h,false_or,and_assoc]
   constructor
   ·rintro⟨h1,h2,h3⟩;exact⟨h1,Or.inr h2,h3⟩
   ·rintro⟨h1,h2,h3⟩
    refine⟨h1,?_,h3⟩
    rcases h2 with h2 | h2
    ·cases h2
    ·exact h2
theorem mem_foldK (T:Tab) (n:Int) (ks:List (Int×Bool)):n∈foldK T ks↔n∈allL T.scripts.length∧∀k∈ks,freeR T k.1 k.2=true∨n∈bdL T k.1 k.2:=mem_foldl T n ks _
theorem foldK_sub {T:Tab}{ks ks':List (Int×Bool)}(h:∀k∈ks',k∈ks) {n:Int}(hn:n∈foldK T ks):n∈foldK T ks':=by
 rw[mem_foldK] at hn ⊢
 exact⟨hn.1,fun k hk=>hn.2 k (h k hk)⟩
theorem foldK_empty {T:Tab}{ks ks':List (Int×Bool)}(h:∀k∈ks',k∈ks) (he:foldK T ks'=[]):foldK T ks=[]:=
 List.eq_nil_iff_forall_not_mem.2 fun n hn=>by have:=foldK_sub h hn;rw[he] at this;cases this
def stopP (T:Tab):List (Nat×Int×Bool)→List Int→Nat→Option (Nat×Nat)
 | [],_,_=>none
 | x::t,L,n=>if freeR T x.2.1 x.2.2 then stopP T t L (n+1) else if (stepK T L x.2).isEmpty then some (x.1,n) else stopP T t (stepK T L x.2) (n+1)
theorem stopGo_p (T:Tab) (s:ByteArray):∀(ps:List (Pl s)) (L:List Int) (n:Nat),stopGo T s ps L n=stopP T (ps.map fun x=>(x.1,kdAt s x.1)) L n
 | [],_,_=>rfl
 | x::t,L,n=>by
  rw[stopGo_cons,List.map_cons,stopP,stopGo_p T s t,stopGo_p T s t]
  rfl
theorem stopN_p (T:Tab) (s:ByteArray):stopN T s=stopP T (pkFrom s 0) (allL T.scripts.length) 0:=stopGo_p T s _ _ _
def foldP (T:Tab) (l:List (Nat×Int×Bool)) (L:List Int):List Int:=(l.map (·.2)).foldl (stepK T) L
theorem stopP_some {T:Tab}:∀ {l:List (Nat×Int×Bool)}{L:List Int}{n p m:Nat},stopP T l L n=some (p,m) →
 ∃pre k post,l=pre++(p,k)::post∧m=n+pre.length∧stopP T pre L n=none∧freeR T k.1 k.2=false∧stepK T (foldP T pre L) k=[]:=by
 intro l
 induction l with
 | nil=>intro L n p m h;cases h
 | cons x t ih=>
  intro L n p m h
  rw[stopP] at h
  cases hf:freeR T x.2.1 x.2.2 with
  | true=>
   rw[if_pos hf] at h
   obtain⟨pre,k,post,e1,e2,e3,e4,e5⟩:=ih h
   have hs:stepK T L x.2=L:=by unfold stepK;rw[if_pos hf]
   refine⟨x::pre,k,post,by rw[e1];rfl,by rw[e2,List.length_cons];omega,by rw[stopP,if_pos hf];exact e3,e4,?_⟩
   show stepK T (foldP T pre (stepK T L x.2)) k=[]
   rw[hs];exact e5
  | false=>
   rw[if_neg (by rw[hf];decide)] at h
   by_cases he:(stepK T L x.2).isEmpty=true
   ·rw[if_pos he] at h
    obtain⟨rfl,rfl⟩:x.1=p∧n=m:=by simpa using h
    exact⟨[],x.2,t,rfl,rfl,rfl,hf,List.isEmpty_iff.1 he⟩
   ·rw[if_neg he] at h
    obtain⟨pre,k,post,e1,e2,e3,e4,e5⟩:=ih h
    exact⟨x::pre,k,post,by rw[e1];rfl,by rw[e2,List.length_cons];omega,by rw[stopP,if_neg (by rw[hf];decide),if_neg he];exact e3,e4,e5⟩
theorem stopP_is {T:Tab}:∀(pre:List (Nat×Int×Bool)) {x:Nat×Int×Bool}{post:List (Nat×Int×Bool)}{L:List Int}{n:Nat},freeR T x.2.1 x.2.2=false→stepK T (foldP T pre L) x.2=[]→(stopP T (pre++x::post) L n).isSome=true:=by
 intro pre
 induction pre with
 | nil=>
  intro x post L n hf he
  have he':stepK T L x.2=[]:=he
  rw[List.nil_append,stopP,if_neg (by rw[hf];decide),if_pos (by rw[he'];rfl)]
  rfl
 | cons y t ih=>
  intro x post L n hf he
  rw[List.cons_append,stopP]
  split
  ·rename_i h
   refine ih hf ?_
   have hs:stepK T L y.2=L:=by unfold stepK;rw[if_pos h]
   have he':stepK T (foldP T t (stepK T L y.2)) x.2=[]:=he
   rw[hs] at he';exact he'
  ·split
   ·rfl
   ·exact ih hf he
theorem stopP_at {T:Tab}:∀(pre:List (Nat×Int×Bool)) {x:Nat×Int×Bool}{post:List (Nat×Int×Bool)}{L:List Int}{n:Nat},stopP T pre L n=none→freeR T x.2.1 x.2.2=false→stepK T (foldP T pre L) x.2=[]→stopP T (pre++x::post) L n=some (x.1,n+pre.length):=by
 intro pre
 induction pre with
 | nil=>
  intro x post L n _ hf he
  have he':stepK T L x.2=[]:=he
  rw[List.nil_append,stopP,if_neg (by rw[hf];decide),if_pos (by rw[he'];rfl)]
  rfl
 | cons y t ih=>
  intro x post L n hn hf he
  rw[stopP] at hn
  rw[List.cons_append,stopP]
  have he':stepK T (foldP T t (stepK T L y.2)) x.2=[]:=he
  by_cases h:freeR T y.2.1 y.2.2=true
  ·rw[if_pos h] at hn ⊢
   have hs:stepK T L y.2=L:=by unfold stepK;rw[if_pos h]
   rw[hs] at he'
   rw[ih hn hf he',List.length_cons]
   congr 2;omega
  ·rw[if_neg h] at hn ⊢
   by_cases hE:(stepK T L y.2).isEmpty=true
   ·rw[if_pos hE] at hn;cases hn
   ·rw[if_neg hE] at hn ⊢
    rw[ih hn hf he',List.length_cons]
    congr 2;omega
theorem foldP_k (T:Tab) (l:List (Nat×Int×Bool)) (x:Nat×Int×Bool):stepK T (foldP T l (allL T.scripts.length)) x.2=foldK T (l.map (·.2)++[x.2]):=by
 unfold foldP foldK
 rw[List.foldl_append]
 rfl
theorem stop_iff (T:Tab) (s:ByteArray):(stopN T s).isSome=true↔∃pre k post,kindsFrom s 0=pre++k::post∧freeR T k.1 k.2=false∧foldK T (pre++[k])=[]:=by
 rw[stopN_p,kinds_pk]
 constructor
 ·intro h
  obtain⟨⟨p,m⟩,hv⟩:=Option.isSome_iff_exists.1 h
  obtain⟨pre,k,post,e1,_,_,e4,e5⟩:=stopP_some hv
  refine⟨pre.map (·.2),k,post.map (·.2),by rw[e1,List.map_append];rfl,e4,?_⟩
  rw[←foldP_k T pre (p,k)];exact e5
 ·rintro⟨pre,k,post,e1,e2,e3⟩
  obtain⟨l1,l2,e4,e5,e6⟩:=List.map_eq_append_iff.1 e1
  obtain⟨x,l3,e7,e8,e9⟩:=List.map_eq_cons_iff.1 e6
  subst e7 e8
  rw[e4]
  refine stopP_is l1 e2 ?_
  rw[foldP_k,e5];exact e3
theorem piece_law (T:Tab) (s:ByteArray) {p q:Nat}(hp:p≤s.size) (h:Reach s p 0) (hq:q≤(s.extract 0 p).size) (h':Reach (s.extract 0 p) q 0) :
 (∀n∈foldO T s (places s),n∈foldO T ((s.extract 0 p).extract q (s.extract 0 p).size) (places _))∧((stopN T ((s.extract 0 p).extract q (s.extract 0 p).size)).isSome=true→(stopN T s).isSome=true):=by
 have e1:=kinds_cut hp h
 have e2:=kinds_cut hq h'
 rw[foldO_k,foldO_k]
 rw[stop_iff,stop_iff]
 generalize kindsFrom ((s.extract 0 p).extract q (s.extract 0 p).size) 0=P at *
 rw[e2] at e1
 rw[e1]
 refine⟨fun n hn=>foldK_sub (fun k hk=>by simp[hk]) hn,?_⟩
 rintro⟨pre,k,post,rfl,e4,e5⟩
 refine⟨kindsFrom ((s.extract 0 p).extract 0 q) 0++pre,k,post++kindsFrom (s.extract p s.size) 0,by simp,e4,?_⟩
 exact foldK_empty (fun j hj=>by rw[List.append_assoc];exact List.mem_append_right _ hj) e5
end Go.Proofs.YtioehfhdoohdmaaGreatDoor
namespace Go.Proofs.YtioehfhdoohdmaaGreatDoor
open Go
theorem Reach.snoc {s:ByteArray}{p a:Nat}(h:Reach s p a) (hp:p<s.size):Reach s (p+(Utf8.decode s p).2) a:=by
 induction h with
 | refl=>exact Reach.step hp Reach.refl
 | step h r ih=>exact Reach.step h ih
theorem pk_split {s:ByteArray}:∀(pre:List (Nat×Int×Bool)) {a p:Nat}{k:Int×Bool}{post:List (Nat×Int×Bool)},pkFrom s a=pre++(p,k)::post→Reach s p a∧p<s.size∧pkFrom s p=(p,k)::post∧post=pkFrom s (p+(Utf8.decode s p).2):=by
 intro pre
 induction pre with
 | nil=>
  intro a p k post h
  by_cases ha:a<s.size
  ·rw[List.nil_append] at h
   have h2:=h
   rw[pk_step ha] at h2
   simp only[List.cons.injEq,Prod.mk.injEq] at h2
   obtain⟨⟨rfl,_⟩,h3⟩:=h2
   exact⟨Reach.refl,ha,h,h3.symm⟩
  ·rw[pk_end (by omega)] at h;cases h
 | cons y t ih=>
  intro a p k post h
  by_cases ha:a<s.size
  ·rw[pk_step ha,List.cons_append] at h
   obtain⟨h1,h2,h3,h4⟩:=ih (List.cons.inj h).2
   exact⟨Reach.step ha h1,h2,h3,h4⟩
  ·rw[pk_end (by omega)] at h;cases h
theorem stopP_none {T:Tab}:∀(l:List (Nat×Int×Bool)) {L:List Int}{n:Nat},stopP T l L n=none→L≠[]→foldP T l L≠[]:=by
 intro l
 induction l with
 | nil=>intro L n _ h;exact h
 | cons y t ih=>
  intro L n hn hL
  rw[stopP] at hn
  cases h:freeR T y.2.1 y.2.2 with
  | true=>
   rw[if_pos h] at hn
   have hs:stepK T L y.2=L:=by unfold stepK;rw[if_pos h]
   show foldP T t (stepK T L y.2)≠[]
   rw[hs]
   exact ih hn hL
  | false=>
   rw[if_neg (by rw[h];decide)] at hn
   by_cases hE:(stepK T L y.2).isEmpty=true
   ·rw[if_pos hE] at hn;cases hn
   ·rw[if_neg hE] at hn
    exact ih hn (fun e=>hE (by rw[e];rfl))
theorem foldP_K (T:Tab) (s:ByteArray):foldP T (pkFrom s 0) (allL T.scripts.length)=foldO T s (places s):=by
 rw[foldO_k]
 unfold foldP foldK
 rw[←kinds_pk]
theorem stops_none (T:Tab) (s:ByteArray) (h:stopN T s=none):0<(foldO T s (places s)).length∨T.scripts.length=0:=by
 rw[stopN_p] at h
 by_cases h0:T.scripts.length=0
 ·exact Or.inr h0
 ·left
  have:=stopP_none _ h (by intro e;have:=congrArg List.length e;rw[allL_len] at this;exact h0 this)
  rw[foldP_K] at this
  exact List.length_pos_iff.2 this
theorem stops_some (T:Tab) (s:ByteArray) {p m:Nat}(h:stopN T s=some (p,m)):p<s.size∧(places (s.extract 0 p)).length=m∧foldO T s (places s)=[]∧stopN T (s.extract 0 p)=none∧p+(Utf8.decode s p).2≤s.size∧stopN T (s.extract 0 (p+(Utf8.decode s p).2))=some (p,m):=by
 rw[stopN_p] at h
 obtain⟨pre,k,post,e1,e2,e3,e4,e5⟩:=stopP_some h
 obtain⟨r1,r2,r3,r4⟩:=pk_split pre e1
 have hf:=dec_fits r2
 have q1:=pk_prefix (Nat.le_of_lt r2) r1
 rw[e1,r3] at q1
 have q1:=(List.append_cancel_right q1).symm
 have q2:=pk_prefix hf (r1.snoc r2)
 rw[e1,←r4,show pre++(p,k)::post=(pre++[(p,k)])++post by simp] at q2
 have q2:=(List.append_cancel_right q2).symm
 refine⟨r2,?_,?_,by rw[stopN_p,q1];exact e3,hf,?_⟩
 ·have:=congrArg List.length q1
  unfold pkFrom at this
  rw[List.length_map] at this
  unfold places
  rw[this,e2];omega
 ·rw[foldO_k]
  refine foldK_empty (ks':=pre.map (·.2)++[k]) (fun j hj=>?_) ?_
  ·rw[kinds_pk,e1]
   simp only[List.map_append,List.map_cons,List.mem_append,List.mem_cons,List.mem_singleton] at hj ⊢
   rcases hj with h | rfl | h
   ·exact Or.inl h
   ·exact Or.inr (Or.inl rfl)
   ·cases h
  ·rw[←foldP_k T pre (p,k)];exact e5
 ·rw[stopN_p,q2,stopP_at pre e3 e4 e5,e2]
theorem inAll_one (n:Int) (l:List Int):inAll [n] l=l.contains n:=by simp[inAll]
end Go.Proofs.YtioehfhdoohdmaaGreatDoor
