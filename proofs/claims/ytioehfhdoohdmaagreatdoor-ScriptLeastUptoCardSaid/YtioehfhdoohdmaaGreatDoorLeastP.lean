/- Plain: no cutting of a text into pieces that are not mixed, or are one spot, has fewer pieces than its runs. -/
import Derived.Test.YtioehfhdoohdmaaGreatDoorRunsA
set_option linter.unusedVariables false
set_option linter.unusedSimpArgs false
namespace Go.Proofs.YtioehfhdoohdmaaGreatDoor
open Go
theorem seg_more {α:Type}{l:List α}{i e:Nat}(hi:i≤e) (he:e<l.length):(l.drop i).take (e+1 - i)=(l.drop i).take (e - i)++[l[e]]:=by
 rw[show e+1 - i=(e - i)+1 by omega,List.take_add_one,List.getElem?_drop,show i+(e - i)=e by omega,List.getElem?_eq_getElem he]
 rfl
def gst (mix:Nat→Nat→Bool):Nat→Nat×Nat
 | 0=>(0,0)
 | n+1=>if mix (gst mix n).2 (n+1) then (if mix n (n+1) then ((gst mix n).1+(if (gst mix n).2<n then 1 else 0)+1,n+1) else ((gst mix n).1+(if (gst mix n).2<n then 1 else 0),n)) else gst mix n
def gN (mix:Nat→Nat→Bool) (n:Nat):Nat:=(gst mix n).1+if (gst mix n).2<n then 1 else 0
structure GInv (mix:Nat→Nat→Bool) (n:Nat):Prop where
 a:(gst mix n).2≤n
 b:∀m,(gst mix n).2<m→m≤n→gN mix m=(gst mix n).1+1
 c:(gst mix n).2<n→mix (gst mix n).2 n=false
 c2:gN mix (gst mix n).2=(gst mix n).1
 d:(gst mix n).2=n→0<n→mix (n - 1) n=true∧gN mix n=gN mix (n - 1)+1
theorem gst_keep {mix:Nat→Nat→Bool}{n:Nat}(h:mix (gst mix n).2 (n+1)=false):gst mix (n+1)=gst mix n:=by rw[gst,h];rfl
theorem gst_bad {mix:Nat→Nat→Bool}{n:Nat}(h:mix (gst mix n).2 (n+1)=true) (h2:mix n (n+1)=true):gst mix (n+1)=(gN mix n+1,n+1):=by rw[gst,h,h2];rfl
theorem gst_cut {mix:Nat→Nat→Bool}{n:Nat}(h:mix (gst mix n).2 (n+1)=true) (h2:mix n (n+1)=false):gst mix (n+1)=(gN mix n,n):=by rw[gst,h,h2];rfl
theorem gInv (mix:Nat→Nat→Bool):∀n,GInv mix n:=by
 intro n
 induction n with
 | zero=>exact⟨Nat.le_refl _,fun m h1 h2=>by simp only[gst] at h1;omega,fun h=>by simp only[gst] at h;omega,rfl,fun _ h=>by omega⟩
 | succ n ih=>
  cases h:mix (gst mix n).2 (n+1) with
  | false=>
   have e:=gst_keep h
   have hb:gN mix (n+1)=(gst mix n).1+1:=by
    unfold gN;rw[e,if_pos (by have:=ih.a;omega)]
   refine⟨by rw[e];have:=ih.a;omega,fun m h1 h2=>?_,fun _=>by rw[e];exact h,by rw[e];exact ih.c2,fun h1=>?_⟩
   ·rw[e] at h1 ⊢
    rcases Nat.lt_or_ge n m with hh | hh
    ·obtain rfl:m=n+1:=by omega
     exact hb
    ·exact ih.b m h1 hh
   ·rw[e] at h1;have:=ih.a;omega
  | true=>
   cases h2:mix n (n+1) with
   | true=>
    have e:=gst_bad h h2
    have hg:gN mix (n+1)=gN mix n+1:=by
     show (gst mix (n+1)).1+_=_
     rw[e];simp
    refine⟨by rw[e];exact Nat.le_refl _,fun m h3 h4=>?_,fun h3=>?_,?_,fun _ _=>⟨h2,hg⟩⟩
    ·rw[e] at h3;simp only at h3;omega
    ·rw[e] at h3;simp only at h3;omega
    ·rw[e];exact hg
   | false=>
    have e:=gst_cut h h2
    have hg:gN mix (n+1)=gN mix n+1:=by
     show (gst mix (n+1)).1+_=_
     rw[e];simp
    refine⟨by rw[e];simp,fun m h3 h4=>?_,fun h3=>?_,?_,fun h3=>?_⟩
    ·rw[e] at h3 ⊢;simp only at h3
     obtain rfl:m=n+1:=by omega
     exact hg
    ·rw[e];exact h2
    ·rw[e]
    ·rw[e] at h3;simp only at h3;omega
theorem gN_step (mix:Nat→Nat→Bool) (n:Nat):gN mix (n+1)≤gN mix n+1:=by
 have ih:=gInv mix n
 cases h:mix (gst mix n).2 (n+1) with
 | false=>
  have e:=gst_keep h
  unfold gN
  rw[e,if_pos (by have:=ih.a;omega)]
  split <;> omega
 | true=>
  cases h2:mix n (n+1) with
  | true=>
   have e:=gst_bad h h2
   show (gst mix (n+1)).1+_≤_
   rw[e];simp
  | false=>
   have e:=gst_cut h h2
   show (gst mix (n+1)).1+_≤_
   rw[e];simp
def MixM (mix:Nat→Nat→Bool) (N:Nat):Prop:=∀i i' e e',i≤i'→e'≤e→e≤N→mix i e=false→mix i' e'=false
theorem gN_low {mix:Nat→Nat→Bool}{N:Nat}(hM:MixM mix N):∀n,n≤N→∀i,i<n→mix i n=false→gN mix n≤gN mix i+1:=by
 intro n
 induction n with
 | zero=>intro _ i h;omega
 | succ n ih=>
  intro hN i hi hm
  have I:=gInv mix n
  rcases Nat.lt_or_ge i n with hlt | hge
  ·have hm2:mix i n=false:=hM i i (n+1) n (Nat.le_refl _) (by omega) hN hm
   have h1:=ih (by omega) i hlt hm2
   cases h:mix (gst mix n).2 (n+1) with
   | false=>
    have e:=gst_keep h
    rcases Nat.lt_or_ge (gst mix n).2 n with hf | hf
    ·have h2:gN mix (n+1)=gN mix n:=by
      unfold gN
      rw[e,if_pos (by omega),if_pos hf]
     omega
    ·have hfe:(gst mix n).2=n:=by have:=I.a;omega
     have:=hM i (n - 1) (n+1) n (by omega) (by omega) hN hm
     rw[(I.d hfe (by omega)).1] at this
     cases this
   | true=>
    have hfi:(gst mix n).2<i:=by
     rcases Nat.lt_or_ge (gst mix n).2 i with hh | hh
     ·exact hh
     ·have:=hM i (gst mix n).2 (n+1) (n+1) hh (Nat.le_refl _) hN hm
      rw[h] at this;cases this
    have h2:=I.b i hfi (by omega)
    have h3:=I.b n (by omega) (Nat.le_refl _)
    have h4:=gN_step mix n
    omega
  ·obtain rfl:i=n:=by omega
   exact gN_step mix i
theorem gN_att (mix:Nat→Nat→Bool) (n:Nat) (h0:0<n):∃f,f<n∧(f+1=n∨mix f n=false)∧gN mix n=gN mix f+1:=by
 have I:=gInv mix n
 rcases Nat.lt_or_ge (gst mix n).2 n with hf | hf
 ·exact⟨_,hf,Or.inr (I.c hf),by rw[I.b n hf (Nat.le_refl _),I.c2]⟩
 ·have hfe:(gst mix n).2=n:=by have:=I.a;omega
  exact⟨n - 1,by omega,Or.inl (by omega),(I.d hfe h0).2⟩
def mixR (T:Tab) (s:ByteArray) (i e:Nat):Bool:=mixB T s (((places s).drop i).take (e - i))
theorem foldO_filter (T:Tab) (s:ByteArray) (ps:List (Pl s)):foldO T s ps=(allL T.scripts.length).filter fun k=>ps.all (onB T s k):=by
 unfold foldO
 rw[foldO_all T s ps _ (fun k hk=>by
  unfold allL at hk
  obtain⟨j,hj,rfl⟩:=List.mem_map.1 hk
  exact⟨j,List.mem_range.1 hj,rfl⟩)]
theorem mix_sub (T:Tab) (s:ByteArray) {a b:List (Pl s)}(hs:∀x∈b,x∈a) (h:mixB T s a=false):mixB T s b=false:=by
 rw[mixB_fold] at h ⊢
 rcases Bool.and_eq_false_iff.1 h with h1 | h1
 ·have h2:a.all (fun x=>freeR T (spR s x) (spB s x))=true:=by simpa using h1
  have h3:b.all (fun x=>freeR T (spR s x) (spB s x))=true:=List.all_eq_true.2 fun x hx=>List.all_eq_true.1 h2 x (hs x hx)
  rw[h3];rfl
 ·rw[foldO_filter] at h1 ⊢
  rw[Bool.and_eq_false_iff]
  right
  cases hc:(allL T.scripts.length).filter (fun k=>a.all (onB T s k)) with
  | nil=>rw[hc] at h1;cases h1
  | cons k t=>
   have hk:k∈(allL T.scripts.length).filter (fun k=>a.all (onB T s k)):=by rw[hc];exact List.mem_cons_self
   obtain⟨hk1,hk2⟩:=List.mem_filter.1 hk
   have hk3:k∈(allL T.scripts.length).filter (fun k=>b.all (onB T s k)):=List.mem_filter.2 ⟨hk1,List.all_eq_true.2 fun x hx=>List.all_eq_true.1 hk2 x (hs x hx)⟩
   cases hd:(allL T.scripts.length).filter (fun k=>b.all (onB T s k)) with
   | nil=>rw[hd] at hk3;cases hk3
   | cons _ _=>rfl
theorem mixR_mono (T:Tab) (s:ByteArray):MixM (mixR T s) (places s).length:=by
 intro i i' e e' hi he _ h
 refine mix_sub T s (fun x hx=>?_) h
 obtain⟨j,hj,rfl⟩:=List.mem_iff_getElem.1 hx
 simp only[List.length_take,List.length_drop] at hj
 rw[List.getElem_take,List.getElem_drop]
 refine List.mem_iff_getElem.2 ⟨i' - i+j,by simp only[List.length_take,List.length_drop];omega,?_⟩
 rw[List.getElem_take,List.getElem_drop]
 congr 1
 omega
def leastN (T:Tab) (s:ByteArray) (n:Nat):Nat:=gN (mixR T s) n
theorem refS_len (T:Tab) (s:ByteArray):∀(k n:Nat),n+k=(places s).length→(refS T s ((places s).drop n) n (gst (mixR T s) n).2 (((places s).drop (gst (mixR T s) n).2).take (n - (gst (mixR T s) n).2))).length+(gst (mixR T s) n).1=leastN T s (places s).length:=by
 intro k
 induction k with
 | zero=>
  intro n hn
  obtain rfl:n=(places s).length:=by omega
  rw[List.drop_length,refS]
  unfold leastN gN
  split <;> (simp;try omega)
 | succ k ih=>
  intro n hn
  have hlt:n<(places s).length:=by omega
  have I:=gInv (mixR T s) n
  have e1:((places s).drop (gst (mixR T s) n).2).take (n - (gst (mixR T s) n).2)++[(places s)[n]]=((places s).drop (gst (mixR T s) n).2).take (n+1 - (gst (mixR T s) n).2):=(seg_more I.a hlt).symm
  have e2:[(places s)[n]]=((places s).drop n).take (n+1 - n):=by rw[seg_more (Nat.le_refl _) hlt];simp
  have m1:mixB T s (((places s).drop (gst (mixR T s) n).2).take (n+1 - (gst (mixR T s) n).2))=mixR T s (gst (mixR T s) n).2 (n+1):=rfl
  have m2:mixB T s [(places s)[n]]=mixR T s n (n+1):=by rw[e2];rfl
  have hi:=ih (n+1) (by omega)
  rw[List.drop_eq_getElem_cons hlt,refS,e1,m1,m2]
  cases h:mixR T s (gst (mixR T s) n).2 (n+1) with
  | false=>
   rw[gst_keep h] at hi
   rw[if_neg (show ¬ (false=true) by decide)]
   exact hi
  | true=>
   rw[if_pos (show (true=true) from rfl)]
   have hG:gN (mixR T s) n=(gst (mixR T s) n).1+if (gst (mixR T s) n).2<n then 1 else 0:=rfl
   cases h2:mixR T s n (n+1) with
   | true=>
    rw[gst_bad h h2] at hi
    simp only[Nat.sub_self,List.take_zero] at hi
    rw[if_pos (show (true=true) from rfl),List.length_append,List.length_cons,←hi,hG]
    split <;> (simp;try omega)
   | false=>
    rw[gst_cut h h2] at hi
    simp only at hi
    rw[←e2] at hi
    rw[if_neg (show ¬ (false=true) by decide),List.length_append,←hi,hG]
    split <;> (simp;try omega)
theorem runs_least (T:Tab) (s:ByteArray):(runsL T s).length=leastN T s (places s).length:=by
 have:=refS_len T s (places s).length 0 (by omega)
 simpa [gst,runsL] using this
theorem least_zero (T:Tab) (s:ByteArray):leastN T s 0=0:=rfl
theorem least_le (T:Tab) (s:ByteArray) (n:Nat):leastN T s n≤n:=by
 induction n with
 | zero=>exact Nat.le_refl _
 | succ n ih=>have:=gN_step (mixR T s) n;unfold leastN at *;omega
def InnR (T:Tab) (s:ByteArray) (e m cur:Nat):Prop:=leastN T s e≤cur∧cur≤e∧(cur=leastN T s e∨∃q,q<m∧mixR T s q e=false∧leastN T s e=leastN T s q+1)
theorem inn_start (T:Tab) (s:ByteArray) {e:Nat}(h0:0<e):InnR T s e (e - 1) (leastN T s (e - 1)+1):=by
 obtain⟨f,hf,h1,h2⟩:=gN_att (mixR T s) e h0
 have hs:=gN_step (mixR T s) (e - 1)
 rw[show e - 1+1=e by omega] at hs
 have hle:=least_le T s (e - 1)
 refine⟨hs,by omega,?_⟩
 rcases h1 with h1 | h1
 ·left
  rw[show e - 1=f by omega]
  exact h2.symm
 ·by_cases hfe:f+1=e
  ·left
   rw[show e - 1=f by omega]
   exact h2.symm
  ·exact Or.inr ⟨f,by omega,h1,h2⟩
theorem inn_break {T:Tab}{s:ByteArray}{e m cur:Nat}(h:InnR T s e (m+1) cur) (he:e≤(places s).length) (hm:mixR T s m e=true):cur=leastN T s e:=by
 obtain⟨_,_,h | ⟨q,hq,h1,_⟩⟩:=h
 ·exact h
 ·have:=mixR_mono T s q m e e (by omega) (Nat.le_refl _) he h1
  rw[hm] at this;cases this
theorem inn_low {T:Tab}{s:ByteArray}{e m:Nat}(he:e≤(places s).length) (hme:m<e) (hm:mixR T s m e=false):leastN T s e≤leastN T s m+1:=gN_low (mixR_mono T s) e he m hme hm
theorem inn_less {T:Tab}{s:ByteArray}{e m cur:Nat}(h:InnR T s e (m+1) cur) (he:e≤(places s).length) (hme:m<e) (hm:mixR T s m e=false) (hlt:leastN T s m+1<cur):InnR T s e m (leastN T s m+1):=by
 have hl:=inn_low he hme hm
 obtain⟨h1,h2,h3⟩:=h
 refine⟨hl,by omega,?_⟩
 rcases h3 with h3 | ⟨q,hq,h4,h5⟩
 ·omega
 ·by_cases hqm:q=m
  ·left;rw[h5,hqm]
  ·exact Or.inr ⟨q,by omega,h4,h5⟩
theorem inn_keep {T:Tab}{s:ByteArray}{e m cur:Nat}(h:InnR T s e (m+1) cur) (he:e≤(places s).length) (hme:m<e) (hm:mixR T s m e=false) (hlt:¬ leastN T s m+1<cur):InnR T s e m cur:=by
 have hl:=inn_low he hme hm
 obtain⟨h1,h2,h3⟩:=h
 refine⟨h1,h2,?_⟩
 rcases h3 with h3 | ⟨q,hq,h4,h5⟩
 ·exact Or.inl h3
 ·by_cases hqm:q=m
  ·left;rw[hqm] at h5;omega
  ·exact Or.inr ⟨q,by omega,h4,h5⟩
theorem inn_end {T:Tab}{s:ByteArray}{e cur:Nat}(h:InnR T s e 0 cur):cur=leastN T s e:=by
 obtain⟨_,_,h | ⟨q,hq,_⟩⟩:=h
 ·exact h
 ·omega
def bestV (f:Nat→Nat) (N e cur:Nat):List Value:=(List.range (N+1)).map fun k=>.int .i64 ((if k<e then f k else if k=e then cur else 0:Nat):Int)
theorem bestV_get (f:Nat→Nat) {N:Nat}(e cur:Nat) {k:Nat}(hk:k≤N):(bestV f N e cur)[k]?=some (.int .i64 ((if k<e then f k else if k=e then cur else 0:Nat):Int)):=by
 unfold bestV
 rw[List.getElem?_map,List.getElem?_range (by omega)]
 rfl
theorem bestV_len (f:Nat→Nat) (N e cur:Nat):(bestV f N e cur).length=N+1:=by simp[bestV]
theorem bestV_set (f:Nat→Nat) {N e:Nat}(cur c:Nat) (he:e≤N):(bestV f N e cur).set e (.int .i64 (c:Int))=bestV f N e c:=by
 apply List.ext_getElem?
 intro k
 by_cases hk:k=e
 ·subst hk
  rw[List.getElem?_set_self (by rw[bestV_len];omega),bestV_get f k c he,if_neg (Nat.lt_irrefl _),if_pos rfl]
 ·rw[List.getElem?_set_ne (fun h=>hk h.symm)]
  by_cases hkN:k≤N
  ·rw[bestV_get f e cur hkN,bestV_get f e c hkN,if_neg hk,if_neg hk]
  ·rw[List.getElem?_eq_none (by rw[bestV_len];omega),List.getElem?_eq_none (by rw[bestV_len];omega)]
theorem bestV_next (f:Nat→Nat) {N e cur:Nat}(h:cur=f e):bestV f N e cur=bestV f N (e+1) 0:=by
 unfold bestV
 apply List.map_congr_left
 intro k _
 by_cases h1:k<e
 ·rw[if_pos h1,if_pos (by omega)]
 ·by_cases h2:k=e
  ·subst h2;rw[if_neg h1,if_pos rfl,if_pos (by omega),h]
  ·rw[if_neg h1,if_neg h2,if_neg (by omega)];split <;> rfl
theorem bestV_start (f:Nat→Nat) (N:Nat) (h:f 0=0):List.replicate (N+1) (.int .i64 0)=bestV f N 1 0:=by
 apply List.ext_getElem?
 intro k
 by_cases hk:k≤N
 ·rw[bestV_get f 1 0 hk,List.getElem?_replicate,if_pos (by omega)]
  by_cases h1:k<1
  ·rw[if_pos h1,show k=0 by omega,h];rfl
  ·rw[if_neg h1];split <;> rfl
 ·rw[List.getElem?_eq_none (by rw[List.length_replicate];omega),List.getElem?_eq_none (by rw[bestV_len];omega)]
end Go.Proofs.YtioehfhdoohdmaaGreatDoor
