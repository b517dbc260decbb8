/- RunsA: RunsP, RunsQ. -/
import Derived.Test.YtioehfhdoohdmaaGreatDoorRef14
set_option linter.unusedVariables false
set_option linter.unusedSimpArgs false
namespace Go.Proofs.YtioehfhdoohdmaaGreatDoor
open Go
abbrev RunI:=Nat×Nat×List Int
def refS (T:Tab) (s:ByteArray):List (Pl s)→Nat→Nat→List (Pl s)→List RunI
 | [],n,f,seg=>if f<n then [(f,n,rofL T s seg T.scripts.length)] else []
 | x::t,n,f,seg=>if mixB T s (seg++[x]) then
  (if f<n then [(f,n,rofL T s seg T.scripts.length)] else [])++(if mixB T s [x] then (n,n+1,[])::refS T s t (n+1) (n+1) [] else refS T s t (n+1) n [x])
  else refS T s t (n+1) f (seg++[x])
def goS (T:Tab) (s:ByteArray):List (Pl s)→Nat→Nat→List Int→List RunI
 | [],n,f,sc=>if f<n then [(f,n,sc)] else []
 | x::t,n,f,sc=>if freeR T (spR s x) (spB s x) then goS T s t (n+1) f sc
  else if ((sc.filter fun k=>(bdL T (spR s x) (spB s x)).contains k).length:Int) > 0 then goS T s t (n+1) f (sc.filter fun k=>(bdL T (spR s x) (spB s x)).contains k)
  else (if f<n then [(f,n,sc)] else [])++(if ((bdL T (spR s x) (spB s x)).length:Int) > 0 then goS T s t (n+1) n (bdL T (spR s x) (spB s x)) else (n,n+1,[])::goS T s t (n+1) (n+1) (allL T.scripts.length))
theorem bdL_in (T:Tab) (r:Int) (bad:Bool):(allL T.scripts.length).filter (fun k=>(bdL T r bad).contains k)=bdL T r bad:=by
 have h0:∀L:List Int,L=[]→L.filter (fun k=>(([]:List Int)).contains k)=[]:=fun L h=>by subst h;rfl
 unfold bdL
 split
 ·exact List.filter_eq_nil_iff.2 (by simp)
 ·split
  ·exact List.filter_eq_nil_iff.2 (by simp)
  ·unfold allL scrL
   rw[List.filter_map]
   congr 1
   refine List.filter_congr fun k hk=>?_
   have:=scrL_has T r k (List.mem_range.1 hk)
   unfold scrL at this
   exact this
theorem foldO_one (T:Tab) (s:ByteArray) (x:Pl s) (h:freeR T (spR s x) (spB s x)=false):foldO T s [x]=bdL T (spR s x) (spB s x):=by
 show stepO T s (allL T.scripts.length) x=_
 unfold stepO
 rw[if_neg (by rw[h];decide),bdL_in]
theorem mix_one (T:Tab) (s:ByteArray) (seg:List (Pl s)) (x:Pl s) (h:freeR T (spR s x) (spB s x)=false):mixB T s (seg++[x])=decide (¬ ((((foldO T s seg).filter fun k=>(bdL T (spR s x) (spB s x)).contains k).length:Int) > 0)):=by
 rw[mixB_fold,foldO_snoc,List.all_append]
 have h1:([x].all fun x=>freeR T (spR s x) (spB s x))=false:=by simp[h]
 rw[h1,Bool.and_false,Bool.not_false,Bool.true_and]
 unfold stepO
 rw[if_neg (by rw[h];decide)]
 cases (foldO T s seg).filter fun k=>(bdL T (spR s x) (spB s x)).contains k <;> simp
theorem mix_nil (T:Tab) (s:ByteArray):mixB T s []=false:=by rw[mixB_fold];rfl
theorem go_ref (T:Tab) (s:ByteArray):∀(l:List (Pl s)) (n f:Nat) (seg:List (Pl s)),mixB T s seg=false→f+seg.length=n→goS T s l n f (foldO T s seg)=refS T s l n f seg:=by
 intro l
 induction l with
 | nil=>intro n f seg _ _;unfold goS refS;rw[foldO_rof]
 | cons x t ih=>
  intro n f seg hm hf
  rw[goS,refS]
  cases h:freeR T (spR s x) (spB s x) with
  | true=>
   have h1:mixB T s (seg++[x])=false:=by rw[mix_snoc T s seg x hm,h];rfl
   have h2:foldO T s (seg++[x])=foldO T s seg:=by rw[foldO_snoc];unfold stepO;rw[if_pos h]
   rw[if_pos rfl,h1,if_neg (by decide),←ih (n+1) f (seg++[x]) h1 (by rw[List.length_append,List.length_singleton];omega),h2]
  | false=>
   have hff:¬ (false=true):=by decide
   rw[if_neg hff,mix_one T s seg x h]
   by_cases hb:(((foldO T s seg).filter fun k=>(bdL T (spR s x) (spB s x)).contains k).length:Int) > 0
   ·have h2:foldO T s (seg++[x])=(foldO T s seg).filter fun k=>(bdL T (spR s x) (spB s x)).contains k:=by rw[foldO_snoc];unfold stepO;rw[if_neg (by rw[h];decide)]
    have d1:decide (¬ ((((foldO T s seg).filter fun k=>(bdL T (spR s x) (spB s x)).contains k).length:Int) > 0))=false:=decide_eq_false (fun hh=>hh hb)
    have h1:mixB T s (seg++[x])=false:=by rw[mix_one T s seg x h,d1]
    rw[if_pos hb,d1,if_neg hff,←ih (n+1) f (seg++[x]) h1 (by rw[List.length_append,List.length_singleton];omega),h2]
   ·have d1:decide (¬ ((((foldO T s seg).filter fun k=>(bdL T (spR s x) (spB s x)).contains k).length:Int) > 0))=true:=decide_eq_true hb
    rw[if_neg hb,d1,if_pos (rfl:true=true),foldO_rof]
    have e0:(foldO T s ([]:List (Pl s))).filter (fun k=>(bdL T (spR s x) (spB s x)).contains k)=bdL T (spR s x) (spB s x):=bdL_in T _ _
    have e1:=mix_one T s [] x h
    rw[List.nil_append,e0] at e1
    by_cases hc:((bdL T (spR s x) (spB s x)).length:Int) > 0
    ·have d2:mixB T s [x]=false:=by rw[e1];exact decide_eq_false (fun hh=>hh hc)
     rw[if_pos hc,d2,if_neg hff,←ih (n+1) n [x] d2 rfl,foldO_one T s x h]
    ·have d2:mixB T s [x]=true:=by rw[e1];exact decide_eq_true hc
     rw[if_neg hc,d2,if_pos (rfl:true=true),←ih (n+1) (n+1) [] (mix_nil T s) rfl]
     rfl
def runsL (T:Tab) (s:ByteArray):List RunI:=refS T s (places s) 0 0 []
theorem runs_go (T:Tab) (s:ByteArray):goS T s (places s) 0 0 (allL T.scripts.length)=runsL T s:=go_ref T s (places s) 0 0 [] (mix_nil T s) rfl
end Go.Proofs.YtioehfhdoohdmaaGreatDoor
namespace Go.Proofs.YtioehfhdoohdmaaGreatDoor
open Go
theorem refS_row (T:Tab) (s:ByteArray):∀(l:List (Pl s)) (n f:Nat) (seg:List (Pl s)),f≤n→∀r∈refS T s l n f seg,r.1<r.2.1∧r.2.1≤n+l.length:=by
 intro l
 induction l with
 | nil=>
  intro n f seg hf r hr
  rw[refS] at hr
  split at hr
  ·rw[List.mem_singleton.1 hr];simp;omega
  ·cases hr
 | cons x t ih=>
  intro n f seg hf r hr
  rw[refS] at hr
  rw[List.length_cons]
  split at hr
  ·rcases List.mem_append.1 hr with hr | hr
   ·split at hr
    ·rw[List.mem_singleton.1 hr];simp;omega
    ·cases hr
   ·split at hr
    ·rcases List.mem_cons.1 hr with rfl | hr
     ·exact⟨Nat.lt_succ_self _,by simp only;omega⟩
     ·have:=ih (n+1) (n+1) [] (Nat.le_refl _) r hr;omega
    ·have:=ih (n+1) n [x] (by omega) r hr;omega
  ·have:=ih (n+1) f (seg++[x]) (by omega) r hr;omega
theorem runs_row (T:Tab) (s:ByteArray) {r:RunI}(h:r∈runsL T s):r.1<r.2.1∧r.2.1≤(places s).length:=by
 have:=refS_row T s (places s) 0 0 [] (Nat.le_refl _) r h
 omega
theorem refS_few (T:Tab) (s:ByteArray):∀(l:List (Pl s)) (n f:Nat) (seg:List (Pl s)),∀r∈refS T s l n f seg,r.2.2.length≤T.scripts.length:=by
 intro l
 induction l with
 | nil=>
  intro n f seg r hr
  rw[refS] at hr
  split at hr
  ·rw[List.mem_singleton.1 hr];exact rofL_len T s seg _
  ·cases hr
 | cons x t ih=>
  intro n f seg r hr
  rw[refS] at hr
  split at hr
  ·rcases List.mem_append.1 hr with hr | hr
   ·split at hr
    ·rw[List.mem_singleton.1 hr];exact rofL_len T s seg _
    ·cases hr
   ·split at hr
    ·rcases List.mem_cons.1 hr with rfl | hr
     ·exact Nat.zero_le _
     ·exact ih _ _ _ r hr
    ·exact ih _ _ _ r hr
  ·exact ih _ _ _ r hr
theorem runs_few (T:Tab) (s:ByteArray) {r:RunI}(h:r∈runsL T s):r.2.2.length≤T.scripts.length:=refS_few T s (places s) 0 0 [] r h
theorem pre_at {α β:Type}{f:α→β}{pre:List α}{x:α}{L:List β}(h:(pre++[x]).map f <+: L):L[pre.length]?=some (f x):=by
 obtain⟨t,rfl⟩:=h
 rw[List.map_append,List.append_assoc,List.getElem?_append_right (by rw[List.length_map];exact Nat.le_refl _),List.length_map,Nat.sub_self]
 rfl
theorem refS_cnt (T:Tab) (s:ByteArray):∀(l:List (Pl s)) (n f:Nat) (seg:List (Pl s)),f≤n→(refS T s l n f seg).length≤l.length+(if f<n then 1 else 0):=by
 intro l
 induction l with
 | nil=>
  intro n f seg _
  rw[refS]
  split <;> simp
 | cons x t ih=>
  intro n f seg hf
  have hh:(if f<n then [(f,n,rofL T s seg T.scripts.length)] else ([]:List RunI)).length=if f<n then 1 else 0:=by split <;> rfl
  rw[refS,List.length_cons]
  by_cases h1:mixB T s (seg++[x])=true
  ·rw[if_pos h1,List.length_append,hh]
   by_cases h2:mixB T s [x]=true
   ·have:=ih (n+1) (n+1) [] (Nat.le_refl _)
    rw[if_neg (Nat.lt_irrefl _)] at this
    rw[if_pos h2,List.length_cons]
    omega
   ·have:=ih (n+1) n [x] (by omega)
    rw[if_pos (Nat.lt_succ_self _)] at this
    rw[if_neg h2]
    omega
  ·have:=ih (n+1) f (seg++[x]) (by omega)
   rw[if_pos (by omega)] at this
   rw[if_neg h1]
   omega
theorem runs_cnt (T:Tab) (s:ByteArray):(runsL T s).length≤(places s).length:=by
 have:=refS_cnt T s (places s) 0 0 [] (Nat.le_refl _)
 simpa [runsL] using this
end Go.Proofs.YtioehfhdoohdmaaGreatDoor
