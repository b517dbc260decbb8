/- Plain: a run's piece of the text: what it can be of, whether it is mixed, how many spots it has. -/
import Derived.Test.YtioehfhdoohdmaaGreatDoorScrLaw3
import Derived.Test.YtioehfhdoohdmaaGreatDoorRunsIt
import Derived.Test.YtioehfhdoohdmaaGreatDoorLeastP
import Derived.Test.YtioehfhdoohdmaaGreatDoorKindsA
set_option linter.unusedVariables false
set_option linter.unusedSimpArgs false
namespace Go.Proofs.YtioehfhdoohdmaaGreatDoor
open Go
theorem foldO_kk (T:Tab) (s:ByteArray) (ps:List (Pl s)):foldO T s ps=foldK T (ps.map fun x=>kdAt s x.1):=by
 unfold foldO foldK
 rw[List.foldl_map]
 rfl
def mixK (T:Tab) (ks:List (Int×Bool)):Bool:=!(ks.all fun k=>freeR T k.1 k.2) && (foldK T ks).isEmpty
theorem mixB_k (T:Tab) (s:ByteArray) (ps:List (Pl s)):mixB T s ps=mixK T (ps.map fun x=>kdAt s x.1):=by
 rw[mixB_fold,foldO_kk,mixK,List.all_map]
 rfl
theorem stop_mixK (T:Tab) (s:ByteArray):(stopN T s).isSome=mixK T (kindsFrom s 0):=by
 have hk:mixB T s (places s)=mixK T (kindsFrom s 0):=mixB_k T s (places s)
 cases h:(stopN T s).isSome with
 | false=>
  have h2:stopN T s=none:=by
   cases h3:stopN T s with
   | none=>rfl
   | some _=>rw[h3] at h;cases h
  rw[←hk,noStop_mixB T s (places s) h2]
 | true=>
  obtain⟨pre,k,post,e1,e2,e3⟩:=(stop_iff T s).1 h
  unfold mixK
  have h1:(kindsFrom s 0).all (fun k=>freeR T k.1 k.2)=false:=by
   rw[e1,List.all_append,List.all_cons,e2];simp
  have h2:foldK T (kindsFrom s 0)=[]:=foldK_empty (fun x hx=>by rw[e1];simp only[List.mem_append,List.mem_cons,List.mem_singleton,List.not_mem_nil,or_false] at hx ⊢;rcases hx with hx | rfl;exact Or.inl hx;exact Or.inr (Or.inl rfl)) e3
  rw[h1,h2];rfl
theorem pk_len (s:ByteArray) (i:Nat):(pkFrom s i).length=(placesFrom s i).length:=by rw[pkFrom,List.length_map]
theorem kinds_len (s:ByteArray):(kindsFrom s 0).length=(places s).length:=by rw[kindsFrom,List.length_map];rfl
theorem posAt_pk (s:ByteArray) (i:Nat):posAt s i=(((pkFrom s 0)[i]?).map (·.1)).getD s.size:=by
 unfold posAt pkFrom places
 rw[List.getElem?_map,Option.map_map]
 rfl
theorem pk_take {t:ByteArray}{j:Nat}(hj:j<(places t).length):posAt t j<t.size∧Reach t (posAt t j) 0∧pkFrom (t.extract 0 (posAt t j)) 0=(pkFrom t 0).take j:=by
 have hl:j<(pkFrom t 0).length:=by rw[pk_len];exact hj
 have hp:posAt t j=((pkFrom t 0)[j]).1:=by rw[posAt_pk,List.getElem?_eq_getElem hl];rfl
 have e:pkFrom t 0=(pkFrom t 0).take j++(posAt t j,((pkFrom t 0)[j]).2)::(pkFrom t 0).drop (j+1):=by
  rw[hp]
  show _=(pkFrom t 0).take j++(pkFrom t 0)[j]::(pkFrom t 0).drop (j+1)
  rw[←List.drop_eq_getElem_cons hl,List.take_append_drop]
 obtain⟨h1,h2,h3,_⟩:=pk_split _ e
 refine⟨h2,h1,?_⟩
 have h4:=pk_prefix (Nat.le_of_lt h2) h1
 rw[h3] at h4
 exact List.append_cancel_right (h4.symm.trans e)
theorem pk_takeE {t:ByteArray}{j:Nat}(hj:j≤(places t).length):pkFrom (t.extract 0 (posAt t j)) 0=(pkFrom t 0).take j:=by
 rcases Nat.lt_or_ge j (places t).length with h | h
 ·exact (pk_take h).2.2
 ·obtain rfl:j=(places t).length:=by omega
  rw[posAt_end,show t.extract 0 t.size=t from by apply ByteArray.ext;simp,List.take_of_length_le (by rw[pk_len];exact Nat.le_refl _)]
theorem kinds_piece {t:ByteArray}{i j:Nat}(hij:i<j) (hj:j≤(places t).length):posAt t i<posAt t j∧posAt t j≤t.size∧kindsFrom (t.extract (posAt t i) (posAt t j)) 0=((kindsFrom t 0).drop i).take (j - i):=by
 have hq:=posAt_le t j
 have e1:=pk_takeE hj
 obtain⟨u,hu⟩:∃u,t.extract 0 (posAt t j)=u:=⟨_,rfl⟩
 have hz:u.size=posAt t j:=by rw[←hu];simp;omega
 rw[hu] at e1
 have hl:(places u).length=j:=by
  have:=congrArg List.length e1
  rw[pk_len,List.length_take,pk_len] at this
  show (placesFrom u 0).length=j
  have h2:(placesFrom t 0).length=(places t).length:=rfl
  omega
 have hp:posAt u i=posAt t i:=by
  rw[posAt_pk,posAt_pk,e1,List.getElem?_take_of_lt hij,List.getElem?_eq_getElem (by rw[pk_len];show i<(places t).length;omega)]
  rfl
 obtain⟨h1,h2,h3⟩:=pk_take (t:=u) (j:=i) (by omega)
 rw[hp] at h1 h2 h3
 have h4:=kinds_cut (Nat.le_of_lt h1) h2
 have h5:kindsFrom u 0=(kindsFrom t 0).take j:=by rw[kinds_pk,e1,List.map_take,←kinds_pk]
 have h6:kindsFrom (u.extract 0 (posAt t i)) 0=(kindsFrom t 0).take i:=by rw[kinds_pk,h3,e1,List.take_take,Nat.min_eq_left (by omega),List.map_take,←kinds_pk]
 have h7:u.extract (posAt t i) u.size=t.extract (posAt t i) (posAt t j):=by
  rw[hz,←hu]
  apply ByteArray.ext
  simp
 rw[h7,h5,h6] at h4
 refine⟨by omega,hq,?_⟩
 have hkl:=kinds_len t
 have e8:(kindsFrom t 0).take j=(kindsFrom t 0).take i++((kindsFrom t 0).drop i).take (j - i):=by
  rw[←List.take_append_drop i ((kindsFrom t 0).take j),List.take_take,Nat.min_eq_left (by omega),List.drop_take]
 exact List.append_cancel_left (h4.symm.trans e8)
theorem kinds_seg (t:ByteArray) (i j:Nat):((kindsFrom t 0).drop i).take (j - i)=(((places t).drop i).take (j - i)).map fun x=>kdAt t x.1:=by
 rw[kindsFrom,←List.map_drop,←List.map_take]
 rfl
theorem refS_kind (T:Tab) (s:ByteArray):∀(k n f:Nat),n+k=(places s).length→f≤n→(f<n→mixR T s f n=false)→∀r∈refS T s ((places s).drop n) n f (((places s).drop f).take (n - f)),
 (mixR T s r.1 r.2.1=false∧r.2.2=foldO T s (((places s).drop r.1).take (r.2.1 - r.1)))∨(mixR T s r.1 r.2.1=true∧r.2.1=r.1+1∧r.2.2=[]):=by
 intro k
 induction k with
 | zero=>
  intro n f hn hf hm r hr
  rw[show n=(places s).length by omega,List.drop_length,refS] at hr
  split at hr
  ·rename_i hlt
   rw[List.mem_singleton.1 hr]
   left
   refine⟨?_,by rw[foldO_rof]⟩
   have:=hm (by omega)
   rwa [show n=(places s).length by omega] at this
  ·cases hr
 | succ k ih=>
  intro n f hn hf hm r hr
  have hlt:n<(places s).length:=by omega
  have e1:((places s).drop f).take (n - f)++[(places s)[n]]=((places s).drop f).take (n+1 - f):=(seg_more hf hlt).symm
  have e2:[(places s)[n]]=((places s).drop n).take (n+1 - n):=by rw[seg_more (Nat.le_refl _) hlt];simp
  have m1:mixB T s (((places s).drop f).take (n+1 - f))=mixR T s f (n+1):=rfl
  have m2:mixB T s [(places s)[n]]=mixR T s n (n+1):=by rw[e2];rfl
  have hhead:∀r∈(if f<n then [(f,n,rofL T s (((places s).drop f).take (n - f)) T.scripts.length)] else ([]:List RunI)),(mixR T s r.1 r.2.1=false∧r.2.2=foldO T s (((places s).drop r.1).take (r.2.1 - r.1)))∨(mixR T s r.1 r.2.1=true∧r.2.1=r.1+1∧r.2.2=[]):=fun r hr=>by
   split at hr
   ·rename_i h1
    rw[List.mem_singleton.1 hr]
    exact Or.inl ⟨hm h1,by rw[foldO_rof]⟩
   ·cases hr
  rw[List.drop_eq_getElem_cons hlt,refS,e1,m1,m2] at hr
  cases h:mixR T s f (n+1) with
  | false=>
   rw[h,if_neg (show ¬ (false=true) by decide)] at hr
   exact ih (n+1) f (by omega) (by omega) (fun _=>h) r hr
  | true=>
   rw[h,if_pos (show (true=true) from rfl)] at hr
   rcases List.mem_append.1 hr with hr | hr
   ·exact hhead r hr
   ·cases h2:mixR T s n (n+1) with
    | true=>
     rw[h2,if_pos (show (true=true) from rfl)] at hr
     rcases List.mem_cons.1 hr with rfl | hr
     ·exact Or.inr ⟨h2,rfl,rfl⟩
     ·refine ih (n+1) (n+1) (by omega) (Nat.le_refl _) (fun hh=>absurd hh (Nat.lt_irrefl _)) r ?_
      rw[Nat.sub_self,List.take_zero];exact hr
    | false=>
     rw[h2,if_neg (show ¬ (false=true) by decide),e2] at hr
     exact ih (n+1) n (by omega) (by omega) (fun _=>h2) r hr
theorem runs_kind (T:Tab) (s:ByteArray) {r:RunI}(h:r∈runsL T s):(mixR T s r.1 r.2.1=false∧r.2.2=foldO T s (((places s).drop r.1).take (r.2.1 - r.1)))∨(mixR T s r.1 r.2.1=true∧r.2.1=r.1+1∧r.2.2=[]):=by
 refine refS_kind T s (places s).length 0 0 (by omega) (Nat.le_refl _) (fun h=>by omega) r ?_
 simpa [runsL] using h
theorem run_piece (T:Tab) (t:ByteArray) {r:RunI}(h:r∈runsL T t):posAt t r.1<posAt t r.2.1∧posAt t r.2.1≤t.size ∧
 (((stopN T (t.extract (posAt t r.1) (posAt t r.2.1))).isSome=false∧foldO T (t.extract (posAt t r.1) (posAt t r.2.1)) (places (t.extract (posAt t r.1) (posAt t r.2.1)))=r.2.2) ∨
  ((stopN T (t.extract (posAt t r.1) (posAt t r.2.1))).isSome=true∧(places (t.extract (posAt t r.1) (posAt t r.2.1))).length=1∧r.2.2=[])):=by
 obtain⟨h1,h2⟩:=runs_row T t h
 obtain⟨k1,k2,k3⟩:=kinds_piece h1 h2
 refine⟨k1,k2,?_⟩
 have hm:(stopN T (t.extract (posAt t r.1) (posAt t r.2.1))).isSome=mixR T t r.1 r.2.1:=by
  rw[stop_mixK,k3,kinds_seg,←mixB_k];rfl
 have hf:foldO T (t.extract (posAt t r.1) (posAt t r.2.1)) (places (t.extract (posAt t r.1) (posAt t r.2.1)))=foldO T t (((places t).drop r.1).take (r.2.1 - r.1)):=by
  rw[foldO_k,k3,kinds_seg,←foldO_kk]
 have hn:(places (t.extract (posAt t r.1) (posAt t r.2.1))).length=r.2.1 - r.1:=by
  rw[←kinds_len,k3,List.length_take,List.length_drop,kinds_len];omega
 rw[hm,hf,hn]
 rcases runs_kind T t h with ⟨e1,e2⟩ | ⟨e1,e2,e3⟩
 ·exact Or.inl ⟨e1,e2.symm⟩
 ·exact Or.inr ⟨e1,by omega,e3⟩
end Go.Proofs.YtioehfhdoohdmaaGreatDoor
