/- P14.5, plain: of each script how many spots are bound to it. -/
import Derived.Test.YtioehfhdoohdmaaGreatDoorRef14
set_option linter.unusedVariables false
set_option linter.unusedSimpArgs false
namespace Go.Proofs.YtioehfhdoohdmaaGreatDoor
open Go.RowKit Go.Shelf
def tBo (T:Tab) (s:ByteArray) (x:Pl s) (j:Nat):Bool:=!freeR T (spR s x) (spB s x) && boundB T (spR s x) (spB s x) (j:Int)
def cntN (T:Tab) (s:ByteArray) (l:List (Pl s)) (j:Nat):Nat:=l.countP fun x=>tBo T s x j
def tallyV (T:Tab) (s:ByteArray) (ps:List (Pl s)) (N i m:Nat):List Value:=(List.range N).map fun j=>.int .i64 (cntN T s (ps.take (if j<m then i+1 else i)) j:Nat)
theorem tallyV_len (T:Tab) (s:ByteArray) (ps:List (Pl s)) (N i m:Nat):(tallyV T s ps N i m).length=N:=by unfold tallyV;rw[List.length_map,List.length_range]
theorem tallyV_get {T:Tab}{s:ByteArray}{ps:List (Pl s)}{N i m j:Nat}(h:j<N):(tallyV T s ps N i m)[j]?=some (.int .i64 (cntN T s (ps.take (if j<m then i+1 else i)) j:Nat)):=by
 unfold tallyV
 rw[List.getElem?_map,List.getElem?_range h]
 rfl
theorem tallyV_ext {l l':List Value}{N:Nat}(h1:l.length=N) (h2:l'.length=N) (h:∀j,j<N→l[j]?=l'[j]?):l=l':=by
 apply List.ext_getElem?
 intro j
 by_cases hj:j<N
 ·exact h j hj
 ·rw[List.getElem?_eq_none (by omega),List.getElem?_eq_none (by omega)]
theorem tallyV_start (T:Tab) (s:ByteArray) (ps:List (Pl s)) (N:Nat):tallyV T s ps N 0 0=List.replicate N (.int .i64 0):=by
 refine tallyV_ext (N:=N) (tallyV_len ..) (by rw[List.length_replicate]) fun j hj=>?_
 rw[tallyV_get hj,List.getElem?_replicate,if_pos hj,if_neg (by omega),List.take_zero]
 rfl
theorem cntN_snoc (T:Tab) (s:ByteArray) {ps:List (Pl s)}{i:Nat}(hi:i<ps.length) (j:Nat):cntN T s (ps.take (i+1)) j=cntN T s (ps.take i) j+(if tBo T s ps[i] j then 1 else 0):=by
 unfold cntN
 rw[←List.take_append_getElem hi,List.countP_append,List.countP_singleton]
theorem tallyV_yes {T:Tab}{s:ByteArray}{ps:List (Pl s)}{N i m:Nat}(hi:i<ps.length) (hm:m<N) (hb:tBo T s ps[i] m=true):(tallyV T s ps N i m).set m (.int .i64 ((cntN T s (ps.take i) m:Nat)+1))=tallyV T s ps N i (m+1):=by
 refine tallyV_ext (N:=N) (by rw[List.length_set,tallyV_len]) (tallyV_len ..) fun j hj=>?_
 rw[List.getElem?_set,tallyV_len,tallyV_get hj,tallyV_get hj]
 by_cases h:m=j
 ·subst h
  rw[if_pos rfl,if_pos hm,if_pos (Nat.lt_succ_self _),cntN_snoc T s hi,hb,if_pos rfl]
  rfl
 ·rw[if_neg h]
  by_cases h2:j<m
  ·rw[if_pos h2,if_pos (by omega)]
  ·rw[if_neg h2,if_neg (by omega)]
theorem tallyV_no {T:Tab}{s:ByteArray}{ps:List (Pl s)}{N i m:Nat}(hi:i<ps.length) (hb:tBo T s ps[i] m=false):tallyV T s ps N i m=tallyV T s ps N i (m+1):=by
 refine tallyV_ext (N:=N) (tallyV_len ..) (tallyV_len ..) fun j hj=>?_
 rw[tallyV_get hj,tallyV_get hj]
 by_cases h:m=j
 ·subst h
  rw[if_neg (Nat.lt_irrefl _),if_pos (Nat.lt_succ_self _),cntN_snoc T s hi,hb]
  simp
 ·by_cases h2:j<m
  ·rw[if_pos h2,if_pos (by omega)]
  ·rw[if_neg h2,if_neg (by omega)]
theorem tallyV_end (T:Tab) (s:ByteArray) (ps:List (Pl s)) (N i:Nat):tallyV T s ps N i N=tallyV T s ps N (i+1) 0:=by
 refine tallyV_ext (N:=N) (tallyV_len ..) (tallyV_len ..) fun j hj=>?_
 rw[tallyV_get hj,tallyV_get hj,if_pos hj,if_neg (by omega)]
theorem tallyV_free {T:Tab}{s:ByteArray}{ps:List (Pl s)}{N i m:Nat}(hi:i<ps.length) (hf:freeR T (spR s ps[i]) (spB s ps[i])=true):tallyV T s ps N i m=tallyV T s ps N (i+1) 0:=by
 refine tallyV_ext (N:=N) (tallyV_len ..) (tallyV_len ..) fun j hj=>?_
 have hb:tBo T s ps[i] j=false:=by unfold tBo;rw[hf];rfl
 rw[tallyV_get hj,tallyV_get hj,if_neg (Nat.not_lt_zero _)]
 by_cases h2:j<m
 ·rw[if_pos h2]
 ·rw[if_neg h2,cntN_snoc T s hi,hb]
  simp
def tallyR (T:Tab) (s:ByteArray):List Int:=(List.range T.scripts.length).map fun j=>((cntN T s (places s) j:Nat):Int)
theorem tallyV_all (T:Tab) (s:ByteArray):tallyV T s (places s) T.scripts.length (places s).length 0=iV (tallyR T s):=by
 refine tallyV_ext (N:=T.scripts.length) (tallyV_len ..) (by simp[iV,tallyR]) fun j hj=>?_
 rw[tallyV_get hj,if_neg (by omega),List.take_length]
 unfold tallyR iV
 rw[List.getElem?_map,List.getElem?_map,List.getElem?_range hj]
 rfl
theorem tallyR_len (T:Tab) (s:ByteArray):(tallyR T s).length=T.scripts.length:=by simp[tallyR]
theorem cntN_le (T:Tab) (s:ByteArray) (l:List (Pl s)) (j:Nat):cntN T s l j≤l.length:=List.countP_le_length
end Go.Proofs.YtioehfhdoohdmaaGreatDoor
