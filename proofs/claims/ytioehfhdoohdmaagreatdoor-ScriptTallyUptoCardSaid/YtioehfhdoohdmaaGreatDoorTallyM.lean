/- The counts of script.Tally, plain: a spot's scripts, one by one. -/
import Derived.Test.YtioehfhdoohdmaaGreatDoorTallyD
import Derived.Test.YtioehfhdoohdmaaGreatDoorScrA
set_option linter.unusedVariables false
set_option linter.unusedSimpArgs false
namespace Go.Proofs.YtioehfhdoohdmaaGreatDoor
open Go.RowKit Go.Shelf Go.Maps
def bdN (T:Tab) (r:Int) (bad:Bool):List Nat:=(List.range T.scripts.length).filter fun j=>!freeR T r bad && boundB T r bad (j:Int)
theorem bdL_nat (T:Tab) (r:Int) (bad:Bool):bdL T r bad=(bdN T r bad).map fun (k:Nat)=>(k:Int):=by
 unfold bdL bdN
 cases hb:bad with
 | true=>
  have e:(List.range T.scripts.length).filter (fun (j:Nat)=>!freeR T r true && boundB T r true (j:Int))=[]:=by
   rw[List.filter_eq_nil_iff]
   intro j _
   simp[boundB]
  rw[e]
  rfl
 | false=>
  cases hf:freeR T r false with
  | true=>
   have e:(List.range T.scripts.length).filter (fun (j:Nat)=>!true && boundB T r false (j:Int))=[]:=by
    rw[List.filter_eq_nil_iff]
    intro j _
    simp
   rw[e]
   simp
  | false=>
   simp only[Bool.false_eq_true,if_false]
   unfold scrL
   congr 1
   apply List.filter_congr
   intro j hj
   rw[List.mem_range] at hj
   have h1:decide ((0:Int)≤(j:Int))=true:=by rw[decide_eq_true_iff];omega
   have h2:decide ((j:Int)<(T.scripts.length:Int))=true:=by rw[decide_eq_true_iff];omega
   unfold boundB
   rw[h1,h2,Int.toNat_natCast]
   rfl
theorem bdN_nodup (T:Tab) (r:Int) (bad:Bool):(bdN T r bad).Nodup:=(List.nodup_range).filter _
theorem bdN_mem (T:Tab) (s:ByteArray) (x:Pl s) (j:Nat):j∈bdN T (spR s x) (spB s x)↔tBo T s x j=true:=by
 unfold bdN tBo
 rw[List.mem_filter,List.mem_range]
 constructor
 ·exact fun h=>h.2
 ·intro h
  refine⟨?_,h⟩
  rw[Bool.and_eq_true] at h
  have h2:=h.2
  unfold boundB at h2
  simp only[Bool.and_eq_true,decide_eq_true_eq] at h2
  omega
theorem bdN_lt (T:Tab) (r:Int) (bad:Bool) {j:Nat}(h:j∈bdN T r bad):j<T.scripts.length:=by
 unfold bdN at h
 rw[List.mem_filter,List.mem_range] at h
 exact h.1
def cntK (f:Nat→Nat) (D:List Nat) (k:Nat):Nat→Nat:=fun j=>f j+if j∈D.take k then 1 else 0
theorem cntK_zero (f:Nat→Nat) (D:List Nat):cntK f D 0=f:=by funext j;simp[cntK]
theorem cntK_step (f:Nat→Nat) {D:List Nat}(hD:D.Nodup) {k:Nat}(hk:k<D.length):bumpF (cntK f D k) D[k]=cntK f D (k+1):=by
 have hnot:D[k] ∉ D.take k:=by
  intro hm
  rw[List.mem_take_iff_getElem] at hm
  obtain⟨i,hi,e⟩:=hm
  have:=(List.getElem_inj (h₀:=by omega) (h₁:=hk) hD).1 e
  omega
 funext j
 have ht:∀j,j∈D.take (k+1)↔j∈D.take k∨j=D[k]:=fun j=>by rw[←List.take_append_getElem hk,List.mem_append,List.mem_singleton]
 unfold bumpF cntK
 by_cases h:j=D[k]
 ·subst h
  rw[if_pos rfl,if_neg hnot,if_pos ((ht _).2 (.inr rfl))]
 ·rw[if_neg h]
  have e:(j∈D.take (k+1))=(j∈D.take k):=by rw[ht j];simp[h]
  simp only[e]
theorem cntK_end (T:Tab) (s:ByteArray) (pre:List (Pl s)) (x:Pl s):cntK (cntN T s pre) (bdN T (spR s x) (spB s x)) (bdN T (spR s x) (spB s x)).length=cntN T s (pre++[x]):=by
 funext j
 unfold cntK
 rw[List.take_length]
 simp only[bdN_mem]
 unfold cntN
 rw[List.countP_append,List.countP_singleton]
theorem cntK_le {f:Nat→Nat}{D:List Nat}{k j n:Nat}(h:f j≤n):cntK f D k j≤n+1:=by unfold cntK;split <;> omega
theorem cntN_nil (T:Tab) (s:ByteArray):cntN T s []=fun _=>0:=rfl
def sharesL (T:Tab) (s:ByteArray):List (Nat×Nat):=((List.range T.scripts.length).filter fun j=>0<cntN T s (places s) j).map fun j=>(j,cntN T s (places s) j)
def shV (p:Nat×Nat):List Value:=[.int .i64 (p.1:Nat),.int .i64 (p.2:Nat)]
theorem cntN_lt (T:Tab) (s:ByteArray) (l:List (Pl s)) (j:Nat) (h:0<cntN T s l j):j<T.scripts.length:=by
 unfold cntN at h
 rw[List.countP_pos_iff] at h
 obtain⟨x,_,hx⟩:=h
 exact bdN_lt _ _ _ ((bdN_mem T s x j).2 hx)
end Go.Proofs.YtioehfhdoohdmaaGreatDoor
