/- A map of counts, plain: what it reads as. -/
import Derived.Maps.OwnIn
import Derived.Lib.SlKeysI
import Derived.Test.YtioehfhdoohdmaaGreatDoorTallyP
set_option linter.unusedVariables false
set_option linter.unusedSimpArgs false
namespace Go.Proofs.YtioehfhdoohdmaaGreatDoor
open Go.RowKit Go.Shelf Go.Maps
structure TD {H:Type}(D:DataW H) (f:Nat→Nat):Prop where
 tidy:Tidy D
 at_:∀j:Nat,D.atKey (.int .i64 (j:Int)) (.lit (.int .i64 0))=.lit (.int .i64 (f j:Nat))
 has_:∀x:Int,has D (.int .i64 x)=true↔∃j:Nat,x=(j:Int)∧0<f j
theorem TD.nil {H:Type}:TD (.map []:DataW H) fun _=>0:=⟨tidy_empty,fun j=>rfl,fun x=>by simp[has_eq]⟩
def bumpF (f:Nat→Nat) (j:Nat):Nat→Nat:=fun k=>if k=j then f k+1 else f k
theorem TD.bump {H:Type}{D:DataW H}{f:Nat→Nat}(h:TD D f) (j:Nat):TD (D.put (.int .i64 (j:Int)) (.lit (.int .i64 ((f j+1:Nat):Int)))) (bumpF f j):=by
 have hk:WideAt.IsKeyLit (.int .i64 (j:Int)):=by first | exact trivial | simp[WideAt.IsKeyLit]
 refine⟨h.tidy.put hk _,fun k=>?_,fun x=>?_⟩
 ·by_cases hkj:k=j
  ·subst hkj
   rw[atKey_put_same h.tidy.isMap hk]
   simp[bumpF]
  ·rw[atKey_put_other (by simp;omega),h.at_ k]
   simp[bumpF,hkj]
 ·by_cases hx:x=(j:Int)
  ·subst hx
   rw[has_put_same h.tidy.isMap hk]
   exact⟨fun _=>⟨j,rfl,by simp[bumpF]⟩,fun _=>rfl⟩
  ·rw[has_put_other (by simpa using hx),h.has_ x]
   constructor
   ·rintro⟨k,rfl,hk⟩
    exact⟨k,rfl,by simp only[bumpF];split <;> omega⟩
   ·rintro⟨k,rfl,hk⟩
    refine⟨k,rfl,?_⟩
    have:k≠j:=fun e=>hx (by rw[e])
    simpa [bumpF,this] using hk
theorem TD.congr {H:Type}{D:DataW H}{f g:Nat→Nat}(h:TD D f) (e:f=g):TD D g:=e ▸ h
theorem TD.keys {H:Type}{D:DataW H}{f:Nat→Nat}(h:TD D f) (hi:∀es,D=.map es→∀p∈es,∃x,p.1=.int .i64 x) {N:Nat}(hN:∀j,0<f j→j<N) {ss:List Int}(hp:ss.Perm (intKeys D)) :
 ss.mergeSort (fun x y=>decide (x≤y))=((List.range N).filter fun j=>0<f j).map fun (j:Nat)=>(j:Int):=by
 have hL:(((List.range N).filter fun j=>0<f j).map fun (j:Nat)=>(j:Int)).Pairwise (fun a b=>a<b):=by
  refine List.pairwise_map.2 ?_
  refine List.Pairwise.imp ?_ (List.Pairwise.filter _ List.pairwise_lt_range)
  intro a b hab
  omega
 obtain⟨es,rfl,hpw⟩:=h.tidy
 have hq:(((List.range N).filter fun j=>0<f j).map fun (j:Nat)=>(j:Int)).Perm (intKeys (.map es:DataW H)):=by
  refine perm_intKeys hpw (hi es rfl) (hL.imp (fun hab=>by omega)) fun x=>?_
  rw[h.has_ x]
  simp only[List.mem_map,List.mem_filter,List.mem_range,decide_eq_true_eq]
  constructor
  ·rintro⟨j,⟨_,hj⟩,rfl⟩
   exact⟨j,rfl,hj⟩
  ·rintro⟨j,rfl,hj⟩
   exact⟨j,⟨hN j hj,hj⟩,rfl⟩
 have e1:=mergeSort_of_perm_i (hp.trans hq.symm)
 refine e1.trans (List.mergeSort_of_pairwise ?_)
 refine hL.imp fun hab=>?_
 simp only[leI,decide_eq_true_eq]
 omega
end Go.Proofs.YtioehfhdoohdmaaGreatDoor
