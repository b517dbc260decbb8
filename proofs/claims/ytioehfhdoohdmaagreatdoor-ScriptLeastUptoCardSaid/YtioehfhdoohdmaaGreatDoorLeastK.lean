/- The law ScriptLeast's rounds: the runs of a text are chained; what lies in memory between two of them. -/
import Derived.Test.YtioehfhdoohdmaaGreatDoorLeastF
import Derived.Test.YtioehfhdoohdmaaGreatDoorRunsK0
set_option linter.unusedVariables false
set_option linter.unusedSimpArgs false
namespace Go.Proofs.YtioehfhdoohdmaaGreatDoor
open Go.RowKit Go.Shelf
def endOf:Nat→List RunI→Nat
 | a,[]=>a
 | _,r::t=>endOf r.2.1 t
def Chain:Nat→List RunI→Nat→Prop
 | a,[],b=>a=b
 | a,r::t,b=>r.1=a∧Chain r.2.1 t b
theorem chain_append:∀(l1:List RunI) {l2:List RunI}{a c:Nat},Chain a (l1++l2) c↔∃b,Chain a l1 b∧Chain b l2 c
 | [],l2,a,c=>⟨fun h=>⟨a,rfl,h⟩,fun ⟨b,h1,h2⟩=>by cases h1;exact h2⟩
 | r::t,l2,a,c=>by
  rw[List.cons_append]
  show r.1=a∧Chain r.2.1 (t++l2) c↔_
  rw[chain_append t]
  exact⟨fun ⟨h,b,h1,h2⟩=>⟨b,⟨h,h1⟩,h2⟩,fun ⟨b,⟨h,h1⟩,h2⟩=>⟨h,b,h1,h2⟩⟩
theorem chain_end:∀(l:List RunI) {a b:Nat},Chain a l b→endOf a l=b
 | [],_,_,h=>h
 | r::t,_,_,h=>chain_end t h.2
theorem refS_chain (T:Tab) (s:ByteArray):∀(l:List (Pl s)) (n f:Nat) (seg:List (Pl s)),f≤n→Chain f (refS T s l n f seg) (n+l.length):=by
 intro l
 induction l with
 | nil=>
  intro n f seg hf
  rw[refS]
  by_cases h:f<n
  ·rw[if_pos h];exact⟨rfl,rfl⟩
  ·rw[if_neg h];show f=n+0;omega
 | cons x t ih=>
  intro n f seg hf
  have hh:Chain f (if f<n then [(f,n,rofL T s seg T.scripts.length)] else ([]:List RunI)) n:=by
   by_cases h:f<n
   ·rw[if_pos h];exact⟨rfl,rfl⟩
   ·rw[if_neg h];show f=n;omega
  rw[refS,List.length_cons,show n+(t.length+1)=n+1+t.length by omega]
  by_cases h1:mixB T s (seg++[x])=true
  ·rw[if_pos h1]
   refine (chain_append _).2 ⟨n,hh,?_⟩
   by_cases h2:mixB T s [x]=true
   ·rw[if_pos h2];exact⟨rfl,ih (n+1) (n+1) [] (Nat.le_refl _)⟩
   ·rw[if_neg h2];exact ih (n+1) n [x] (by omega)
  ·rw[if_neg h1];exact ih (n+1) f (seg++[x]) (by omega)
theorem runs_chain (T:Tab) (s:ByteArray):Chain 0 (runsL T s) (places s).length:=by
 have:=refS_chain T s (places s) 0 0 [] (Nat.le_refl _)
 rwa [Nat.zero_add] at this
theorem pre_chain {T:Tab}{s:ByteArray}{pre:List RunM}{x:RunM}(h:(pre++[x]).map (fun y:RunM=>y.it) <+: runsL T s):x.it.1=endOf 0 (pre.map fun y:RunM=>y.it)∧endOf 0 ((pre++[x]).map fun y:RunM=>y.it)=x.it.2.1:=by
 obtain⟨r,hr⟩:=h
 have hc:=runs_chain T s
 rw[←hr] at hc
 obtain⟨b,h1,_⟩:=(chain_append _).1 hc
 have he:=chain_end _ h1
 rw[List.map_append] at h1
 obtain⟨e,h2,h3⟩:=(chain_append _).1 h1
 have h4:=chain_end _ h2
 obtain⟨h5,h6⟩:x.it.1=e∧x.it.2.1=b:=h3
 exact⟨by rw[h4,h5],by rw[he,h6]⟩
structure LeastSt (N b9 b10:Nat) (t:ByteArray) (w9:World) (It:Nat→Prop) (xs:List RunM) (X:World):Prop where
 low:Below N w9 X
 k9:Blk X b9 [.int .i64 (xs.length:Nat)] 3
 k10:Blk X b10 [.int .i64 (posAt t (endOf 0 (xs.map fun y:RunM=>y.it)):Nat),.int .i64 (endOf 0 (xs.map fun y:RunM=>y.it):Nat)] 46
 itl:∀k,It k→b10<k
section
variable {N b9 b10 : Nat} {t : ByteArray} {w9 : World} {It It' : Nat → Prop} {xs : List RunM} {X Y : World}
theorem LeastSt.moved (h:LeastSt N b9 b10 t w9 It xs X) (hz:N≤b9) (h1:b9<b10) (hos:Y.os=X.os) (htp:Y.tape=X.tape) (hou:Y.output=X.output) (hsz:X.heap.size≤Y.heap.size) (hb:∀k,k<X.heap.size→¬ It k→k≤b10→Y.heap[k]?=X.heap[k]?):LeastSt N b9 b10 t w9 It xs Y:=by
 have hl:∀k,k≤b10→¬ It k:=fun k hk hI=>by have:=h.itl k hI;omega
 have hc:∀ {b:Nat} {vs:List Value} {ty:TypeId},Blk X b vs ty→b≤b10→Blk Y b vs ty:=fun hbk hle=>(hb _ hbk.lt (hl _ hle) hle).trans hbk
 have h10:=h.k10.lt
 exact⟨h.low.trans ⟨hos,htp,hou,hsz,fun k hk=>hb k (by omega) (hl k (by omega)) (by omega)⟩,hc h.k9 (by omega),hc h.k10 (Nat.le_refl _),h.itl⟩
theorem LeastSt.stir {B:Nat}(h:LeastSt N b9 b10 t w9 It xs X) (hz:N≤b9) (h1:b9<b10) (hB:b10<B) (hS:Stir B It X Y):LeastSt N b9 b10 t w9 It xs Y:=
 h.moved hz h1 hS.os hS.tape hS.output hS.size fun k hk hn hc=>hS.block k hk hn (Or.inl (by omega))
theorem LeastSt.below (h:LeastSt N b9 b10 t w9 It xs X) (hz:N≤b9) (h1:b9<b10) (hS:Below X.heap.size X Y):LeastSt N b9 b10 t w9 It xs Y:=
 h.moved hz h1 hS.os hS.tape hS.output hS.size fun k hk _ _=>hS.block k hk
theorem LeastSt.less (h:LeastSt N b9 b10 t w9 It xs X) (hi:∀k,It' k→It k∨X.heap.size≤k):LeastSt N b9 b10 t w9 It' xs X:=
 ⟨h.low,h.k9,h.k10,fun k hk=>(hi k hk).elim (h.itl k) (fun hh=>by have:=h.k10.lt;omega)⟩
theorem LeastSt.bears (hz:N≤b9) (h1:b9<b10) {B:Nat}(hB:b10<B):Bears (fun _=>True) B (LeastSt N b9 b10 t w9):=
 ⟨fun It s X Y _ h hS=>h.stir hz h1 hB hS,fun It It' s X _ _ h hi=>h.less hi⟩
end
structure WO (W:World) (b:Nat) where
 w:World
 k:Keep (fun i=>i=b) W w
 b:∃v,Blk w b [v] 4
theorem WO.cell {W:World}{b:Nat}{p:Addr}{v:Value}(h:W.cell? p=some v) (hs:p.block≠b) (y:WO W b):y.w.cell? p=some v:=(y.k.cell (cell_lt h) hs).trans h
theorem WO.next {W:World}{b:Nat}(y:WO W b) {w2:World}(h:Below y.w.heap.size y.w w2):∃z:WO W b,w2=z.w:=
 ⟨⟨w2,y.k.trans (Keep.of_below h _),by obtain⟨v,hv⟩:=y.b;exact⟨v,hv.keep (Keep.of_below h (fun _=>False)) (by simp)⟩⟩,rfl⟩
end Go.Proofs.YtioehfhdoohdmaaGreatDoor
