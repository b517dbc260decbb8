/- The laws' rounds over the runs of a text: what lies in memory between two of them. -/
import Derived.Test.YtioehfhdoohdmaaGreatDoorRunsIt
import Derived.Test.YtioehfhdoohdmaaGreatDoorRefRuns
import Derived.Test.YtioehfhdoohdmaaGreatDoorRunsB
import Derived.Test.YtioehfhdoohdmaaGreatDoorRunsS
import Derived.Test.YtioehfhdoohdmaaGreatDoorRunsA
set_option linter.unusedVariables false
set_option linter.unusedSimpArgs false
namespace Go.Proofs.YtioehfhdoohdmaaGreatDoor
open Go.RowKit Go.Shelf
theorem wpIn_region_wcR {n l id:Nat}{P:Program}{Q:Exit→Act→World→Prop}{a:Act}{W0 w:World}{l':List Oper}(hm:P.follows .mixedOrders=true) (hB:Region.lexB .any l'.toArray=true) (hnd:noDefer l'.toArray=true) (hw:Below W0.heap.size W0 w)
 (h:wpQuiet P l'.toArray (fun w'=>∃y:WC W0,w'=y.w) (fun a'=>∀w',(∃y:WC W0,w'=y.w)→Q .normal a' w') l' a):(Code.region id l'.toArray true).wpIn (Fence.wide.inRound l) n P Q a w:=
 wpIn_region_quietR (C:=fun w'=>∃y:WC W0,w'=y.w) hm hB hnd ⟨⟨_,hw.drew⟩,rfl⟩ (by simpa using h)
structure Tr (B:Nat) (It:Nat→Prop) (V V':World):Prop where
 low:Below B V V'
 non:∀(k:Nat) (o:Obj),V.heap[k]?=some o→o.isCells=false→V'.heap[k]?=some o
 its:∀k,It k→k<V.heap.size→V'.heap[k]?=V.heap[k]?
section
variable {B : Nat} {It : Nat → Prop} {V V' V2 : World}
theorem Tr.refl (B:Nat) (It:Nat→Prop) (V:World):Tr B It V V:=⟨Below.refl _ _,fun _ _ h _=>h,fun _ _ _=>rfl⟩
theorem Tr.below (h:Below V.heap.size V V') (hB:B≤V.heap.size):Tr B It V V':=⟨h.mono hB,fun k o hk _=>(h.block k (lt_of_block hk)).trans hk,fun k _ hk=>h.block k hk⟩
theorem Tr.trans (h:Tr B It V V') (k:Tr B It V' V2):Tr B It V V2:=
 ⟨h.low.trans k.low,fun i o hi hc=>k.non i o (h.non i o hi hc) hc,fun i hi hl=>(k.its i hi (Nat.lt_of_lt_of_le hl h.low.size)).trans (h.its i hi hl)⟩
theorem Tr.set (h:Tr B It V V') {p:Addr}{vs:List Value}{t:TypeId}(hb:Blk V' p.block vs t) (hB:B≤p.block) (hI:¬ It p.block) (u:Value):Tr B It V (V'.setCell p u):=
 h.trans ⟨(Below.refl _ _).setCell hB _,fun k o hk hc=>(Below.heap_setCell _ _ _ _ (fun e=>by rw[e,show V'.heap[p.block]?=_ from hb] at hk;cases hk;cases hc)).trans hk,fun k hk _=>Below.heap_setCell _ _ _ _ (fun e=>hI (by rw[←e];exact hk))⟩
theorem Tr.round (h:Tr B It V V') (N:Nat):Round (Below B) N It V V':=
 ⟨h.low,⟨h.low.size,fun k o ho hw=>h.non k o ho (Obj.not_cells_of_walk hw)⟩,⟨h.low.size,fun k o _ ho hc=>h.non k o ho hc⟩,h.its⟩
theorem Tr.from_ (h:Tr B It V V') (N:Nat):KeepsFrom N V V':=⟨h.low.size,fun k o _ ho hc=>h.non k o ho hc⟩
end
structure WB (W:World) (b:Nat) where
 w:World
 k:Keep (fun i=>i=b) W w
 b:∃v0 v1,Blk w b [v0,v1] 46
theorem WB.cell {W:World}{b:Nat}{p:Addr}{v:Value}(h:W.cell? p=some v) (hs:p.block≠b) (y:WB W b):y.w.cell? p=some v:=(y.k.cell (cell_lt h) hs).trans h
def WB.of {W:World}{b:Nat}{v0 v1:Value}(h:Blk W b [v0,v1] 46):WB W b:=⟨W,Keep.refl _ _,_,_,h⟩
theorem WB.tr {W:World}{b B:Nat}{It:Nat→Prop}{v0 v1:Value}(y:WB W b) (h:Blk W b [v0,v1] 46) (hB:B≤W.heap.size) (hb:B≤b) (hI:¬ It b):Tr B It W y.w:=
 ⟨y.k.below fun k hk=>⟨by omega,by omega⟩,fun k o hk hc=>(y.k.block k (lt_of_block hk) (fun e=>by subst e;rw[show W.heap[k]?=_ from h] at hk;cases hk;cases hc)).trans hk,fun k hk hl=>y.k.block k hl (fun e=>by subst e;exact hI hk)⟩
theorem own_rdm {W:World}{base m:Nat}{e:TypeId}{v:Value}{n:Nat}{xs:List Value}(h:W.ownsRow base e m v n xs):∃(o:Option Addr) (c:Nat),v=.slice o n c∧n≤c∧c≤maxLen∧Rd W o xs∧(∀a,o=some a→base≤a.block∧a.block<W.heap.size∧a.off=0∧a.spot=none):=by
 obtain⟨hl,h⟩:=h
 rcases h with ⟨rfl,h0⟩ | ⟨g,cap,cur,rfl,h0,hg,h1,h2,h3,h4⟩
 ·subst h0
  refine⟨none,0,rfl,Nat.le_refl _,Nat.zero_le _,fun j u hj=>?_,fun a ha=>by cases ha⟩
  have:xs=[]:=List.eq_nil_of_length_eq_zero (by omega)
  subst this
  cases hj
 ·refine⟨some ⟨g,0,none⟩,cap,rfl,h1,h2,fun j u hj=>⟨g,0,rfl,?_⟩,fun a ha=>by cases ha;exact⟨h0,lt_of_block hg,rfl,rfl⟩⟩
  have hj2:=(List.getElem?_eq_some_iff.1 hj).1
  rw[←h4,List.getElem?_take_of_lt (by omega)] at hj
  simp only[World.cell?,hg]
  simpa using hj
theorem OutAt.row {W:World}{base c:Nat}{o:Option Addr}{rows:List RunV}(h:OutAt W base (.slice o rows.length c) rows) {i:Nat}(hi:i<rows.length):∃g,o=some ⟨g,0,none⟩∧base≤g∧W.cell? ⟨g,i*3,none⟩=some (.int .i64 (rows[i].1.1:Nat))∧W.cell? ⟨g,i*3+1,none⟩=some (.int .i64 (rows[i].1.2.1:Nat))∧W.cell? ⟨g,i*3+2,none⟩=some rows[i].2:=by
 obtain⟨o',c',hv,_,_,hrd,hoo⟩:=own_rdm h.own
 simp only[Value.slice.injEq] at hv
 obtain⟨rfl,_,rfl⟩:=hv
 obtain⟨g,off,ho,c0⟩:=Rd.row hrd (m:=3) (fun _=>rfl) hi (k:=0) rfl
 obtain⟨g',off',ho',c1⟩:=Rd.row hrd (m:=3) (fun _=>rfl) hi (k:=1) rfl
 obtain⟨rfl,rfl⟩:=same_at (ho.symm.trans ho')
 obtain⟨g',off',ho',c2⟩:=Rd.row hrd (m:=3) (fun _=>rfl) hi (k:=2) rfl
 obtain⟨rfl,rfl⟩:=same_at (ho.symm.trans ho')
 obtain⟨h1,_,h3,_⟩:=hoo _ ho
 simp only at h3
 subst h3
 simp only[Nat.zero_add,Nat.add_zero] at c0 c1 c2
 exact⟨g,ho,h1,c0,c1,c2⟩
theorem own_intsV {W:World}{base:Nat}{v:Value}{l:List Int}(h:W.ownsRow base 3 1 v l.length (iV l)):∃(o:Option Addr) (c:Nat),v=.slice o l.length c∧bookInt.Own W o c (l.map bookInt.Cel.mk)∧(∀k,bookInt.blkOf o=some k→base≤k∧v=.slice (some ⟨k,0,none⟩) l.length c)∧Rd W o (iV l):=by
 obtain⟨o,c,rfl,_,_,hrd,hoo⟩:=own_rdm h
 cases o with
 | none=>
  have h2:=h.2
  rcases h2 with ⟨hv,h0⟩ | ⟨g,cap,cur,hv,_⟩
  ·have hl:l=[]:=List.eq_nil_of_length_eq_zero h0
   subst hl
   simp only[Value.slice.injEq] at hv
   obtain⟨_,_,rfl⟩:=hv
   exact⟨none,0,rfl,bookInt.Own.nil _,(fun k hk=>by cases hk),hrd⟩
  ·simp only[Value.slice.injEq] at hv
   cases hv.1
 | some a=>
  obtain⟨g,off,sp⟩:=a
  obtain⟨h1,h2,h3,h4⟩:=hoo _ rfl
  simp only at h1 h2 h3 h4
  subst h3
  subst h4
  exact⟨_,c,rfl,bookInt.own_ints h,fun k hk=>by
   simp only[bookInt.blkOf,Option.map_some,Option.some.injEq] at hk
   subst hk
   exact⟨h1,rfl⟩,hrd⟩
def Marks (X:World) (lo hi:Nat) (Ds:List Nat):Prop:=Ds.Nodup∧∀D∈Ds,lo≤D∧D<hi∧X.heap[D]?=some (.deferred (some []))
theorem Marks.nil (X:World) (lo hi:Nat):Marks X lo hi []:=⟨List.nodup_nil,fun D h=>by cases h⟩
theorem Marks.keep {X Y:World}{lo hi:Nat}{Ds:List Nat}(h:Marks X lo hi Ds) (hk:∀D,D<hi→lo≤D→X.heap[D]?=some (.deferred (some []))→Y.heap[D]?=some (.deferred (some []))):Marks Y lo hi Ds:=
 ⟨h.1,fun D hD=>⟨(h.2 D hD).1,(h.2 D hD).2.1,hk D (h.2 D hD).2.1 (h.2 D hD).1 (h.2 D hD).2.2⟩⟩
theorem Marks.up {X:World}{lo hi hi':Nat}{Ds:List Nat}(h:Marks X lo hi Ds) (hh:hi≤hi'):Marks X lo hi' Ds:=⟨h.1,fun D hD=>⟨(h.2 D hD).1,Nat.lt_of_lt_of_le (h.2 D hD).2.1 hh,(h.2 D hD).2.2⟩⟩
theorem Marks.snoc {X:World}{lo hi hi' D:Nat}{Ds:List Nat}(h:Marks X lo hi Ds) (hlo:lo≤hi) (hD:hi≤D) (hD2:D<hi') (hm:X.heap[D]?=some (.deferred (some []))):Marks X lo hi' (D::Ds):=by
 refine⟨List.nodup_cons.2 ⟨fun hh=>by have:=(h.2 D hh).2.1;omega,h.1⟩,fun E hE=>?_⟩
 rcases List.mem_cons.1 hE with rfl | hE
 ·exact⟨by omega,hD2,hm⟩
 ·exact⟨(h.2 E hE).1,by have:=(h.2 E hE).2.1;omega,(h.2 E hE).2.2⟩
structure RunL (N bk b14 b15 r m:Nat) (Ds:List Nat) (w9:World) (It:Nat→Prop) (xs:List RunM) (X:World):Prop where
 low:Below N w9 X
 k13:Blk X (bk+1) [.pointer (some ⟨bk,0,none⟩)] 36
 k14:Blk X b14 [.int .i64 (r:Nat)] 3
 k15:Blk X b15 [.int .i64 (xs.length:Nat)] 3
 book:∃B1,bookInt.BookIt (fun k=>It k∨k=bk+1∨k=b14∨k=b15) N X B1 bk (m+xs.length)
 marks:Marks X N b15 Ds
 itl:∀k,It k→b15<k
section
variable {N bk b14 b15 r m : Nat} {Ds : List Nat} {w9 : World} {It It' : Nat → Prop} {xs : List RunM} {X Y : World}
theorem RunL.moved (h:RunL N bk b14 b15 r m Ds w9 It xs X) (hz:N≤b15) (h1:bk+1<b15) (h2:b14<b15) (hos:Y.os=X.os) (htp:Y.tape=X.tape) (hou:Y.output=X.output) (hsz:X.heap.size≤Y.heap.size)
 (hb:∀k,k<X.heap.size→¬ It k→(k≤b15∨∃o:Obj,X.heap[k]?=some o∧o.isCells=true)→Y.heap[k]?=X.heap[k]?):RunL N bk b14 b15 r m Ds w9 It xs Y:=by
 have hl:∀k,k≤b15→¬ It k:=fun k hk hI=>by have:=h.itl k hI;omega
 have hc:∀ {b:Nat} {vs:List Value} {t:TypeId},Blk X b vs t→b≤b15→Blk Y b vs t:=fun hbk hle=>(hb _ hbk.lt (hl _ hle) (Or.inl hle)).trans hbk
 obtain⟨B1,hbk⟩:=h.book
 have hz15:=h.k15.lt
 refine⟨h.low.trans ⟨hos,htp,hou,hsz,fun k hk=>hb k (by omega) (hl k (by omega)) (Or.inl (by omega))⟩,hc h.k13 (by omega),hc h.k14 (by omega),hc h.k15 (Nat.le_refl _),⟨B1,hbk.moved hsz (fun k hk hn=>hb k hk.lt (fun hI=>hn (Or.inl hI)) (Or.inr hk))⟩,h.marks.keep (fun D hD _ hm=>(hb D (lt_of_block hm) (hl D (by omega)) (Or.inl (by omega))).trans hm),h.itl⟩
theorem RunL.stir {B:Nat}(h:RunL N bk b14 b15 r m Ds w9 It xs X) (hz:N≤b15) (h1:bk+1<b15) (h2:b14<b15) (hB:b15<B) (hS:Stir B It X Y):RunL N bk b14 b15 r m Ds w9 It xs Y:=
 h.moved hz h1 h2 hS.os hS.tape hS.output hS.size fun k hk hn hc=>hS.block k hk hn (hc.elim (fun hh=>Or.inl (by omega)) Or.inr)
theorem RunL.below (h:RunL N bk b14 b15 r m Ds w9 It xs X) (hz:N≤b15) (h1:bk+1<b15) (h2:b14<b15) (hS:Below X.heap.size X Y):RunL N bk b14 b15 r m Ds w9 It xs Y:=
 h.moved hz h1 h2 hS.os hS.tape hS.output hS.size fun k hk _ _=>hS.block k hk
theorem RunL.less (h:RunL N bk b14 b15 r m Ds w9 It xs X) (hi:∀k,It' k→It k∨X.heap.size≤k):RunL N bk b14 b15 r m Ds w9 It' xs X:=by
 obtain⟨B1,hbk⟩:=h.book
 exact⟨h.low,h.k13,h.k14,h.k15,⟨B1,hbk.less fun k hk=>by
  rcases hk with hk | hk
  ·exact (hi k hk).elim (fun hh=>Or.inl (Or.inl hh)) Or.inr
  ·exact Or.inl (Or.inr hk)⟩,h.marks,fun k hk=>(hi k hk).elim (h.itl k) (fun hh=>by have:=h.k15.lt;omega)⟩
theorem RunL.bears (hz:N≤b15) (h1:bk+1<b15) (h2:b14<b15) {B:Nat}(hB:b15<B):Bears (fun _=>True) B (RunL N bk b14 b15 r m Ds w9):=
 ⟨fun It s X Y _ h hS=>h.stir hz h1 h2 hB hS,fun It It' s X _ _ h hi=>h.less hi⟩
end
end Go.Proofs.YtioehfhdoohdmaaGreatDoor
