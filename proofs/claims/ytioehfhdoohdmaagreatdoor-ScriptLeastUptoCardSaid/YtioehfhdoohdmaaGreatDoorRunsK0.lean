/- The laws' rounds over the runs of a text, without a Book: what lies in memory between two of them. -/
import Derived.Test.YtioehfhdoohdmaaGreatDoorRunsIt
import Derived.Test.YtioehfhdoohdmaaGreatDoorRefRuns
import Derived.Test.YtioehfhdoohdmaaGreatDoorRunsS
import Derived.Test.YtioehfhdoohdmaaGreatDoorRunsA
set_option linter.unusedVariables false
set_option linter.unusedSimpArgs false
namespace Go.Proofs.YtioehfhdoohdmaaGreatDoor
open Go.RowKit Go.Shelf
theorem wpIn_region_wcR {n l id:Nat}{P:Program}{Q:Exit→Act→World→Prop}{a:Act}{W0 w:World}{l':List Oper}(hm:P.follows .mixedOrders=true) (hB:Region.lexB .any l'.toArray=true) (hnd:noDefer l'.toArray=true) (hw:Below W0.heap.size W0 w)
 (h:wpQuiet P l'.toArray (fun w'=>∃y:WC W0,w'=y.w) (fun a'=>∀w',(∃y:WC W0,w'=y.w)→Q .normal a' w') l' a):(Code.region id l'.toArray true).wpIn (Fence.wide.inRound l) n P Q a w:=
 wpIn_region_quietR (C:=fun w'=>∃y:WC W0,w'=y.w) hm hB hnd ⟨⟨_,hw.drew⟩,rfl⟩ (by simpa using h)
structure Tr (B:Nat) (It:Nat→Prop) (V V':World):Prop where
 low:Below B V V'
 non:∀(k:Nat) (o:Obj),V.heap[k]?=some o→o.isCells=false→V'.heap[k]?=some o
 its:∀k,It k→k<V.heap.size→V'.heap[k]?=V.heap[k]?
section
variable {B : Nat} {It : Nat → Prop} {V V' V2 : World}
theorem Tr.refl (B:Nat) (It:Nat→Prop) (V:World):Tr B It V V:=⟨Below.refl _ _,fun _ _ h _=>h,fun _ _ _=>rfl⟩
theorem Tr.below (h:Below V.heap.size V V') (hB:B≤V.heap.size):Tr B It V V':=⟨h.mono hB,fun k o hk _=>(h.block k (lt_of_block hk)).trans hk,fun k _ hk=>h.block k hk⟩
theorem Tr.trans (h:Tr B It V V') (k:Tr B It V' V2):Tr B It V V2:=
 ⟨h.low.trans k.low,fun i o hi hc=>k.non i o (h.non i o hi hc) hc,fun i hi hl=>(k.its i hi (Nat.lt_of_lt_of_le hl h.low.size)).trans (h.its i hi hl)⟩
theorem Tr.set (h:Tr B It V V') {p:Addr}{vs:List Value}{t:TypeId}(hb:Blk V' p.block vs t) (hB:B≤p.block) (hI:¬ It p.block) (u:Value):Tr B It V (V'.setCell p u):=
 h.trans ⟨(Below.refl _ _).setCell hB _,fun k o hk hc=>(Below.heap_setCell _ _ _ _ (fun e=>by rw[e,show V'.heap[p.block]?=_ from hb] at hk;cases hk;cases hc)).trans hk,fun k hk _=>Below.heap_setCell _ _ _ _ (fun e=>hI (by rw[←e];exact hk))⟩
theorem Tr.round (h:Tr B It V V') (N:Nat):Round (Below B) N It V V':=
 ⟨h.low,⟨h.low.size,fun k o ho hw=>h.non k o ho (Obj.not_cells_of_walk hw)⟩,⟨h.low.size,fun k o _ ho hc=>h.non k o ho hc⟩,h.its⟩
theorem Tr.from_ (h:Tr B It V V') (N:Nat):KeepsFrom N V V':=⟨h.low.size,fun k o _ ho hc=>h.non k o ho hc⟩
end
structure WB (W:World) (b:Nat) where
 w:World
 k:Keep (fun i=>i=b) W w
 b:∃v0 v1,Blk w b [v0,v1] 46
theorem WB.cell {W:World}{b:Nat}{p:Addr}{v:Value}(h:W.cell? p=some v) (hs:p.block≠b) (y:WB W b):y.w.cell? p=some v:=(y.k.cell (cell_lt h) hs).trans h
def WB.of {W:World}{b:Nat}{v0 v1:Value}(h:Blk W b [v0,v1] 46):WB W b:=⟨W,Keep.refl _ _,_,_,h⟩
theorem WB.tr {W:World}{b B:Nat}{It:Nat→Prop}{v0 v1:Value}(y:WB W b) (h:Blk W b [v0,v1] 46) (hB:B≤W.heap.size) (hb:B≤b) (hI:¬ It b):Tr B It W y.w:=
 ⟨y.k.below fun k hk=>⟨by omega,by omega⟩,fun k o hk hc=>(y.k.block k (lt_of_block hk) (fun e=>by subst e;rw[show W.heap[k]?=_ from h] at hk;cases hk;cases hc)).trans hk,fun k hk hl=>y.k.block k hl (fun e=>by subst e;exact hI hk)⟩
theorem own_rdm {W:World}{base m:Nat}{e:TypeId}{v:Value}{n:Nat}{xs:List Value}(h:W.ownsRow base e m v n xs):∃(o:Option Addr) (c:Nat),v=.slice o n c∧n≤c∧c≤maxLen∧Rd W o xs∧(∀a,o=some a→base≤a.block∧a.block<W.heap.size∧a.off=0∧a.spot=none):=by
 obtain⟨hl,h⟩:=h
 rcases h with ⟨rfl,h0⟩ | ⟨g,cap,cur,rfl,h0,hg,h1,h2,h3,h4⟩
 ·subst h0
  refine⟨none,0,rfl,Nat.le_refl _,Nat.zero_le _,fun j u hj=>?_,fun a ha=>by cases ha⟩
  have:xs=[]:=List.eq_nil_of_length_eq_zero (by omega)
  subst this
  cases hj
 ·refine⟨some ⟨g,0,none⟩,cap,rfl,h1,h2,fun j u hj=>⟨g,0,rfl,?_⟩,fun a ha=>by cases ha;exact⟨h0,lt_of_block hg,rfl,rfl⟩⟩
  have hj2:=(List.getElem?_eq_some_iff.1 hj).1
  rw[←h4,List.getElem?_take_of_lt (by omega)] at hj
  simp only[World.cell?,hg]
  simpa using hj
theorem OutAt.row {W:World}{base c:Nat}{o:Option Addr}{rows:List RunV}(h:OutAt W base (.slice o rows.length c) rows) {i:Nat}(hi:i<rows.length):∃g,o=some ⟨g,0,none⟩∧base≤g∧W.cell? ⟨g,i*3,none⟩=some (.int .i64 (rows[i].1.1:Nat))∧W.cell? ⟨g,i*3+1,none⟩=some (.int .i64 (rows[i].1.2.1:Nat))∧W.cell? ⟨g,i*3+2,none⟩=some rows[i].2:=by
 obtain⟨o',c',hv,_,_,hrd,hoo⟩:=own_rdm h.own
 simp only[Value.slice.injEq] at hv
 obtain⟨rfl,_,rfl⟩:=hv
 obtain⟨g,off,ho,c0⟩:=Rd.row hrd (m:=3) (fun _=>rfl) hi (k:=0) rfl
 obtain⟨g',off',ho',c1⟩:=Rd.row hrd (m:=3) (fun _=>rfl) hi (k:=1) rfl
 obtain⟨rfl,rfl⟩:=same_at (ho.symm.trans ho')
 obtain⟨g',off',ho',c2⟩:=Rd.row hrd (m:=3) (fun _=>rfl) hi (k:=2) rfl
 obtain⟨rfl,rfl⟩:=same_at (ho.symm.trans ho')
 obtain⟨h1,_,h3,_⟩:=hoo _ ho
 simp only at h3
 subst h3
 simp only[Nat.zero_add,Nat.add_zero] at c0 c1 c2
 exact⟨g,ho,h1,c0,c1,c2⟩
end Go.Proofs.YtioehfhdoohdmaaGreatDoor
