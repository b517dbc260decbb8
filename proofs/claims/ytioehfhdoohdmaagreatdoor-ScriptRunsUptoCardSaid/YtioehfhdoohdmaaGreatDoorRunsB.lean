/- RunsB: FewB, BookIt. -/
import Derived.Test.YtioehfhdoohdmaaGreatDoorTabA
import Derived.Test.YtioehfhdoohdmaaGreatDoorBookA
import Derived.Test.YtioehfhdoohdmaaGreatDoorBookI
import Derived.Test.YtioehfhdoohdmaaGreatDoorRunsS
set_option linter.unusedVariables false
set_option linter.unusedSimpArgs false
namespace Go.Proofs.YtioehfhdoohdmaaGreatDoor
open Go.RowKit Go.Shelf
def fewB (s:ByteArray) (n:Nat):ByteArray:=if n<s.size then s.extract 0 n else s
theorem fewB_size (s:ByteArray) (n:Nat):(fewB s n).size≤n:=by
 unfold fewB;split
 ·simp;omega
 ·omega
theorem few14_any (s:ByteArray) (n:Nat) (w:World) (hs:s.size≤1048576) (hn:n≤1000000) :
 Calls Tryz.prog 13 #[.string s,.int .i64 n] w fun e w'=>e=.returned (.string (fewB s n))∧w=w':=by
 by_cases h:n<s.size
 ·have E:fewB s n=s.extract 0 n:=if_pos h
  go_enter Tryz.func13,Tryz.ntmps13
  go_wp2
  all_goals go_ret
  all_goals exact⟨by rw[E];rfl,rfl⟩
 ·have E:fewB s n=s:=if_neg h
  go_enter Tryz.func13,Tryz.ntmps13
  go_wp2
  all_goals go_ret
  all_goals exact⟨by rw[E];rfl,rfl⟩
def inN (n hi:Int):Int:=n % (hi+1)
theorem inN_le (n:Int) {hi:Int}(h:0≤hi):0≤inN n hi∧inN n hi≤hi:=by
 have h1:=Int.emod_nonneg n (show hi+1≠0 by omega)
 have h2:=Int.emod_lt_of_pos n (show 0<hi+1 by omega)
 unfold inN;omega
theorem within_any (n hi:Int) (w:World) (hl:0≤hi) (h2:hi≤1048576) (hn1:-9223372036854775808≤n) (hn2:n≤9223372036854775807) :
 Calls Tryz.prog 29 #[.int .i64 n,.int .i64 0,.int .i64 hi] w fun e w'=>e=.returned (.int .i64 (inN n hi))∧w=w':=by
 have hr:(0≤Int.tmod n (hi+1)∧inN n hi=Int.tmod n (hi+1))∨(Int.tmod n (hi+1)<0∧inN n hi=Int.tmod n (hi+1)+(hi+1)):=by
  have e1:=Int.tmod_eq_emod (a:=n) (b:=hi+1)
  have e2:=Int.emod_nonneg n (show hi+1≠0 by omega)
  have e3:=Int.emod_lt_of_pos n (show 0<hi+1 by omega)
  have e4:(((hi+1).natAbs:Nat):Int)=hi+1:=by omega
  unfold inN
  split at e1
  ·left;omega
  ·right;omega
 have hb:=inN_le n hl
 generalize inN n hi=m at *
 have Hr:=Lib.hid hr
 clear hr
 go_enter Tryz.func29,Tryz.ntmps29
 go_wp2
 all_goals go_ret
 all_goals (refine⟨congrArg (fun z=>Ending.returned (Value.int .i64 z)) ?_,rfl⟩;have hr:=Hr.out;simp only[wrap64];omega)
theorem runs_any (bb:Nat) (s:ByteArray) (w:World) :
 Calls Tryz.prog 28 #[.pointer (some ⟨bb,0,none⟩),.string s] w fun e w'=>e=.returned (.func (.func 58) #[] #[.pointer (some ⟨w.heap.size,0,none⟩),.pointer (some ⟨w.heap.size+1,0,none⟩)])∧w'=(w.alloc (.cells #[.pointer (some ⟨bb,0,none⟩)] 29)).alloc (.cells #[.string s] 9):=by
 go_enter Tryz.func28,Tryz.ntmps28
 go_wp2
 go_ret
 exact⟨by simp,rfl⟩
theorem BookAt.of_keep {z z':World}{b base bb:Nat}{B:BAddr}{T:Tab}(h:BookAt z bb B T) (n:TabNew base z T B.a) (hb:b<base) (h0:base≤bb) (h1:base≤B.m1) (h2:base≤B.m2) (h3:base≤B.m3) (h4:base≤B.m4) (h5:base≤B.m5) (k:Keep (fun i=>i=b) z z'):BookAt z' bb B T∧TabNew base z' T B.a:=by
 obtain⟨t1,t2⟩:=h.tab.of_keep n hb k
 have cb:∀ {j:Nat} {v:Value},z.cell? ⟨bb,j,none⟩=some v→z'.cell? ⟨bb,j,none⟩=some v:=fun hc=>(k.cell (World.block_lt_of_cell? z _ hc) (by simp only;omega)).trans hc
 have mb:∀ {j:Nat},base≤j→j<z.heap.size→z'.heap[j]?=z.heap[j]?:=fun hj hl=>k.block _ hl (by omega)
 exact⟨⟨t1,fun j v hv=>cb (h.c j v hv),cb h.q1,cb h.q2,cb h.q3,cb h.q4,cb h.q5,⟨h.maps.m1.of_block (mb h1 h.maps.m1.lt),h.maps.m2.of_block (mb h2 h.maps.m2.lt),h.maps.m3.of_block (mb h3 h.maps.m3.lt),h.maps.m4.of_block (mb h4 h.maps.m4.lt),h.maps.m5.of_block (mb h5 h.maps.m5.lt)⟩,h.right,h.forms⟩,t2⟩
end Go.Proofs.YtioehfhdoohdmaaGreatDoor
namespace Go.Proofs.YtioehfhdoohdmaaGreatDoor.bookInt
open Go.RowKit Go.Shelf
def CellsAt (W:World) (k:Nat):Prop:=∃o:Obj,W.heap[k]?=some o∧o.isCells=true
theorem cellsAt_of_cell {W:World}{a:Addr}{v:Value}(h:W.cell? a=some v):CellsAt W a.block:=by
 unfold World.cell? at h
 split at h
 ·rename_i e;exact⟨_,e,rfl⟩
 ·cases h
theorem CellsAt.lt {W:World}{k:Nat}(h:CellsAt W k):k<W.heap.size:=by
 obtain⟨o,h,_⟩:=h
 exact lt_of_block h
def BookIt (It:Nat→Prop) (B0:Nat) (wr:World) (B1 bk m:Nat):Prop:=∃(ao:Option Addr) (g off cap:Nat) (ao':Option Addr) (g' off' cap':Nat) (es:List Ent) (held:Int),Blk wr bk [.slice ao es.length cap,.slice ao' es.length cap',.int .i64 held,.bool false] 39 ∧
 Lists wr B0 B1 bk ao g off cap ao' g' off' cap' es∧es.length≤m∧B0≤wr.heap.size∧B1≤wr.heap.size∧(0<es.length∨(ao=none∧ao'=none))∧∀k,bset ao ao' es bk k→¬ It k
theorem bset_cells {W:World}{B0 B1 bk:Nat}{ao:Option Addr}{g off cap:Nat}{ao':Option Addr}{g' off' cap':Nat}{es:List Ent}{vs:List Value}{t:TypeId}(hb:Blk W bk vs t) (hl:Lists W B0 B1 bk ao g off cap ao' g' off' cap' es) (hq:0<es.length∨(ao=none∧ao'=none)) {k:Nat}(hk:bset ao ao' es bk k):CellsAt W k:=by
 have ow:∀ {o:Option Addr} {c:Nat} {xs:List Cel},Own W o c xs→blkOf o=some k→CellsAt W k:=fun h e=>by
  rcases h.form with ⟨rfl,rfl,rfl⟩ | ⟨g,cur,rfl,hg,_⟩
  ·cases e
  ·simp only[blkOf,Option.map_some,Option.some.injEq] at e
   subst e
   exact⟨_,hg,rfl⟩
 rcases hk with rfl | hk | hk | ⟨e,he,hk | hk⟩
 ·exact⟨_,hb,rfl⟩
 ·rcases hq with hq | ⟨rfl,_⟩
  ·obtain⟨e1,e2,_⟩:=hl.addr hq
   rw[e1] at hk
   simp only[blkOf,Option.map_some,Option.some.injEq] at hk
   subst hk
   exact cellsAt_of_cell (hl.at_ hq).1
  ·cases hk
 ·rcases hq with hq | ⟨_,rfl⟩
  ·obtain⟨e1,e2,_⟩:=hl.addr hq
   rw[e2] at hk
   simp only[blkOf,Option.map_some,Option.some.injEq] at hk
   subst hk
   exact cellsAt_of_cell (hl.at_ hq).2
  ·cases hk
 ·exact ow (hl.own e he).1 hk
 ·exact ow (hl.own e he).2 hk
theorem Lists.keepS {W W':World}{B0 B1 bk:Nat}{ao:Option Addr}{g off cap:Nat}{ao':Option Addr}{g' off' cap':Nat}{es:List Ent}(h:Lists W B0 B1 bk ao g off cap ao' g' off' cap' es)
 (hz:W.heap.size≤W'.heap.size) (hb:∀k,bset ao ao' es bk k→k<W.heap.size→W'.heap[k]?=W.heap[k]?):Lists W' B0 B1 bk ao g off cap ao' g' off' cap' es where
 L:=came_keep h.L (fun c=>hb g (Or.inr (Or.inl (by rw[h.L.addr c];rfl))) (h.L.lt c)) hz (by omega)
 M:=came_keep h.M (fun c=>hb g' (Or.inr (Or.inr (Or.inl (by rw[h.M.addr c];rfl)))) (h.M.lt c)) hz (by omega)
 capL:=h.capL
 capM:=h.capM
 own:=fun e he=>⟨(h.own e he).1.keep fun k hk hl=>hb k (Or.inr (Or.inr (Or.inr ⟨e,he,Or.inl hk⟩))) hl,(h.own e he).2.keep fun k hk hl=>hb k (Or.inr (Or.inr (Or.inr ⟨e,he,Or.inr hk⟩))) hl⟩
 bkB:=h.bkB
 gB:=h.gB
 gB':=h.gB'
 ent:=h.ent
 apart:=h.apart
 few:=h.few
theorem BookIt.moved {It:Nat→Prop}{B0:Nat}{X Y:World}{B1 bk m:Nat}(h:BookIt It B0 X B1 bk m) (hz:X.heap.size≤Y.heap.size) (hb:∀k,CellsAt X k→¬ It k→Y.heap[k]?=X.heap[k]?):BookIt It B0 Y B1 bk m:=by
 obtain⟨ao,g,off,cap,ao',g',off',cap',es,held,h1,h2,h3,h4,h5,h6,h7⟩:=h
 have hs:∀k,bset ao ao' es bk k→Y.heap[k]?=X.heap[k]?:=fun k hk=>hb k (bset_cells h1 h2 h6 hk) (h7 k hk)
 exact⟨ao,g,off,cap,ao',g',off',cap',es,held,(hs bk (Or.inl rfl)).trans h1,h2.keepS hz (fun k hk _=>hs k hk),h3,Nat.le_trans h4 hz,Nat.le_trans h5 hz,h6,h7⟩
theorem BookIt.movedB {It:Nat→Prop}{B0:Nat}{X Y:World}{B1 bk m:Nat}(h:BookIt It B0 X B1 bk m) (hz:X.heap.size≤Y.heap.size) (hb:∀k,CellsAt X k→¬ It k→k<B1→Y.heap[k]?=X.heap[k]?):BookIt It B0 Y B1 bk m:=by
 obtain⟨ao,g,off,cap,ao',g',off',cap',es,held,h1,h2,h3,h4,h5,h6,h7⟩:=h
 have hlt:∀k,bset ao ao' es bk k→k<B1:=fun k hk=>by
  rcases hk with rfl | hk | hk | ⟨e,he,hk⟩
  ·exact h2.bkB.2
  ·exact (h2.gB k hk).2.1
  ·exact (h2.gB' k hk).2.1
  ·exact (h2.ent e he k hk).2.1
 have hs:∀k,bset ao ao' es bk k→Y.heap[k]?=X.heap[k]?:=fun k hk=>hb k (bset_cells h1 h2 h6 hk) (h7 k hk) (hlt k hk)
 exact⟨ao,g,off,cap,ao',g',off',cap',es,held,(hs bk (Or.inl rfl)).trans h1,h2.keepS hz (fun k hk _=>hs k hk),h3,Nat.le_trans h4 hz,Nat.le_trans h5 hz,h6,h7⟩
theorem BookIt.stir {It:Nat→Prop}{B B0:Nat}{X Y:World}{B1 bk m:Nat}(h:BookIt It B0 X B1 bk m) (hS:Stir B It X Y):BookIt It B0 Y B1 bk m:=
 h.moved hS.size fun k hk hn=>hS.block k hk.lt hn (Or.inr hk)
theorem BookIt.later {It:Nat→Prop}{B0:Nat}{X Y:World}{B1 bk m:Nat}(h:BookIt It B0 X B1 bk m) (hB:Below X.heap.size X Y):BookIt It B0 Y B1 bk m:=
 h.moved hB.size fun k hk _=>hB.block k hk.lt
theorem BookIt.less {It It':Nat→Prop}{B0:Nat}{X:World}{B1 bk m:Nat}(h:BookIt It B0 X B1 bk m) (hi:∀k,It' k→It k∨X.heap.size≤k):BookIt It' B0 X B1 bk m:=by
 obtain⟨ao,g,off,cap,ao',g',off',cap',es,held,h1,h2,h3,h4,h5,h6,h7⟩:=h
 exact⟨ao,g,off,cap,ao',g',off',cap',es,held,h1,h2,h3,h4,h5,h6,fun k hk hI=>(hi k hI).elim (h7 k hk) (fun hh=>by have:=(bset_cells h1 h2 h6 hk).lt;omega)⟩
theorem BookIt.more {It:Nat→Prop}{B0:Nat}{X:World}{B1 bk m m':Nat}(h:BookIt It B0 X B1 bk m) (hm:m≤m'):BookIt It B0 X B1 bk m':=by
 obtain⟨ao,g,off,cap,ao',g',off',cap',es,held,h1,h2,h3,h4,h5,h6,h7⟩:=h
 exact⟨ao,g,off,cap,ao',g',off',cap',es,held,h1,h2,Nat.le_trans h3 hm,h4,h5,h6,h7⟩
theorem BookIt.top {It:Nat→Prop}{B0:Nat}{X:World}{B1 bk m:Nat}(h:BookIt It B0 X B1 bk m):B1≤X.heap.size:=by
 obtain⟨_,_,_,_,_,_,_,_,_,_,_,_,_,_,h5,_⟩:=h
 exact h5
theorem BookIt.up {It:Nat→Prop}{B0:Nat}{X:World}{B1 B2 bk m:Nat}(h:BookIt It B0 X B1 bk m) (hB:B1≤B2) (h2:B2≤X.heap.size):BookIt It B0 X B2 bk m:=by
 obtain⟨ao,g,off,cap,ao',g',off',cap',es,held,h1,hl,h3,h4,h5,h6,h7⟩:=h
 exact⟨ao,g,off,cap,ao',g',off',cap',es,held,h1,hl.up hB,h3,h4,h2,h6,h7⟩
theorem bookIt_new (w:World):BookIt (fun _=>False) w.heap.size (w.alloc (.cells #[.slice none 0 0,.slice none 0 0,.int .i64 0,.bool false] 39)) (w.heap.size+1) w.heap.size 0:=by
 have hc:∀W:World,Came W 1 none 0 0 0 0 []:=fun W=>⟨Nat.le_refl _,fun h=>absurd h (Nat.lt_irrefl _),fun h=>absurd h (Nat.lt_irrefl _),rfl,fun j u h=>by simp at h,fun j h=>by simp at h⟩
 exact⟨none,0,0,0,none,0,0,0,[],0,Blk.new' w _ _,⟨hc _,hc _,Nat.zero_le _,Nat.zero_le _,by simp,⟨Nat.le_refl _,by omega⟩,(fun k e=>by cases e),(fun k e=>by cases e),by simp,List.Pairwise.nil,by simp⟩,Nat.le_refl _,by simp,by simp,Or.inr ⟨rfl,rfl⟩,fun _ _ h=>h⟩
theorem bookIt_keep {It:Nat→Prop}{B0:Nat}{wr:World}{B1 bk m:Nat}(h:BookIt It B0 wr B1 bk m) (hm:m≤1000) (hIt:∀k,It k→k<wr.heap.size) {o:Option Addr}{c:Nat}{xs:List Cel}(ho:Own wr o c xs) (hfr:∀k,blkOf o=some k→B1≤k∧¬ It k) (hx:xs.length≤1048576) :
 Calls Tryz.prog 18 #[.pointer (some ⟨bk,0,none⟩),.slice o xs.length c] wr fun e w'=>(∃v,e=.returned v)∧BookIt It B0 w' w'.heap.size bk (m+1)∧Below B0 wr w'∧(∀k,It k→k<wr.heap.size→w'.heap[k]?=wr.heap[k]?)∧∀(k:Nat) (o:Obj),wr.heap[k]?=some o→o.isCells=false→w'.heap[k]?=some o:=by
 obtain⟨ao,g,off,cap,ao',g',off',cap',es,held,hb,hl,hn,hz,hB1,hq,h7⟩:=h
 refine (keep_any wr B0 B1 bk ao g off cap ao' g' off' cap' es held hb hl (by omega) hB1 o c xs ho (fun k hk=>(hfr k hk).1) (by omega) (fun k=>¬ It k) h7 (fun k hk=>(hfr k hk).2) (fun k hk hI=>by have:=hIt k hI;omega)).mono ?_
 rintro e w' ⟨he,hk,ao2,g2,off2,cap2,ao3,g3,off3,cap3,es2,held2,hb2,hl2,hn2,hbel2,hq2,hs2⟩
 have hset:∀k,(some k=blkOf ao∨some k=blkOf ao'∨k=bk)→bset ao ao' es bk k:=fun k hk=>by
  rcases hk with h | h | rfl
  ·exact Or.inr (Or.inl h.symm)
  ·exact Or.inr (Or.inr (Or.inl h.symm))
  ·exact Or.inl rfl
 refine⟨he,⟨ao2,g2,off2,cap2,ao3,g3,off3,cap3,es2,held2,hb2,hl2,by omega,Nat.le_trans hz hbel2.size,Nat.le_refl _,Or.inl hq2,hs2⟩,hbel2,fun k hI hlt=>hk.block k hlt (fun hh=>h7 k (hset k hh) hI),fun k o ho hc=>?_⟩
 refine (hk.block k (lt_of_block ho) (fun hh=>?_)).trans ho
 obtain⟨o2,e2,c2⟩:=bset_cells hb hl hq (hset k hh)
 rw[ho] at e2
 cases e2
 rw[hc] at c2
 cases c2
theorem bookIt_apart {It:Nat→Prop}{B0:Nat}{wr:World}{B1 bk m:Nat}(h:BookIt It B0 wr B1 bk m) :
 Calls Tryz.prog 25 #[.pointer (some ⟨bk,0,none⟩),.func (.func 26) #[] #[]] wr fun e w'=>e=.returned (.bool true)∧Below B0 wr w'∧∀(k:Nat) (o:Obj),wr.heap[k]?=some o→o.isCells=false→w'.heap[k]?=some o:=by
 obtain⟨ao,g,off,cap,ao',g',off',cap',es,held,hb,hl,hn,hz,hB1,hq,h7⟩:=h
 refine (apart_any wr B0 B1 bk ao g off cap ao' g' off' cap' es held hb hl).mono ?_
 rintro e w' ⟨he,hk,hb2⟩
 have hset:∀k,(k=bk∨∃e∈es,blkOf e.o=some k)→bset ao ao' es bk k:=fun k hk=>by
  rcases hk with rfl | ⟨e,he,h⟩
  ·exact Or.inl rfl
  ·exact Or.inr (Or.inr (Or.inr ⟨e,he,Or.inl h⟩))
 have hlow:∀k,(k=bk∨∃e∈es,blkOf e.o=some k)→B0≤k:=fun k hk=>by
  rcases hk with rfl | ⟨e,he,h⟩
  ·exact hl.bkB.1
  ·exact (hl.ent e he k (Or.inl h)).1
 refine⟨he,hk.below (fun k hk1=>⟨by omega,fun hh=>by have:=hlow k hh;omega⟩),fun k o ho hc=>?_⟩
 refine (hk.block k (lt_of_block ho) (fun hh=>?_)).trans ho
 obtain⟨o2,e2,c2⟩:=bset_cells hb hl hq (hset k hh)
 rw[ho] at e2
 cases e2
 rw[hc] at c2
 cases c2
end Go.Proofs.YtioehfhdoohdmaaGreatDoor.bookInt
