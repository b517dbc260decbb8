/- BookI: BookInt, BookIntS, BookIntB, BookIntK, BookIntA, BookIntP, BookIntI. -/
import Derived.Test.YtioehfhdoohdmaaGreatDoorTabA
import Derived.Test.YtioehfhdoohdmaaGreatDoorCloneA
import Derived.Deep.Upon
import Derived.Deep.AppendLies
import Derived.Deep.RegionHeld3
import Derived.WalkSmall
import Derived.BigQuiet
import Derived.Deep.RegionLaw
import Derived.Handy
import Derived.Test.YtioehfhdoohdmaaGreatDoorMeetA
set_option linter.unusedVariables false
set_option linter.unusedSimpArgs false
namespace Go.Proofs.YtioehfhdoohdmaaGreatDoor.bookInt
open Go.RowKit Go.Shelf
structure Cel where
 a0:Int
def cl (x:Cel):List Value:=[.int .i64 x.a0]
theorem cl_len (x:Cel):(cl x).length=1:=rfl
theorem cl_one (x:Cel):∀u∈cl x,u.oneCell'=true:=by
 intro u hu
 simp only[cl,List.mem_cons,List.not_mem_nil,or_false] at hu
 rcases hu with rfl <;> rfl
theorem flat_len (xs:List Cel):(xs.flatMap cl).length=xs.length*1:=by
 induction xs with
 | nil=>rfl
 | cons x t ih=>rw[List.flatMap_cons,List.length_append,ih,cl_len,List.length_cons,Nat.succ_mul];omega
theorem flat_cell:∀(xs:List Cel) (i k:Nat) (hi:i<xs.length),k<1→(xs.flatMap cl)[i*1+k]?=(cl xs[i])[k]?:=by
 intro xs
 induction xs with
 | nil=>intro i k hi;simp at hi
 | cons x t ih=>
  intro i k hi hk
  rw[List.flatMap_cons]
  cases i with
  | zero=>rw[List.getElem?_append_left (by rw[cl_len];omega),Nat.zero_mul,Nat.zero_add];rfl
  | succ i=>
   rw[List.getElem?_append_right (by rw[cl_len,Nat.succ_mul];omega),cl_len,show (i+1)*1+k - 1=i*1+k by rw[Nat.succ_mul];omega]
   exact ih i k (by simpa using hi) hk
def blkOf (o:Option Addr):Option Nat:=o.map (·.block)
def Own (W:World) (o:Option Addr) (c:Nat) (xs:List Cel):Prop:=W.ownsRow 0 3 1 (.slice o xs.length c) xs.length (xs.flatMap cl)
theorem Own.form {W:World}{o:Option Addr}{c:Nat}{xs:List Cel}(h:Own W o c xs) :
 (o=none∧c=0∧xs=[])∨∃g cur,o=some ⟨g,0,none⟩∧W.heap[g]?=some (.cells cur 3 (0,0))∧xs.length≤c∧c≤maxLen∧cur.size=c*1∧cur.toList.take (xs.length*1)=xs.flatMap cl:=by
 rcases h.2 with ⟨hv,h0⟩ | ⟨g,cap,cur,hv,_,hg,h1,h2,h3,h4⟩
 ·simp only[Value.slice.injEq] at hv
  exact Or.inl ⟨hv.1,hv.2.2,List.eq_nil_of_length_eq_zero h0⟩
 ·simp only[Value.slice.injEq] at hv
  obtain⟨rfl,_,rfl⟩:=hv
  exact Or.inr ⟨g,cur,rfl,hg,h1,h2,h3,h4⟩
theorem Own.of {W:World}{g c:Nat}{xs:List Cel}{cur:Array Value}(hg:W.heap[g]?=some (.cells cur 3 (0,0))) (h1:xs.length≤c) (h2:c≤maxLen) (h3:cur.size=c*1) (h4:cur.toList.take (xs.length*1)=xs.flatMap cl):Own W (some ⟨g,0,none⟩) c xs:=
 ⟨flat_len xs,.inr ⟨g,c,cur,rfl,Nat.zero_le _,hg,h1,h2,h3,h4⟩⟩
theorem Own.nil (W:World):Own W none 0 []:=⟨rfl,.inl ⟨rfl,rfl⟩⟩
theorem Own.keep {W W':World}{o:Option Addr}{c:Nat}{xs:List Cel}(h:Own W o c xs) (hb:∀k,blkOf o=some k→k<W.heap.size→W'.heap[k]?=W.heap[k]?):Own W' o c xs:=by
 rcases h.form with ⟨rfl,rfl,rfl⟩ | ⟨g,cur,rfl,hg,h1,h2,h3,h4⟩
 ·exact Own.nil _
 ·exact Own.of ((hb g rfl (lt_of_block hg)).trans hg) h1 h2 h3 h4
theorem Own.lt {W:World}{o:Option Addr}{c:Nat}{xs:List Cel}(h:Own W o c xs) {k:Nat}(e:blkOf o=some k):k<W.heap.size:=by
 rcases h.form with ⟨rfl,rfl,rfl⟩ | ⟨g,cur,rfl,hg,_⟩
 ·cases e
 ·simp only[blkOf,Option.map_some,Option.some.injEq] at e
  subst e
  exact lt_of_block hg
theorem Own.le {W:World}{o:Option Addr}{c:Nat}{xs:List Cel}(h:Own W o c xs):xs.length≤c∧c≤maxLen:=by
 rcases h.form with ⟨rfl,rfl,rfl⟩ | ⟨g,cur,rfl,hg,h1,h2,_⟩
 ·exact⟨Nat.le_refl _,Nat.zero_le _⟩
 ·exact⟨h1,h2⟩
theorem Own.at_ {W:World}{o:Option Addr}{c:Nat}{xs:List Cel}(h:Own W o c xs) {i:Nat}(hi:i<xs.length):∃g,o=some ⟨g,0,none⟩∧g<W.heap.size∧∀k,k<1→W.cell? ⟨g,i*1+k,none⟩=(cl xs[i])[k]?:=by
 rcases h.form with ⟨rfl,rfl,rfl⟩ | ⟨g,cur,rfl,hg,h1,h2,h3,h4⟩
 ·simp at hi
 ·refine⟨g,rfl,lt_of_block hg,fun k hk=>?_⟩
  rw[←flat_cell xs i k hi hk,←h4,List.getElem?_take_of_lt (by
   have h5:(i+1)*1≤xs.length*1:=Nat.mul_le_mul_right 1 hi
   rw[Nat.succ_mul] at h5;omega)]
  simp[World.cell?,hg]
theorem Own.cells {W:World}{g:Nat}{c:Nat}{xs:List Cel}(h:Own W (some ⟨g,0,none⟩) c xs):∀j u,(xs.flatMap cl)[j]?=some u→W.cell? ((⟨g,0,none⟩:Addr).add j)=some u:=by
 rcases h.form with ⟨e,_⟩ | ⟨g',cur,e,hg,h1,h2,h3,h4⟩
 ·cases e
 ·simp only[Option.some.injEq,Addr.mk.injEq] at e
  obtain⟨rfl,_⟩:=e
  intro j u hu
  refine World.news_of_block hg j u ?_
  rw[←h4] at hu
  rw[List.getElem?_take] at hu
  split at hu
  ·exact hu
  ·cases hu
theorem came_keep {W W':World}{size:Nat}{ao:Option Addr}{b off len cap:Nat}{olds:List Value}(h:Came W size ao b off len cap olds) (hb:0<cap→W'.heap[b]?=W.heap[b]?) (hz:W.heap.size≤W'.heap.size) (hs:0<size):Came W' size ao b off len cap olds:=by
 have hle:=h.le
 have hol:=h.oldsLen
 refine⟨h.le,h.addr,fun c=>Nat.lt_of_lt_of_le (h.lt c) hz,h.oldsLen,fun j u hu=>?_,fun j hj=>?_⟩
 ·have hj:=(List.getElem?_eq_some_iff.1 hu).1
  have hc:0<cap:=by
   rcases Nat.eq_zero_or_pos cap with c | c
   ·obtain rfl:len=0:=by omega
    simp at hol
    rw[hol] at hj;simp at hj
   ·exact c
  exact (World.cell?_of_block (a:=⟨b,off+j,none⟩) (hb hc)).trans (h.olds j u hu)
 ·have hc:0<cap:=by
   rcases Nat.eq_zero_or_pos cap with c | c
   ·subst c;simp at hj
   ·exact c
  obtain⟨s1,s2⟩:=h.spare j hj
  exact⟨by rw[World.cell?_of_block (a:=⟨b,off+len*size+j,none⟩) (hb hc)];exact s1,by rw[World.frozen?_of_block (a:=⟨b,off+len*size+j,none⟩) (hb hc)];exact s2⟩
theorem info_S:∃i,Tryz.prog.info? 40=some i∧i.zero=some (.slice none 0 0)∧i.size=1∧i.bytes=24:=info_parts (by kernel_rfl)
theorem info_E:∃i,Tryz.prog.info? 3=some i∧i.zero=some (.int .i64 0)∧i.size=1∧i.bytes=8:=info_parts (by kernel_rfl)
set_option maxHeartbeats 1000000 in
theorem append_win {W:World}{ao:Option Addr}{g off n cap:Nat}{vals:List Value}(hc:Came W 1 ao g off n cap vals) (hcap:cap≤maxLen) (hn:n≤100000) (x:Value) (hx:x.oneCell'=true) :
 ∃g2 off2 cap2 W2,(Builtin.append_ #[37,37] 37 #[.slice ao n cap,.slice (some ⟨W.heap.size,0,none⟩) 1 1]).run Tryz.prog (W.alloc (.cells #[x] 40))=.ok (.slice (some ⟨g2,off2,none⟩) (n+1) cap2) W2
  ∧ Came W2 1 (some ⟨g2,off2,none⟩) g2 off2 (n+1) cap2 (vals++[x])∧cap2≤maxLen∧Keep (fun k=>some k=blkOf ao) W W2∧(some g2=blkOf ao∨W.heap.size<g2)∧g2<W2.heap.size:=by
 obtain⟨i0,hi,hz0,hz1,hz2⟩:=info_S
 have hk1:Keep (fun k=>some k=blkOf ao) W (W.alloc (.cells #[x] 40)):=(Keep.refl _ W).alloc _
 have hb0:(W.alloc (.cells #[x] 40)).heap[W.heap.size]?=some (.cells #[x] 40 (0,0)):=heap_alloc_new W _
 have hc1:Came (W.alloc (.cells #[x] 40)) 1 ao g off n cap vals:=came_keep hc (fun c=>Below.heap_alloc _ _ _ (hc.lt c)) hk1.size (by omega)
 have hz:(W.alloc (.cells #[x] 40)).heap.size=W.heap.size+1:=by simp
 generalize W.alloc (.cells #[x] 40)=W1 at *
 have hsrc:Src Tryz.prog i0.size 37 (.slice (some ⟨W.heap.size,0,none⟩) 1 1) 1 [x] W1:=Src.ofSlice _ Tryz.underlying37 _ 1 1 [x] (by rw[hz1];rfl) (World.news_of_block hb0) (by intro u hu;obtain rfl:u=x:=(by simpa using hu);exact hx)
 have hle:=hc1.le
 have hol:=hc1.oldsLen
 by_cases hroom:n+1≤cap
 ·have hao:=hc1.addr (by omega)
  have hlt:=hc1.lt (by omega)
  subst hao
  have hr:=run_append_room_src (P:=Tryz.prog) (w:=W1) 37 37 37 40 i0 Tryz.underlying37 hi g off n cap _ 1 [x] hsrc hroom
   (fun j hj=>by rw[hz1];exact (hc1.spare j (by simp at hj;omega)).1) (fun j hj=>by rw[hz1];exact (hc1.spare j (by simp at hj;omega)).2)
  rw[hz1] at hr
  have hin:=World.cell?_setCells_in g [x] (off+n*1) W1 (fun j hj=>(hc1.spare j (by simp at hj;omega)).1)
  have hout:=World.cell?_setCells_out g [x] (off+n*1) W1
  have hfz:=World.frozen?_setCells g [x] (off+n*1) W1
  refine⟨g,off,cap,_,hr,⟨hroom,fun _=>rfl,fun _=>?_,by simp[hol],fun j u hu=>?_,fun j hj=>?_⟩,hcap,?_,Or.inl rfl,?_⟩
  ·show g<(W1.setCell ⟨g,off+n*1,none⟩ x).heap.size
   rw[World.size_setCell];exact hlt
  ·by_cases c:j<vals.length
   ·rw[List.getElem?_append_left c] at hu
    rw[hout ⟨g,off+j,none⟩ (fun _ _=>Or.inl (by show off+j<off+n*1;omega))]
    exact hc1.olds j u hu
   ·have hj2:=(List.getElem?_eq_some_iff.1 hu).1
    simp only[List.length_append,List.length_singleton] at hj2
    obtain rfl:j=n:=by omega
    rw[List.getElem?_append_right (by omega)] at hu
    have hu2:x=u:=by simpa [show j - vals.length=0 by omega] using hu
    have:=hin 0 (by simp)
    rw[show off+j*1+0=off+j by omega] at this
    rw[this,←hu2];rfl
  ·rw[show off+(n+1)*1+j=off+n*1+(j+1) by omega,hout ⟨g,off+n*1+(j+1),none⟩ (fun _ _=>Or.inr (by show off+n*1+1≤off+n*1+(j+1);omega)),hfz]
   exact hc1.spare (j+1) (by omega)
  ·exact hk1.trans' (((Keep.refl (fun k=>some k=blkOf (some ⟨g,off,none⟩)) W1).setCell (p:=⟨g,off+n*1,none⟩) (fun _=>rfl) x)) (fun i _ h=>h)
  ·show g<(W1.setCell ⟨g,off+n*1,none⟩ x).heap.size
   rw[World.size_setCell];exact hlt
 ·have hold:(Builtin.firstCells i0.size n (.slice ao n cap)).run Tryz.prog W1.drew=.ok vals.toArray W1.drew:=by
   by_cases c0:cap=0
   ·subst c0
    obtain rfl:n=0:=by omega
    have hv:vals=[]:=List.eq_nil_of_length_eq_zero (by simpa using hol)
    subst hv
    cases ao with
    | none=>exact run_firstCells_none W1.drew i0.size 0 0 0
    | some a=>exact run_firstCells_some W1.drew i0.size 0 a 0 0 [] (by simp) (fun j u hu=>by simp at hu)
   ·have hao:=hc1.addr (by omega)
    subst hao
    refine run_firstCells_some W1.drew i0.size n ⟨g,off,none⟩ n cap vals (by rw[hz1,hol]) (fun j u hu=>?_)
    rw[Addr.add_lit]
    exact hc1.olds j u hu
  have hr:=run_append_grow_src (P:=Tryz.prog) (w:=W1) 37 37 37 40 i0 _ Tryz.underlying37 hi hz0 ao n cap vals hold _ 1 [x] hsrc (by omega) (by omega) (growslice_fits (by omega) (by rw[hz2];omega))
  have hge:=grownCap_ge W1 (n+1) cap 40
  have hcm:=grownCap_le_maxLen W1 (n+1) cap 40 (by unfold maxLen;omega)
  generalize grownCap W1 (n+1) cap 40=gc at *
  have hL:(vals++[x]).length=n+1:=by rw[List.length_append,hol];simp
  have hsz:((vals++[x]).toArray++Builtin.zeroCells (Value.slice none 0 0).cells (gc - (n+1))).size=gc:=by
   rw[Array.size_append,List.size_toArray,hL,size_zeroCells]
   show n+1+(gc - (n+1))*1=gc
   omega
  have hcell:∀j,(W1.drew.alloc (.cells ((vals++[x]).toArray++Builtin.zeroCells (Value.slice none 0 0).cells (gc - (n+1))) 40)).cell? ⟨W1.heap.size,j,none⟩=_:=fun j=>World.cell?_alloc_new W1.drew _ _ j
  have hfz:∀j,(W1.drew.alloc (.cells ((vals++[x]).toArray++Builtin.zeroCells (Value.slice none 0 0).cells (gc - (n+1))) 40)).frozen? ⟨W1.heap.size,j,none⟩=_:=fun j=>World.frozen?_alloc_new W1.drew _ _ j
  have hsize:(W1.drew.alloc (.cells ((vals++[x]).toArray++Builtin.zeroCells (Value.slice none 0 0).cells (gc - (n+1))) 40)).heap.size=W1.heap.size+1:=by simp
  have hk2:Keep (fun k=>some k=blkOf ao) W1 (W1.drew.alloc (.cells ((vals++[x]).toArray++Builtin.zeroCells (Value.slice none 0 0).cells (gc - (n+1))) 40)):=(Keep.refl _ W1).drew.alloc _
  refine⟨W1.heap.size,0,gc,_,hr,⟨hge,fun _=>rfl,fun _=>by rw[hsize];omega,by rw[hL];omega,fun j u hu=>?_,fun j hj=>⟨?_,?_⟩⟩,hcm,hk1.trans' hk2 (fun i _ h=>h),Or.inr (by omega),by rw[hsize];omega⟩
  ·have hj:=(List.getElem?_eq_some_iff.1 hu).1
   rw[Nat.zero_add,hcell,Array.getElem?_append_left (by simp only[List.size_toArray];exact hj),List.getElem?_toArray]
   exact hu
  ·rw[hcell,Array.getElem?_eq_getElem (by rw[hsz];omega)]
   rfl
  ·rw[hfz]
set_option maxHeartbeats 1000000 in
theorem append_copy {W:World}{o:Option Addr}{c:Nat}{xs:List Cel}(h:Own W o c xs) (hn:xs.length≤1000000000) :
 ∃p d W2,(Builtin.append_ #[40,40] 40 #[.slice none 0 0,.slice o xs.length c]).run Tryz.prog W=.ok (.slice p xs.length d) W2∧Own W2 p d xs∧Keep (fun _=>False) W W2∧∀k,blkOf p=some k→W.heap.size≤k:=by
 obtain⟨i0,hi,hz0,hz1,hz2⟩:=info_E
 by_cases hne:xs=[]
 ·subst hne
  rcases h.form with ⟨rfl,rfl,_⟩ | ⟨g,cur,rfl,hg,h1,h2,h3,h4⟩
  ·refine⟨none,0,W,?_,Own.nil _,Keep.refl _ _,fun k e=>by cases e⟩
   exact run_append_nothing (P:=Tryz.prog) W _ _ _ _ i0 Tryz.underlying40 hi none 0 0 (Nat.le_refl _) _ (Src.ofNil _ Tryz.underlying40 0)
  ·refine⟨none,0,W,?_,Own.nil _,Keep.refl _ _,fun k e=>by cases e⟩
   exact run_append_nothing (P:=Tryz.prog) W _ _ _ _ i0 Tryz.underlying40 hi none 0 0 (Nat.le_refl _) _ (Src.ofSlice _ Tryz.underlying40 _ 0 c [] (by simp) (fun j u hu=>by simp at hu) (by simp))
 ·have hpos:0<xs.length:=List.length_pos_iff.2 hne
  rcases h.form with ⟨_,_,e⟩ | ⟨g,cur,rfl,hg,h1,h2,h3,h4⟩
  ·exact absurd e hne
  ·obtain⟨g2,cap2,W2,hr,hown,hgr,hat,hlt⟩:=run_append_lies (P:=Tryz.prog) W 40 40 0 3 i0 _ 1 8 Tryz.underlying40 hi hz0 hz1 hz2 rfl (by decide) (.slice none 0 0) 0 [] (World.ownsRow_nil W 0 _ _) ⟨g,0,none⟩ xs.length c (xs.flatMap cl) (flat_len xs) h.cells
    (fun u hu=>by obtain⟨x,_,hx⟩:=List.mem_flatMap.1 hu;exact cl_one x u hx) hpos (by unfold maxLen;omega) (by omega) (Nat.zero_le _) W.heap.size rfl
   simp only[Nat.zero_add,List.nil_append] at hr hown
   refine⟨some ⟨g2,0,none⟩,cap2,W2,hr,hown,⟨hgr.os,hgr.tape,hgr.output,hgr.size,fun k hk _=>hgr.block k hk (by simp[Value.ownBlock])⟩,fun k e=>?_⟩
   rcases hat with h5 | h5
   ·simp[Value.ownBlock] at h5
   ·simp only[blkOf,Option.map_some,Option.some.injEq] at e
    omega
end Go.Proofs.YtioehfhdoohdmaaGreatDoor.bookInt
namespace Go.Proofs.YtioehfhdoohdmaaGreatDoor.bookInt
open Go.RowKit Go.Shelf
theorem Own.drewN {W:World}{o:Option Addr}{c:Nat}{xs:List Cel}(h:Own W o c xs) (n:Nat):Own (W.drewN n) o c xs:=h.keep (fun _ _ _=>rfl)
set_option maxRecDepth 100000 in
set_option maxHeartbeats 2000000 in
theorem same_any (W:World) (o p:Option Addr) (c d:Nat) (xs:List Cel) (h1:Own W o c xs) (h2:Own W p d xs) :
 Calls Tryz.prog 16 #[.slice o xs.length c,.slice p xs.length d] W fun e w'=>e=.returned (.bool true)∧∃m,w'=W.drewN m:=by
 have hle:=h1.le
 have hmx:c≤9223372036854775807:=hle.2
 have hlx:=hle.1
 have H1:=Lib.hid h1
 have H2:=Lib.hid h2
 clear h1 h2 hle
 go_enter Tryz.func16,Tryz.ntmps16
 go_wp2_with fail
 go_loopw [5] (fun v5 wr=>∃i:Nat,v5=.int .i64 i∧i≤xs.length∧∃m,wr=W.drewN m) (fun v5 _=>xs.length - (intOf v5).toNat)
 case atStart=>exact⟨0,rfl,Nat.zero_le _,0,rfl⟩
 case round=>
  obtain⟨i,rfl,hi,m,rfl⟩:=hrel
  have i0:(0:Int)≤(i:Int):=Int.natCast_nonneg _
  by_cases hlt:i<xs.length
  ·have i1:(i:Int)<(xs.length:Int):=by omega
   obtain⟨g,rfl,hg,q1⟩:=(H1.out.drewN m).at_ hlt
   obtain⟨g',rfl,hg',q2⟩:=(H2.out.drewN m).at_ hlt
   have r0:=q1 0 (by omega)
   have s0:=q2 0 (by omega)
   simp only[cl,List.getElem?_cons_zero,List.getElem?_cons_succ,Nat.add_zero,Nat.mul_one,World.cell?_drewN] at r0 s0
   generalize xs[i]=x at *
   clear q1 q2
   go_wp2_with fail
   go_quiet (fail)
   go_wp2_with fail
   exact⟨⟨i+1,by go_num,by omega,_,rfl⟩,by simp[intOf];omega⟩
  ·obtain rfl:i=xs.length:=by omega
   clear hi hlt i0
   go_wp2_with fail
   go_ret
   exact⟨rfl,m,rfl⟩
end Go.Proofs.YtioehfhdoohdmaaGreatDoor.bookInt
namespace Go.Proofs.YtioehfhdoohdmaaGreatDoor.bookInt
open Go.RowKit Go.Shelf
theorem keep_drewN {S:Nat→Prop}{W W':World}(h:Keep S W W') (n:Nat):Keep S W (W'.drewN n):=⟨h.os,h.tape,h.output,h.size,h.block⟩
theorem blk_drewN {W:World}{b:Nat}{vs:List Value}{T:TypeId}(h:Blk W b vs T) (n:Nat):Blk (W.drewN n) b vs T:=h
structure Ent where
 o:Option Addr
 c:Nat
 p:Option Addr
 d:Nat
 xs:List Cel
def Ent.v (e:Ent):Value:=.slice e.o e.xs.length e.c
def Ent.u (e:Ent):Value:=.slice e.p e.xs.length e.d
structure Lists (W:World) (B0 B1 bk:Nat) (ao:Option Addr) (g off cap:Nat) (ao':Option Addr) (g' off' cap':Nat) (es:List Ent):Prop where
 L:Came W 1 ao g off es.length cap (es.map Ent.v)
 M:Came W 1 ao' g' off' es.length cap' (es.map Ent.u)
 capL:cap≤maxLen
 capM:cap'≤maxLen
 own:∀e∈es,Own W e.o e.c e.xs∧Own W e.p e.d e.xs
 bkB:B0≤bk∧bk<B1
 gB:∀k,blkOf ao=some k→B0≤k∧k<B1∧k≠bk
 gB':∀k,blkOf ao'=some k→B0≤k∧k<B1∧k≠bk∧some k≠blkOf ao
 ent:∀e∈es,∀k,(blkOf e.o=some k∨blkOf e.p=some k)→B0≤k∧k<B1∧k≠bk∧some k≠blkOf ao∧some k≠blkOf ao'
 apart:es.Pairwise fun e f=>∀k,blkOf e.o=some k→blkOf f.o≠some k
 few:es.length≤100000
theorem Lists.addr {W:World}{B0 B1 bk:Nat}{ao:Option Addr}{g off cap:Nat}{ao':Option Addr}{g' off' cap':Nat}{es:List Ent}(h:Lists W B0 B1 bk ao g off cap ao' g' off' cap' es) (hne:0<es.length) :
 ao=some ⟨g,off,none⟩∧ao'=some ⟨g',off',none⟩∧B0≤g∧g<B1∧g≠bk∧B0≤g'∧g'<B1∧g'≠bk∧g'≠g:=by
 have e1:=h.L.addr (by have:=h.L.le;omega)
 have e2:=h.M.addr (by have:=h.M.le;omega)
 have b1:=h.gB g (by rw[e1];rfl)
 have b2:=h.gB' g' (by rw[e2];rfl)
 refine⟨e1,e2,b1.1,b1.2.1,b1.2.2,b2.1,b2.2.1,b2.2.2.1,fun e=>b2.2.2.2 ?_⟩
 rw[e1,e];rfl
theorem Lists.keep {W W':World}{B0 B1 bk:Nat}{ao:Option Addr}{g off cap:Nat}{ao':Option Addr}{g' off' cap':Nat}{es:List Ent}(h:Lists W B0 B1 bk ao g off cap ao' g' off' cap' es)
 (hz:W.heap.size≤W'.heap.size) (hb:∀k,k<B1→k≠bk→k<W.heap.size→W'.heap[k]?=W.heap[k]?):Lists W' B0 B1 bk ao g off cap ao' g' off' cap' es where
 L:=came_keep h.L (fun c=>by
  have e:=h.L.addr c
  have b:=h.gB g (by rw[e];rfl)
  exact hb g b.2.1 b.2.2 (h.L.lt c)) hz (by omega)
 M:=came_keep h.M (fun c=>by
  have e:=h.M.addr c
  have b:=h.gB' g' (by rw[e];rfl)
  exact hb g' b.2.1 b.2.2.1 (h.M.lt c)) hz (by omega)
 capL:=h.capL
 capM:=h.capM
 own:=fun e he=>⟨(h.own e he).1.keep fun k hk hl=>by have b:=h.ent e he k (Or.inl hk);exact hb k b.2.1 b.2.2.1 hl,(h.own e he).2.keep fun k hk hl=>by have b:=h.ent e he k (Or.inr hk);exact hb k b.2.1 b.2.2.1 hl⟩
 bkB:=h.bkB
 gB:=h.gB
 gB':=h.gB'
 ent:=h.ent
 apart:=h.apart
 few:=h.few
theorem Lists.up {W:World}{B0 B1 B2 bk:Nat}{ao:Option Addr}{g off cap:Nat}{ao':Option Addr}{g' off' cap':Nat}{es:List Ent}(h:Lists W B0 B1 bk ao g off cap ao' g' off' cap' es) (hB:B1≤B2):Lists W B0 B2 bk ao g off cap ao' g' off' cap' es:=
 ⟨h.L,h.M,h.capL,h.capM,h.own,⟨h.bkB.1,by have:=h.bkB;omega⟩,fun k hk=>by have:=h.gB k hk;exact⟨this.1,by omega,this.2.2⟩,fun k hk=>by have:=h.gB' k hk;exact⟨this.1,by omega,this.2.2⟩,fun e he k hk=>by have:=h.ent e he k hk;exact⟨this.1,by omega,this.2.2⟩,h.apart,h.few⟩
theorem Lists.tail {W:World}{B0 B1 bk:Nat}{ao:Option Addr}{g off cap:Nat}{ao':Option Addr}{g' off' cap':Nat}{es:List Ent}(h:Lists W B0 B1 bk ao g off cap ao' g' off' cap' es) (hne:0<es.length) (hd:∀ {W:World}{B0 B1 bk:Nat}{ao:Option Addr}{g off cap:Nat}{ao':Option Addr}{g' off' cap':Nat}{e:Ent}{es:List Ent},Lists W B0 B1 bk ao g off cap ao' g' off' cap' (e::es)→Lists W B0 B1 bk (some ⟨g,off+1,none⟩) g (off+1) (cap - 1) (some ⟨g',off'+1,none⟩) g' (off'+1) (cap' - 1) es) :
 Lists W B0 B1 bk (some ⟨g,off+1,none⟩) g (off+1) (cap - 1) (some ⟨g',off'+1,none⟩) g' (off'+1) (cap' - 1) es.tail:=by
 cases es with
 | nil=>simp at hne
 | cons e t=>exact hd h
theorem Lists.at_ {W:World}{B0 B1 bk:Nat}{ao:Option Addr}{g off cap:Nat}{ao':Option Addr}{g' off' cap':Nat}{es:List Ent}(h:Lists W B0 B1 bk ao g off cap ao' g' off' cap' es) {i:Nat}(hi:i<es.length) :
 W.cell? ⟨g,off+i,none⟩=some es[i].v∧W.cell? ⟨g',off'+i,none⟩=some es[i].u:=
 ⟨h.L.olds i _ (by rw[List.getElem?_map,List.getElem?_eq_getElem hi];rfl),h.M.olds i _ (by rw[List.getElem?_map,List.getElem?_eq_getElem hi];rfl)⟩
theorem Lists.drop {W:World}{B0 B1 bk:Nat}{ao:Option Addr}{g off cap:Nat}{ao':Option Addr}{g' off' cap':Nat}{e:Ent}{es:List Ent}(h:Lists W B0 B1 bk ao g off cap ao' g' off' cap' (e::es)) :
 Lists W B0 B1 bk (some ⟨g,off+1,none⟩) g (off+1) (cap - 1) (some ⟨g',off'+1,none⟩) g' (off'+1) (cap' - 1) es:=by
 obtain⟨e1,e2,a1,a2,a3,a4,a5,a6,a7⟩:=h.addr (by simp)
 have l1:=h.L.le
 have l2:=h.M.le
 simp only[List.length_cons] at l1 l2
 have came:∀(f:Ent→Value) ao g off cap,ao=some ⟨g,off,none⟩→es.length+1≤cap→Came W 1 ao g off (e::es).length cap ((e::es).map f)→Came W 1 (some ⟨g,off+1,none⟩) g (off+1) es.length (cap - 1) (es.map f):=fun f ao g off cap ea hl hc=>by
  refine⟨by omega,fun _=>rfl,fun c=>hc.lt (by omega),by simp,fun j u hu=>?_,fun j hj=>?_⟩
  ·have:=hc.olds (j+1) u (by rw[List.map_cons,List.getElem?_cons_succ];exact hu)
   rw[show off+1+j=off+(j+1) by omega]
   exact this
  ·have:=hc.spare j (by simp only[List.length_cons];omega)
   simp only[List.length_cons] at this
   rw[show off+1+es.length*1+j=off+(es.length+1)*1+j by omega]
   exact this
 have m1:=h.capL
 have m2:=h.capM
 have fw:=h.few
 simp only[List.length_cons] at fw
 refine⟨came _ _ _ _ _ e1 l1 h.L,came _ _ _ _ _ e2 l2 h.M,by omega,by omega,fun x hx=>h.own x (List.mem_cons_of_mem _ hx),h.bkB,fun k hk=>?_,fun k hk=>?_,fun x hx k hk=>?_,(List.pairwise_cons.1 h.apart).2,by omega⟩
 ·simp only[blkOf,Option.map_some,Option.some.injEq] at hk
  subst hk
  exact⟨a1,a2,a3⟩
 ·simp only[blkOf,Option.map_some,Option.some.injEq] at hk
  subst hk
  exact⟨a4,a5,a6,fun e=>a7 (by simpa [blkOf] using e)⟩
 ·have:=h.ent x (List.mem_cons_of_mem _ hx) k hk
  rw[e1,e2] at this
  exact this
theorem Lists.next {W:World}{B0 B1 bk:Nat}{ao:Option Addr}{g off cap:Nat}{ao':Option Addr}{g' off' cap':Nat}{es:List Ent}(h:Lists W B0 B1 bk ao g off cap ao' g' off' cap' es) (hne:0<es.length):Lists W B0 B1 bk (some ⟨g,off+1,none⟩) g (off+1) (cap - 1) (some ⟨g',off'+1,none⟩) g' (off'+1) (cap' - 1) es.tail:=h.tail hne Lists.drop
theorem held_store {wr w':World}{bk g g' i j n:Nat}{a0:Option Addr}{cap:Nat}{a1:Option Addr}{cap':Nat}{held:Int}{v u:Value}(hb:Blk w' bk [.slice a0 n cap,.slice a1 n cap',.int .i64 held,.bool false] 39) (hk:Keep (fun k=>k=bk) wr w')
 (c1:w'.cell? ⟨g,i,none⟩=some v) (c2:w'.cell? ⟨g',j,none⟩=some u) (hg:g≠bk) (hg':g'≠bk) :
 (w'.setCell ⟨bk,3,none⟩ (.bool false)).cell? ⟨bk,0,none⟩=some (.slice a0 n cap)∧(w'.setCell ⟨bk,3,none⟩ (.bool false)).cell? ⟨bk,1,none⟩=some (.slice a1 n cap') ∧
 (w'.setCell ⟨bk,3,none⟩ (.bool false)).cell? ⟨bk,3,none⟩=some (.bool false)∧(w'.setCell ⟨bk,3,none⟩ (.bool false)).frozen? ⟨bk,3,none⟩=false ∧
 (w'.setCell ⟨bk,3,none⟩ (.bool false)).cell? ⟨g,i,none⟩=some v∧(w'.setCell ⟨bk,3,none⟩ (.bool false)).cell? ⟨g',j,none⟩=some u ∧
 Blk (w'.setCell ⟨bk,3,none⟩ (.bool false)) bk [.slice a0 n cap,.slice a1 n cap',.int .i64 held,.bool false] 39∧Keep (fun k=>k=bk) wr (w'.setCell ⟨bk,3,none⟩ (.bool false)):=by
 have b:=hb.set 3 (.bool false)
 refine⟨b.cell 0,b.cell 1,b.cell 3,b.frozen 3,?_,?_,b,hk.setCell (fun _=>rfl) _⟩
 ·rw[World.cell?_of_block (w:=w') (Below.heap_setCell w' _ _ g hg)];exact c1
 ·rw[World.cell?_of_block (w:=w') (Below.heap_setCell w' _ _ g' hg')];exact c2
set_option maxRecDepth 100000 in
set_option maxHeartbeats 4000000 in
theorem stays_any (W:World) (B0 B1 bk:Nat) (ao:Option Addr) (g off cap:Nat) (ao':Option Addr) (g' off' cap':Nat) (es:List Ent) (held:Int) (hb:Blk W bk [.slice ao es.length cap,.slice ao' es.length cap',.int .i64 held,.bool false] 39)
 (hl:Lists W B0 B1 bk ao g off cap ao' g' off' cap' es) :
 Calls Tryz.prog 57 #[.pointer (some ⟨bk,0,none⟩)] W fun e w'=>e=.returned (.bool true)∧Blk w' bk [.slice ao es.length cap,.slice ao' es.length cap',.int .i64 held,.bool false] 39∧Keep (fun k=>k=bk) W w':=by
 have HL:=Lib.hid hl
 have hfew:=hl.few
 clear hl
 go_enter Tryz.func57,Tryz.ntmps57
 go_wp2_with fail
 go_loopw [3] (fun v3 wr=>∃i:Nat,v3=.int .i64 i∧i≤es.length∧Blk wr bk [.slice ao es.length cap,.slice ao' es.length cap',.int .i64 held,.bool false] 39∧Keep (fun k=>k=bk) W wr) (fun v3 _=>es.length - (intOf v3).toNat)
 case atStart=>exact⟨0,rfl,Nat.zero_le _,hb,Keep.refl _ _⟩
 case round=>
  clear hb
  obtain⟨i,rfl,hi,hb,hk⟩:=hrel
  have i0:(0:Int)≤(i:Int):=Int.natCast_nonneg _
  have c0:=hb.cell 0
  have c1:=hb.cell 1
  have c3:=hb.cell 3
  have f3:=hb.frozen 3
  simp only[List.getElem?_cons_zero,List.getElem?_cons_succ] at c0 c1 c3
  by_cases hlt:i<es.length
  ·have i1:(i:Int)<(es.length:Int):=by omega
   have hl:=HL.out.keep (W':=wr) hk.size (fun k _ hne hkl=>hk.block k hkl hne)
   obtain⟨rfl,rfl,_,_,hgb,_,_,hgb',_⟩:=hl.addr (by omega)
   obtain⟨d1,d2⟩:=hl.at_ hlt
   obtain⟨ow1,ow2⟩:=hl.own es[i] (List.getElem_mem hlt)
   have en:=hl.ent es[i] (List.getElem_mem hlt)
   simp only[Ent.v,Ent.u] at d1 d2
   generalize es[i]=e at *
   have hsm:=fun (w':World) (kk:Keep (fun k=>k=bk) wr w')=>same_any w' e.o e.p e.c e.d e.xs (ow1.keep fun k hk hl=>kk.block k hl (en k (Or.inl hk)).2.2.1) (ow2.keep fun k hk hl=>kk.block k hl (en k (Or.inr hk)).2.2.1)
   have HS:=Lib.hid hsm
   clear hsm ow1 ow2 en hl
   have hkk:Keep (fun k=>k=bk) wr wr:=Keep.refl _ _
   go_wp2_with fail
   go_region_held3 (fun w'=>w'.cell? ⟨bk,0,none⟩=some (.slice (some ⟨g,off,none⟩) es.length cap)∧w'.cell? ⟨bk,1,none⟩=some (.slice (some ⟨g',off',none⟩) es.length cap')∧w'.cell? ⟨bk,3,none⟩=some (.bool false)∧w'.frozen? ⟨bk,3,none⟩=false∧w'.cell? ⟨g,off+i,none⟩=some (.slice e.o e.xs.length e.c)∧w'.cell? ⟨g',off'+i,none⟩=some (.slice e.p e.xs.length e.d) ∧
    Blk w' bk [.slice (some ⟨g,off,none⟩) es.length cap,.slice (some ⟨g',off',none⟩) es.length cap',.int .i64 held,.bool false] 39∧Keep (fun k=>k=bk) wr w')
    (first
     | (go_split_ands;exact held_store (by assumption) (by assumption) (by assumption) (by assumption) hgb hgb')
     | (go_split_ands;refine⟨?_,?_,?_,?_,?_,?_,?_,?_⟩ <;> first | assumption | (exact Keep.drew (by assumption)) | (exact keep_drewN (by assumption) _) | (exact blk_drewN (by assumption) _)))
    (first | (go_at_call 16;refine Calls.mono (HS.out _ (by go_split_ands;assumption)) ?_;rintro e w' ⟨rfl,m,rfl⟩))
   all_goals
    rename_i hh
    obtain⟨_,_,_,_,_,_,hb2,hk2⟩:=hh
    have hk3:=hk.trans' hk2 (fun _ _ h=>h)
    clear hk2 hb hk
    go_wp2_with fail
    exact⟨⟨i+1,by go_num,by omega,hb2,hk3⟩,by simp[intOf];omega⟩
  ·obtain rfl:i=es.length:=by omega
   clear hi hlt i0
   go_wp2_with fail
   go_ret
   exact⟨rfl,hb,hk⟩
end Go.Proofs.YtioehfhdoohdmaaGreatDoor.bookInt
namespace Go.Proofs.YtioehfhdoohdmaaGreatDoor.bookInt
open Go.RowKit Go.Shelf
theorem wpList_append_eq {P:Program}{ops:Array Oper}{rest:List Oper}{o:Oper}{a:Act}{Q:Exit→Act→World→Prop}(hgd:o.guard=none) (s x:Operand) (t:TypeId)
 (ho:o.op=.call { callee:=.builtin .append,args:=#[s,x],argTypes:=#[t,t] }) {sv xv v':Value} {w w':World} (hs:a.eval s=sv) (hx:a.eval x=xv)
 (hrun:(Builtin.append_ #[t,t] o.type #[sv,xv]).run P w=.ok v' w') (hK:wpList P ops Q rest (a.put o.dst v') w'):wpList P ops Q (o::rest) a w:=by
 refine wpList_plain hgd fun K hK'=>?_
 unfold Oper.wp
 simp[execOp,ho,resolve,invoke,builtin,hs,hx,hrun,Result.andThen]
 exact hK' _ _ hK
theorem step_append_eq {P:Program}{ops:Array Oper}{o:Oper}{a:Act}{K:Act→World→Prop}{Q:Exit→Act→World→Prop}{E:Prop}(hgd:o.guard=none) (s x:Operand) (t:TypeId)
 (ho:o.op=.call { callee:=.builtin .append,args:=#[s,x],argTypes:=#[t,t] }) {sv xv v':Value} {w w':World} (hs:a.eval s=sv) (hx:a.eval x=xv)
 (hrun:(Builtin.append_ #[t,t] o.type #[sv,xv]).run P w=.ok v' w') (hK:K (a.put o.dst v') w'):if Region.wanted o (yielded ops a.tmps)=true then Oper.wp P o a w K Q else E:=by
 have hw:Region.wanted o (yielded ops a.tmps)=true:=by simp[Region.wanted,hgd]
 rw[if_pos hw]
 unfold Oper.wp
 simp[execOp,ho,resolve,invoke,builtin,hs,hx,hrun,Result.andThen]
 exact hK
theorem lists_more {W W':World}{B0 B1 bk:Nat}{ao:Option Addr}{g off cap:Nat}{ao':Option Addr}{g' off' cap':Nat}{es:List Ent}(h:Lists W B0 B1 bk ao g off cap ao' g' off' cap' es) (hfew:es.length<100000)
 {e:Ent} {g2 off2 cap2 g3 off3 cap3 B2:Nat} (hW:B1≤W.heap.size) (hz:W.heap.size≤B2)
 (c2:Came W' 1 (some ⟨g2,off2,none⟩) g2 off2 (es.length+1) cap2 (es.map Ent.v++[e.v])) (c3:Came W' 1 (some ⟨g3,off3,none⟩) g3 off3 (es.length+1) cap3 (es.map Ent.u++[e.u])) (m2:cap2≤maxLen) (m3:cap3≤maxLen)
 (hown:∀x∈es,Own W' x.o x.c x.xs∧Own W' x.p x.d x.xs) (hne:Own W' e.o e.c e.xs∧Own W' e.p e.d e.xs)
 (hg2:some g2=blkOf ao∨W.heap.size<g2) (hg3:some g3=blkOf ao'∨W.heap.size<g3) (l2:g2<B2) (l3:g3<B2) (h23:g3≠g2)
 (heo:∀k,blkOf e.o=some k→B1≤k∧k<W.heap.size) (hep:∀k,blkOf e.p=some k→W.heap.size≤k∧k<B2∧k≠g2∧k≠g3) :
 Lists W' B0 B2 bk (some ⟨g2,off2,none⟩) g2 off2 cap2 (some ⟨g3,off3,none⟩) g3 off3 cap3 (es++[e]):=by
 have b:=h.bkB
 have w2:B0≤g2∧g2≠bk:=by
  rcases hg2 with x | x
  ·have:=h.gB g2 x.symm;exact⟨this.1,this.2.2⟩
  ·omega
 have w3:B0≤g3∧g3≠bk:=by
  rcases hg3 with x | x
  ·have:=h.gB' g3 x.symm;exact⟨this.1,this.2.2.1⟩
  ·omega
 refine⟨by rw[List.length_append,List.map_append];exact c2,by rw[List.length_append,List.map_append];exact c3,m2,m3,fun x hx=>?_,by omega,fun k hk=>?_,fun k hk=>?_,fun x hx k hk=>?_,?_,by simp;omega⟩
 ·rcases List.mem_append.1 hx with hx | hx
  ·exact hown x hx
  ·obtain rfl:x=e:=by simpa using hx
   exact hne
 ·simp only[blkOf,Option.map_some,Option.some.injEq] at hk
  subst hk
  exact⟨w2.1,l2,w2.2⟩
 ·simp only[blkOf,Option.map_some,Option.some.injEq] at hk
  subst hk
  exact⟨w3.1,l3,w3.2,fun x=>h23 (by simpa [blkOf] using x)⟩
 ·rcases List.mem_append.1 hx with hx | hx
  ·have en:=h.ent x hx k hk
   refine⟨en.1,by omega,en.2.2.1,fun x=>?_,fun x=>?_⟩
   ·obtain rfl:k=g2:=by simpa [blkOf] using x
    rcases hg2 with y | y
    ·exact en.2.2.2.1 y
    ·omega
   ·obtain rfl:k=g3:=by simpa [blkOf] using x
    rcases hg3 with y | y
    ·exact en.2.2.2.2 y
    ·omega
  ·obtain rfl:x=e:=by simpa using hx
   rcases hk with hk | hk
   ·have q:=heo k hk
    refine⟨by omega,by omega,by omega,fun x=>?_,fun x=>?_⟩
    ·obtain rfl:k=g2:=by simpa [blkOf] using x
     rcases hg2 with y | y
     ·have:=h.gB k y.symm;omega
     ·omega
    ·obtain rfl:k=g3:=by simpa [blkOf] using x
     rcases hg3 with y | y
     ·have:=h.gB' k y.symm;omega
     ·omega
   ·have q:=hep k hk
    refine⟨by omega,by omega,by omega,fun x=>?_,fun x=>?_⟩
    ·exact q.2.2.1 (by simpa [blkOf] using x)
    ·exact q.2.2.2 (by simpa [blkOf] using x)
 ·refine List.pairwise_append.2 ⟨h.apart,List.pairwise_singleton _ _,fun x hx y hy k hk hk2=>?_⟩
  obtain rfl:y=e:=by simpa using hy
  have en:=h.ent x hx k (Or.inl hk)
  have q:=heo k hk2
  omega
def bset (ao ao':Option Addr) (es:List Ent) (bk k:Nat):Prop:=k=bk∨blkOf ao=some k∨blkOf ao'=some k∨∃e∈es,blkOf e.o=some k∨blkOf e.p=some k
theorem bset_tail {g off g' off':Nat}{es:List Ent}{bk k:Nat}(h:bset (some ⟨g,off+1,none⟩) (some ⟨g',off'+1,none⟩) es.tail bk k):bset (some ⟨g,off,none⟩) (some ⟨g',off',none⟩) es bk k:=by
 rcases h with h | h | h | ⟨e,he,h⟩
 ·exact Or.inl h
 ·exact Or.inr (Or.inl h)
 ·exact Or.inr (Or.inr (Or.inl h))
 ·exact Or.inr (Or.inr (Or.inr ⟨e,List.mem_of_mem_tail he,h⟩))
set_option maxRecDepth 100000 in
set_option maxHeartbeats 4000000 in
theorem keep_any (W:World) (B0 B1 bk:Nat) (ao:Option Addr) (g off cap:Nat) (ao':Option Addr) (g' off' cap':Nat) (es:List Ent) (held:Int) (hb:Blk W bk [.slice ao es.length cap,.slice ao' es.length cap',.int .i64 held,.bool false] 39)
 (hl:Lists W B0 B1 bk ao g off cap ao' g' off' cap' es) (hfew:es.length<90000) (hB1:B1≤W.heap.size) (o:Option Addr) (c:Nat) (xs:List Cel) (ho:Own W o c xs) (hfr:∀k,blkOf o=some k→B1≤k) (hxs:xs.length≤1000000000)
 (Sx:Nat→Prop) (hS:∀k,bset ao ao' es bk k→Sx k) (hSo:∀k,blkOf o=some k→Sx k) (hSn:∀k,W.heap.size≤k→Sx k) :
 Calls Tryz.prog 18 #[.pointer (some ⟨bk,0,none⟩),.slice o xs.length c] W fun e w'=>(∃v,e=.returned v)∧Keep (fun k=>some k=blkOf ao∨some k=blkOf ao'∨k=bk) W w'∧∃ao g off cap ao' g' off' cap' es2 held,Blk w' bk [.slice ao es2.length cap,.slice ao' es2.length cap',.int .i64 held,.bool false] 39 ∧
  Lists w' B0 w'.heap.size bk ao g off cap ao' g' off' cap' es2∧es2.length≤es.length+1∧Below B0 W w'∧0<es2.length∧∀k,bset ao ao' es2 bk k→Sx k:=by
 have hbz:=hb.lt
 obtain⟨g2,off2,cap2,W2,e1,k2c,k2m,k2,k2g,k2l⟩:=append_win hl.L hl.capL (by omega) (.slice o xs.length c) rfl
 have hB2:Blk W2 bk [.slice ao es.length cap,.slice ao' es.length cap',.int .i64 held,.bool false] 39:=hb.keep k2 (fun x=>(hl.gB bk x.symm).2.2 rfl)
 have hg2bk:g2≠bk:=by
  rcases k2g with x | x
  ·exact (hl.gB g2 x.symm).2.2
  ·omega
 have hB3:=hB2.set 0 (.slice (some ⟨g2,off2,none⟩) (es.length+1) cap2)
 simp only[List.set_cons_zero] at hB3
 have k3:Keep (fun k=>some k=blkOf ao∨k=bk) W (W2.setCell ⟨bk,0,none⟩ (.slice (some ⟨g2,off2,none⟩) (es.length+1) cap2)):=(k2.mono (T:=fun k=>some k=blkOf ao∨k=bk) (fun _ _ h=>Or.inl h)).setCell (p:=⟨bk,0,none⟩) (fun _=>Or.inr rfl) _
 have ho3:Own (W2.setCell ⟨bk,0,none⟩ (.slice (some ⟨g2,off2,none⟩) (es.length+1) cap2)) o c xs:=ho.keep fun k hk hkl=>k3.block k hkl (fun x=>by
  have q:=hfr k hk
  rcases x with x | x
  ·have:=hl.gB k x.symm;omega
  ·have:=hl.bkB;omega)
 have c3:Came (W2.setCell ⟨bk,0,none⟩ (.slice (some ⟨g2,off2,none⟩) (es.length+1) cap2)) 1 (some ⟨g2,off2,none⟩) g2 off2 (es.length+1) cap2 (es.map Ent.v++[.slice o xs.length c]):=came_keep k2c (fun _=>Below.heap_setCell _ _ _ _ hg2bk) (by rw[World.size_setCell];omega) (by omega)
 have z3:(W2.setCell ⟨bk,0,none⟩ (.slice (some ⟨g2,off2,none⟩) (es.length+1) cap2)).heap.size=W2.heap.size:=World.size_setCell _ _ _
 have cM3:Came (W2.setCell ⟨bk,0,none⟩ (.slice (some ⟨g2,off2,none⟩) (es.length+1) cap2)) 1 ao' g' off' es.length cap' (es.map Ent.u):=came_keep hl.M (fun cp=>by
  have e:=hl.M.addr cp
  have q:=hl.gB' g' (by rw[e];rfl)
  exact k3.block g' (hl.M.lt cp) (fun x=>by
   rcases x with x | x
   ·exact q.2.2.2 x
   ·exact q.2.2.1 x)) k3.size (by omega)
 have q0:=hB2.cell 0
 have qf0:=hB2.frozen 0
 simp only[List.getElem?_cons_zero] at q0
 obtain⟨W3,hW3⟩:∃W3,W2.setCell ⟨bk,0,none⟩ (.slice (some ⟨g2,off2,none⟩) (es.length+1) cap2)=W3:=⟨_,rfl⟩
 rw[hW3] at hB3 k3 ho3 c3 z3 cM3
 obtain⟨p,d,W4,e2,o4,k4,p4⟩:=append_copy (W:=W3.drew) (ho3.keep (fun _ _ _=>rfl)) hxs
 have k4':Keep (fun _=>False) W3 W4:=⟨k4.os,k4.tape,k4.output,k4.size,k4.block⟩
 have z4:=k4'.size
 have z3':=k3.size
 have p4':∀k,blkOf p=some k→W3.heap.size≤k:=p4
 clear k4 p4
 obtain⟨g3,off3,cap3,W5,e3,c5,m5,k5,k5g,k5l⟩:=append_win (came_keep cM3 (fun cp=>k4'.block g' (cM3.lt cp) (fun h=>h)) z4 (by omega)) hl.capM (by omega) (.slice p xs.length d) rfl
 have z5:=k5.size
 have hB4:=hB3.keep k4' (fun h=>h)
 have hB5:=hB4.keep k5 (fun x=>(hl.gB' bk x.symm).2.2.1 rfl)
 have hg3bk:g3≠bk:=by
  rcases k5g with x | x
  ·exact (hl.gB' g3 x.symm).2.2.1
  ·omega
 have hg23:some g2≠blkOf ao':=fun x=>by
  have q:=hl.gB' g2 x.symm
  rcases k2g with y | y
  ·exact q.2.2.2 y
  ·omega
 have h23:g3≠g2:=by
  rcases k5g with x | x
  ·intro e;exact hg23 (by rw[←e];exact x)
  ·omega
 have hB6:=hB5.set 1 (.slice (some ⟨g3,off3,none⟩) (es.length+1) cap3)
 simp only[List.set_cons_zero,List.set_cons_succ] at hB6
 have z6:(W5.setCell ⟨bk,1,none⟩ (.slice (some ⟨g3,off3,none⟩) (es.length+1) cap3)).heap.size=W5.heap.size:=World.size_setCell _ _ _
 have kT:Keep (fun k=>some k=blkOf ao∨some k=blkOf ao'∨k=bk) W (W5.setCell ⟨bk,1,none⟩ (.slice (some ⟨g3,off3,none⟩) (es.length+1) cap3)):=
  (((k3.mono (fun _ _ h=>h.elim Or.inl (fun h=>Or.inr (Or.inr h)))).trans' k4' (fun _ _ _ h=>h)).trans' k5 (fun _ _ hn h=>hn (Or.inr (Or.inl h)))).setCell (p:=⟨bk,1,none⟩) (fun _=>Or.inr (Or.inr rfl)) _
 have hL6:Lists (W5.setCell ⟨bk,1,none⟩ (.slice (some ⟨g3,off3,none⟩) (es.length+1) cap3)) B0 W5.heap.size bk (some ⟨g2,off2,none⟩) g2 off2 cap2 (some ⟨g3,off3,none⟩) g3 off3 cap3 (es++[⟨o,c,p,d,xs⟩]):=by
  have hbk:=hl.bkB
  refine lists_more hl (by omega) hB1 (by omega) ?_ ?_ k2m m5 (fun x hx=>?_) ?_ k2g ?_ (by omega) k5l h23 ?_ ?_
  ·refine came_keep (came_keep (came_keep c3 (fun _=>k4'.block g2 (by omega) (fun h=>h)) z4 (by omega)) (fun _=>k5.block g2 (by omega) hg23) z5 (by omega)) (fun _=>Below.heap_setCell _ _ _ _ hg2bk) (by omega) (by omega)
  ·exact came_keep c5 (fun _=>Below.heap_setCell _ _ _ _ hg3bk) (by omega) (by omega)
  ·have en:=hl.ent x hx
   have ow:=hl.own x hx
   exact⟨ow.1.keep fun k hk hkl=>kT.block k hkl (fun y=>by
    have q:=en k (Or.inl hk)
    rcases y with y | y | y
    ·exact q.2.2.2.1 y
    ·exact q.2.2.2.2 y
    ·exact q.2.2.1 y),ow.2.keep fun k hk hkl=>kT.block k hkl (fun y=>by
    have q:=en k (Or.inr hk)
    rcases y with y | y | y
    ·exact q.2.2.2.1 y
    ·exact q.2.2.2.2 y
    ·exact q.2.2.1 y)⟩
  ·refine⟨ho.keep fun k hk hkl=>kT.block k hkl (fun y=>?_),(o4.keep (W':=W5) fun k hk hkl=>k5.block k hkl (fun y=>?_)).keep fun k hk hkl=>Below.heap_setCell _ _ _ _ ?_⟩
   ·have q:=hfr k hk
    rcases y with y | y | y
    ·have:=hl.gB k y.symm;omega
    ·have:=hl.gB' k y.symm;omega
    ·omega
   ·have q:=p4' k hk
    have:=hl.gB' k y.symm
    have:=k3.size
    omega
   ·have q:=p4' k hk
    have:=k3.size
    show k≠bk
    omega
  ·rcases k5g with x | x
   ·exact Or.inl x
   ·exact Or.inr (by have:=k3.size;omega)
  ·intro k hk
   exact⟨hfr k hk,ho.lt hk⟩
  ·intro k hk
   have q:=p4' k hk
   have q2:k<W4.heap.size:=o4.lt hk
   have:=k3.size
   refine⟨by omega,by omega,by omega,fun y=>?_⟩
   subst y
   rcases k5g with x | x
   ·have:=hl.gB' k x.symm;omega
   ·omega
 have hBel:Below B0 W (W5.setCell ⟨bk,1,none⟩ (.slice (some ⟨g3,off3,none⟩) (es.length+1) cap3)):=kT.below fun k hk=>by
  have hbk:=hl.bkB
  refine⟨by omega,fun y=>?_⟩
  rcases y with y | y | y
  ·have:=hl.gB k y.symm;omega
  ·have:=hl.gB' k y.symm;omega
  ·omega
 have r1:=hB3.cell 1
 have s1:=hB4.cell 1
 have t1:=hB5.cell 1
 have tf1:=hB5.frozen 1
 have v2:=hB6.cell 2
 have vf2:=hB6.frozen 2
 simp only[List.getElem?_cons_zero,List.getElem?_cons_succ] at r1 s1 t1 v2
 have s1a:(W4.alloc (.cells #[.slice p xs.length d] 40)).cell? ⟨bk,1,none⟩=some (.slice ao' es.length cap'):=by
  have:=(hB4.alloc (.cells #[.slice p xs.length d] 40)).cell 1
  simpa using this
 obtain⟨W6,hW6⟩:∃W6,W5.setCell ⟨bk,1,none⟩ (.slice (some ⟨g3,off3,none⟩) (es.length+1) cap3)=W6:=⟨_,rfl⟩
 rw[hW6] at hB6 z6 hL6 hBel v2 vf2 kT
 have HKT:=Lib.hid kT
 have HS0:Hid (0<(es++[(⟨o,c,p,d,xs⟩:Ent)]).length∧∀k,bset (some ⟨g2,off2,none⟩) (some ⟨g3,off3,none⟩) (es++[⟨o,c,p,d,xs⟩]) bk k→Sx k):=Lib.hid (And.intro (by simp) fun k hk=>by
  rcases hk with rfl | hk | hk | ⟨x,hx,hk⟩
  ·exact hS _ (Or.inl rfl)
  ·obtain rfl:g2=k:=by simpa [blkOf] using hk
   rcases k2g with y | y
   ·exact hS _ (Or.inr (Or.inl y.symm))
   ·exact hSn _ (by omega)
  ·obtain rfl:g3=k:=by simpa [blkOf] using hk
   rcases k5g with y | y
   ·exact hS _ (Or.inr (Or.inr (Or.inl y.symm)))
   ·exact hSn _ (by have:=k3.size;omega)
  ·rcases List.mem_append.1 hx with hx | hx
   ·exact hS _ (Or.inr (Or.inr (Or.inr ⟨x,hx,hk⟩)))
   ·rw[List.mem_singleton.1 hx] at hk
    rcases hk with hk | hk
    ·exact hSo k hk
    ·exact hSn k (by have:=p4' k hk;have:=k3.size;omega))
 have b0:=hb.cell 0
 simp only[List.getElem?_cons_zero] at b0
 have HL6:=Lib.hid hL6
 have HE1:=Lib.hid e1
 have HE2:=Lib.hid e2
 have HE3:=Lib.hid e3
 have HW3:=Lib.hid hW3
 have HW6:=Lib.hid hW6
 have HB6:=Lib.hid hB6
 have HBel:=Lib.hid hBel
 have hle:=ho.le
 clear hS hSo hSn kT hL6 hl ho hfr k2 k3 ho3 c3 cM3 k2c k2m k2g k2l o4 k4' p4' c5 m5 k5 k5g k5l hB2 hB3 hB4 hB5 hg3bk hg23 h23 hg2bk hBel hB6 e1 e2 e3 hW3 hW6
 go_enter Tryz.func18,Tryz.ntmps18
 go_wp2_with (at_builtin;refine wpList_append_eq rfl _ _ 37 rfl (sv:=.slice ao es.length cap) (xv:=.slice (some ⟨W.heap.size,0,none⟩) 1 1) rfl rfl HE1.out ?_)
 rw[HW3.out]
 go_cut [] (fun wx=>wx=W6)
 case first=>
  go_region_law (first | (refine step_append_eq rfl _ _ 40 rfl (sv:=.slice none 0 0) (xv:=.slice o xs.length c) rfl rfl HE2.out ?_) | (refine step_append_eq rfl _ _ 37 rfl (sv:=.slice ao' es.length cap') (xv:=.slice (some ⟨W4.heap.size,0,none⟩) 1 1) rfl rfl HE3.out ?_))
  all_goals
   go_wp2_with fail
   go_meet
   exact HW6.out
 case rest=>
 obtain rfl:=hcut
 have hcap:c≤9223372036854775807:=hle.2
 go_wp2_with fail
 go_loopg [] (es.length+1) (fun f wr=>∃(ao:Option Addr) (g off cap:Nat) (ao':Option Addr) (g' off' cap':Nat) (es2:List Ent) (held:Int),es2.length≤f∧es2.length≤es.length+1∧Blk wr bk [.slice ao es2.length cap,.slice ao' es2.length cap',.int .i64 held,.bool false] 39 ∧
  Hid (Lists wr B0 W5.heap.size bk ao g off cap ao' g' off' cap' es2)∧Keep (fun k=>k=bk) wc wr∧Hid (0<es2.length∧∀k,bset ao ao' es2 bk k→Sx k))
 case atStart=>
  refine⟨_,g2,off2,cap2,_,g3,off3,cap3,es++[⟨o,c,p,d,xs⟩],_,by simp,by simp,by rw[List.length_append];exact HB6.out.set 2 _,Lib.hid (HL6.out.keep ?_ ?_),(Keep.refl (fun k=>k=bk) _).setCell (p:=⟨bk,2,none⟩) (fun _=>rfl) _,HS0⟩
  ·rw[World.size_setCell];omega
  ·exact fun k _ hne _=>Below.heap_setCell _ _ _ _ hne
 case round=>
  clear HS0 HB6 HL6 HE1 HE2 HE3 HW3 HW6 v2 vf2 r1 s1 t1 tf1 s1a q0 qf0 b0 hb
  obtain⟨ao,g,off,cap,ao',g',off',cap',es2,held,hf,hn2,hb,HL,hk,HQ⟩:=hrel
  have c0:=hb.cell 0
  have c1:=hb.cell 1
  have c2:=hb.cell 2
  have c3:=hb.cell 3
  have f0:=hb.frozen 0
  have f1:=hb.frozen 1
  have f2:=hb.frozen 2
  have f3:=hb.frozen 3
  simp only[List.getElem?_cons_zero,List.getElem?_cons_succ] at c0 c1 c2 c3
  by_cases h1:1<es2.length
  ·have i1:(1:Int)<(es2.length:Int):=by omega
   have iz:(0:Int)<(es2.length:Int):=by omega
   have izn:0<es2.length:=by omega
   have hl:=HL.out
   have hfew2:=hl.few
   have hcl:=hl.L.le
   have hcm:=hl.M.le
   have hml:cap≤9223372036854775807:=hl.capL
   have hmm:cap'≤9223372036854775807:=hl.capM
   obtain⟨rfl,rfl,_,_,hgb,_,_,hgb',_⟩:=hl.addr (by omega)
   obtain⟨d1,d2⟩:=hl.at_ (i:=0) (by omega)
   obtain⟨ow1,ow2⟩:=hl.own es2[0] (List.getElem_mem (by omega))
   have en:=hl.ent es2[0] (List.getElem_mem (by omega))
   have hle:=ow1.le
   simp only[Ent.v,Ent.u,Nat.add_zero] at d1 d2
   generalize es2[0]=e at *
   have hsm:=fun (w':World) (kk:Keep (fun k=>k=bk) wr w')=>same_any w' e.o e.p e.c e.d e.xs (ow1.keep fun k hk hl=>kk.block k hl (en k (Or.inl hk)).2.2.1) (ow2.keep fun k hk hl=>kk.block k hl (en k (Or.inr hk)).2.2.1)
   have HS:=Lib.hid hsm
   have hkk:Keep (fun k=>k=bk) wr wr:=Keep.refl _ _
   have hec:e.c≤9223372036854775807:=hle.2
   clear hsm ow1 ow2 en hl hle
   by_cases hh:1000000<held
   ·have dh:(1000000:Int)<held:=hh
    clear hh
    go_wp2_with fail
    go_region_held3 (fun w'=>w'.cell? ⟨bk,0,none⟩=some (.slice (some ⟨g,off,none⟩) es2.length cap)∧w'.cell? ⟨bk,1,none⟩=some (.slice (some ⟨g',off',none⟩) es2.length cap')∧w'.cell? ⟨bk,3,none⟩=some (.bool false)∧w'.frozen? ⟨bk,3,none⟩=false∧w'.cell? ⟨g,off,none⟩=some (.slice e.o e.xs.length e.c)∧w'.cell? ⟨g',off',none⟩=some (.slice e.p e.xs.length e.d) ∧
     Blk w' bk [.slice (some ⟨g,off,none⟩) es2.length cap,.slice (some ⟨g',off',none⟩) es2.length cap',.int .i64 held,.bool false] 39∧Keep (fun k=>k=bk) wr w')
     (first
      | (go_split_ands;exact held_store (by assumption) (by assumption) (by assumption) (by assumption) hgb hgb')
      | (go_split_ands;refine⟨?_,?_,?_,?_,?_,?_,?_,?_⟩ <;> first | assumption | (exact Keep.drew (by assumption)) | (exact keep_drewN (by assumption) _) | (exact blk_drewN (by assumption) _)))
     (first | (go_at_call 16;refine Calls.mono (HS.out _ (by go_split_ands;assumption)) ?_;rintro e w' ⟨rfl,m,rfl⟩))
    rename_i hh
    obtain⟨k0,k1,_,_,kd1,kd2,hb2,hk2⟩:=hh
    have k2:=hb2.cell 2
    have kf2:=hb2.frozen 2
    simp only[List.getElem?_cons_zero,List.getElem?_cons_succ] at k2
    clear hb hkk c0 c1 c2 c3 f0 f1 f2 f3 d1 d2 HS
    generalize World.setCell _ _ _=w4 at *
    go_wp2_with fail
    go_cut [] (fun wx=>∃h',Blk wx bk [.slice (some ⟨g,off,none⟩) es2.length cap,.slice (some ⟨g',off',none⟩) es2.length cap',.int .i64 h',.bool false] 39∧Keep (fun k=>k=bk) wr wx)
    case first=>
     go_region
     all_goals
      go_wp2_with fail
      go_meet
      exact⟨_,hb2.drew.set 2 _,hk2.drew.setCell (p:=⟨bk,2,none⟩) (fun _=>rfl) _⟩
    case rest=>
    clear k0 k1 kd1 kd2 hb2 hk2 k2 kf2
    obtain⟨h',hb5,hk5⟩:=hcut
    have c0:=hb5.cell 0
    have c1:=hb5.cell 1
    have f0:=hb5.frozen 0
    have f1:=hb5.frozen 1
    simp only[List.getElem?_cons_zero,List.getElem?_cons_succ] at c0 c1
    have i2:(1:Int)≤(es2.length:Int):=by omega
    have i3:(es2.length:Int)≤(cap:Int):=by omega
    have i4:(es2.length:Int)≤(cap':Int):=by omega
    go_wp2_with fail
    go_roundg (gk - 1)
    case measure=>omega
    case rel=>
     refine⟨_,g,off+1,cap - 1,_,g',off'+1,cap' - 1,es2.tail,h',by rw[List.length_tail];omega,by rw[List.length_tail];omega,by rw[List.length_tail];exact (hb5.set 0 _).set 1 _,Lib.hid ((HL.out.keep ?_ ?_).next izn),((hk.trans' hk5 (fun _ _ h=>h)).setCell (p:=⟨bk,0,none⟩) (fun _=>rfl) _).setCell (p:=⟨bk,1,none⟩) (fun _=>rfl) _,Lib.hid (And.intro (by rw[List.length_tail];omega) fun k hq=>HQ.out.2 k (bset_tail hq))⟩
     ·rw[World.size_setCell,World.size_setCell];exact hk5.size
     ·intro k _ hne hkl
      rw[Below.heap_setCell _ _ _ _ hne,Below.heap_setCell _ _ _ _ hne]
      exact hk5.block k hkl hne
   ·by_cases hh4:4000<es2.length
    ·have dh:decide ((1000000:Int)<held)=false:=by rw[decide_eq_false_iff_not];omega
     have dh4:(4000:Int)<(es2.length:Int):=by omega
     clear hh hh4
     go_wp2_with fail
     go_region_held3 (fun w'=>w'.cell? ⟨bk,0,none⟩=some (.slice (some ⟨g,off,none⟩) es2.length cap)∧w'.cell? ⟨bk,1,none⟩=some (.slice (some ⟨g',off',none⟩) es2.length cap')∧w'.cell? ⟨bk,3,none⟩=some (.bool false)∧w'.frozen? ⟨bk,3,none⟩=false∧w'.cell? ⟨g,off,none⟩=some (.slice e.o e.xs.length e.c)∧w'.cell? ⟨g',off',none⟩=some (.slice e.p e.xs.length e.d) ∧
      Blk w' bk [.slice (some ⟨g,off,none⟩) es2.length cap,.slice (some ⟨g',off',none⟩) es2.length cap',.int .i64 held,.bool false] 39∧Keep (fun k=>k=bk) wr w')
      (first
       | (go_split_ands;exact held_store (by assumption) (by assumption) (by assumption) (by assumption) hgb hgb')
       | (go_split_ands;refine⟨?_,?_,?_,?_,?_,?_,?_,?_⟩ <;> first | assumption | (exact Keep.drew (by assumption)) | (exact keep_drewN (by assumption) _) | (exact blk_drewN (by assumption) _)))
      (first | (go_at_call 16;refine Calls.mono (HS.out _ (by go_split_ands;assumption)) ?_;rintro e w' ⟨rfl,m,rfl⟩))
     rename_i hh
     obtain⟨k0,k1,_,_,kd1,kd2,hb2,hk2⟩:=hh
     have k2:=hb2.cell 2
     have kf2:=hb2.frozen 2
     simp only[List.getElem?_cons_zero,List.getElem?_cons_succ] at k2
     clear hb hkk c0 c1 c2 c3 f0 f1 f2 f3 d1 d2 HS
     generalize World.setCell _ _ _=w4 at *
     go_wp2_with fail
     go_cut [] (fun wx=>∃h',Blk wx bk [.slice (some ⟨g,off,none⟩) es2.length cap,.slice (some ⟨g',off',none⟩) es2.length cap',.int .i64 h',.bool false] 39∧Keep (fun k=>k=bk) wr wx)
     case first=>
      go_region
      all_goals
       go_wp2_with fail
       go_meet
       exact⟨_,hb2.drew.set 2 _,hk2.drew.setCell (p:=⟨bk,2,none⟩) (fun _=>rfl) _⟩
     case rest=>
     clear k0 k1 kd1 kd2 hb2 hk2 k2 kf2
     obtain⟨h',hb5,hk5⟩:=hcut
     have c0:=hb5.cell 0
     have c1:=hb5.cell 1
     have f0:=hb5.frozen 0
     have f1:=hb5.frozen 1
     simp only[List.getElem?_cons_zero,List.getElem?_cons_succ] at c0 c1
     have i2:(1:Int)≤(es2.length:Int):=by omega
     have i3:(es2.length:Int)≤(cap:Int):=by omega
     have i4:(es2.length:Int)≤(cap':Int):=by omega
     go_wp2_with fail
     go_roundg (gk - 1)
     case measure=>omega
     case rel=>
      refine⟨_,g,off+1,cap - 1,_,g',off'+1,cap' - 1,es2.tail,h',by rw[List.length_tail];omega,by rw[List.length_tail];omega,by rw[List.length_tail];exact (hb5.set 0 _).set 1 _,Lib.hid ((HL.out.keep ?_ ?_).next izn),((hk.trans' hk5 (fun _ _ h=>h)).setCell (p:=⟨bk,0,none⟩) (fun _=>rfl) _).setCell (p:=⟨bk,1,none⟩) (fun _=>rfl) _,Lib.hid (And.intro (by rw[List.length_tail];omega) fun k hq=>HQ.out.2 k (bset_tail hq))⟩
      ·rw[World.size_setCell,World.size_setCell];exact hk5.size
      ·intro k _ hne hkl
       rw[Below.heap_setCell _ _ _ _ hne,Below.heap_setCell _ _ _ _ hne]
       exact hk5.block k hkl hne
    ·have dh:decide ((1000000:Int)<held)=false:=by rw[decide_eq_false_iff_not];omega
     have dh4:decide ((4000:Int)<(es2.length:Int))=false:=by rw[decide_eq_false_iff_not];omega
     clear hh hh4 HS
     go_wp2_with fail
     go_returns
     exact⟨⟨_,rfl⟩,HKT.out.trans' hk (fun _ _ hn h=>hn (Or.inr (Or.inr h))),_,_,_,_,_,_,_,_,es2,held,hb,HL.out.up (by have:=hk.size;omega),hn2,HBel.out.trans (hk.below fun k hkk=>⟨by have:=HL.out.bkB;have:=HBel.out.size;omega,by have:=HL.out.bkB;omega⟩),HQ.out.1,HQ.out.2⟩
  ·have i1:decide ((1:Int)<(es2.length:Int))=false:=by rw[decide_eq_false_iff_not];omega
   go_wp2_with fail
   go_returns
   exact⟨⟨_,rfl⟩,HKT.out.trans' hk (fun _ _ hn h=>hn (Or.inr (Or.inr h))),_,_,_,_,_,_,_,_,es2,held,hb,HL.out.up (by have:=hk.size;omega),hn2,HBel.out.trans (hk.below fun k hkk=>⟨by have:=HL.out.bkB;have:=HBel.out.size;omega,by have:=HL.out.bkB;omega⟩),HQ.out.1,HQ.out.2⟩
end Go.Proofs.YtioehfhdoohdmaaGreatDoor.bookInt
namespace Go.Proofs.YtioehfhdoohdmaaGreatDoor.bookInt
open Go.RowKit Go.Shelf
def mk (i j:Nat):List Value:=[.int .i64 (-1000 - (i:Int))]
def sets (vs:List Value) (i j:Nat):List Value:=(vs.set (j*1) (.int .i64 (-1000 - (i:Int))))
theorem sets_len (vs:List Value) (i j:Nat):(sets vs i j).length=vs.length:=by simp[sets]
theorem sets_other (vs:List Value) (i j x:Nat) (h:x<j*1∨j*1+1≤x):(sets vs i j)[x]?=vs[x]?:=by
 unfold sets
 repeat rw[List.getElem?_set_ne (by omega)]
theorem sets_in (vs:List Value) (i j k:Nat) (hk:k<1) (hl:j*1+1≤vs.length):(sets vs i j)[j*1+k]?=(mk i j)[k]?:=by
 unfold sets
 rcases (by omega:k=0) with rfl
 ·simp only[Nat.add_zero];  rw[List.getElem?_set_self (by first | omega | (simp only[List.length_set];omega))];rfl
def Full (W:World) (o:Option Addr) (c m i:Nat):Prop:=
 (o=none∧c=0)∨∃g vs,o=some ⟨g,0,none⟩∧Blk W g vs 3∧vs.length=c*1∧c≤maxLen∧∀j k,j<m→k<1→vs[j*1+k]?=(mk i j)[k]?
theorem Full.of {W:World}{o:Option Addr}{c:Nat}{xs:List Cel}(h:Own W o c xs) (i:Nat):Full W o c 0 i:=by
 rcases h.form with ⟨rfl,rfl,rfl⟩ | ⟨g,cur,rfl,hg,h1,h2,h3,h4⟩
 ·exact Or.inl ⟨rfl,rfl⟩
 ·exact Or.inr ⟨g,cur.toList,rfl,by unfold Blk;rw[hg],by rw[Array.length_toList,h3],h2,fun j k hj=>by omega⟩
theorem Full.keep {W W':World}{o:Option Addr}{c m i:Nat}(h:Full W o c m i) (hb:∀k,blkOf o=some k→k<W.heap.size→W'.heap[k]?=W.heap[k]?):Full W' o c m i:=by
 rcases h with h | ⟨g,vs,rfl,hg,h1,h2,h3⟩
 ·exact Or.inl h
 ·exact Or.inr ⟨g,vs,rfl,(hb g rfl hg.lt).trans hg,h1,h2,h3⟩
theorem Full.below {W W':World}{o:Option Addr}{c m i:Nat}(h:Full W o c m i) (hB:Below W.heap.size W W'):Full W' o c m i:=h.keep fun k _ hk=>hB.block k hk
def cntOf (es:List Ent) (i m a:Nat) (h:a<es.length):Nat:=if a<i then es[a].c else if a=i then m else 0
structure Wr (W0 wr:World) (B0 B1 bk:Nat) (ao:Option Addr) (g off cap:Nat) (ao':Option Addr) (cap':Nat) (es:List Ent) (held:Int) (i m:Nat):Prop where
 bkB:Blk wr bk [.slice ao es.length cap,.slice ao' es.length cap',.int .i64 held,.bool false] 39
 L:Came wr 1 ao g off es.length cap (es.map Ent.v)
 full:∀a (h:a<es.length),Full wr es[a].o es[a].c (cntOf es i m a h) a
 bel:Keep (fun k=>k=bk∨∃e∈es,blkOf e.o=some k) W0 wr
theorem Wr.below {W0 wr w':World}{B0 B1 bk:Nat}{ao:Option Addr}{g off cap:Nat}{ao':Option Addr}{cap':Nat}{es:List Ent}{held:Int}{i m:Nat}(h:Wr W0 wr B0 B1 bk ao g off cap ao' cap' es held i m) (hB:Below wr.heap.size wr w') (h0:B0≤wr.heap.size):Wr W0 w' B0 B1 bk ao g off cap ao' cap' es held i m:=
 ⟨h.bkB.keep (Keep.of_below hB (fun _=>False)) (by simp),came_keep h.L (fun c=>hB.block g (h.L.lt c)) hB.size (by omega),fun a ha=>(h.full a ha).below hB,h.bel.trans (Keep.of_below hB _)⟩
theorem Wr.next {W0 wr:World}{B0 B1 bk:Nat}{ao:Option Addr}{g off cap:Nat}{ao':Option Addr}{cap':Nat}{es:List Ent}{held:Int}{i:Nat}(hi:i<es.length) (h:Wr W0 wr B0 B1 bk ao g off cap ao' cap' es held i es[i].c):Wr W0 wr B0 B1 bk ao g off cap ao' cap' es held (i+1) 0:=
 ⟨h.bkB,h.L,fun a ha=>by
  have:=h.full a ha
  unfold cntOf at this ⊢
  by_cases c1:a<i
  ·rw[if_pos c1] at this
   rw[if_pos (by omega)]
   exact this
  ·rw[if_neg c1] at this
   by_cases c2:a=i
   ·subst c2
    rw[if_pos rfl] at this
    rw[if_pos (by omega)]
    exact this
   ·rw[if_neg c2] at this
    rw[if_neg (by omega)]
    by_cases c3:a=i+1
    ·rw[if_pos c3];exact this
    ·rw[if_neg c3];exact this,h.bel⟩
theorem Wr.start {W0 W:World}{B0 B1 bk:Nat}{ao:Option Addr}{g off cap:Nat}{ao':Option Addr}{g' off' cap':Nat}{es:List Ent}{held:Int}(hb:Blk W bk [.slice ao es.length cap,.slice ao' es.length cap',.int .i64 held,.bool false] 39) (h:Lists W B0 B1 bk ao g off cap ao' g' off' cap' es) (hB:Keep (fun k=>k=bk∨∃e∈es,blkOf e.o=some k) W0 W) :
 Wr W0 W B0 B1 bk ao g off cap ao' cap' es held 0 0:=
 ⟨hb,h.L,fun a ha=>by
  have e:cntOf es 0 0 a ha=0:=by unfold cntOf;rw[if_neg (by omega)];split <;> rfl
  rw[e]
  exact Full.of (h.own es[a] (List.getElem_mem ha)).1 a,hB⟩
theorem Wr.put {W0 wr w':World}{B0 B1 bk:Nat}{ao:Option Addr}{g off cap:Nat}{ao':Option Addr}{cap':Nat}{es:List Ent}{held:Int}{i j:Nat}(hi:i<es.length) (h:Wr W0 wr B0 B1 bk ao g off cap ao' cap' es held i j) (hj:j<es[i].c)
 (hent:∀e∈es,∀k,blkOf e.o=some k→B0≤k∧k≠bk∧some k≠blkOf ao∧k<B1) (hap:es.Pairwise fun e f=>∀k,blkOf e.o=some k→blkOf f.o≠some k)
 {gl:Nat} (ho:es[i].o=some ⟨gl,0,none⟩) {vs:List Value} (hv:Blk wr gl vs 3) (hw:Blk w' gl (sets vs i j) 3) (hk:Keep (fun k=>k=gl) wr w'):Wr W0 w' B0 B1 bk ao g off cap ao' cap' es held i (j+1):=by
 have hgl:=hent es[i] (List.getElem_mem hi) gl (by rw[ho];rfl)
 have hb:=h.bkB.keep hk (fun e=>hgl.2.1 e.symm)
 have hL:=came_keep h.L (fun c=>hk.block g (h.L.lt c) (fun e=>hgl.2.2.1 (by rw[h.L.addr c,←e];rfl))) hk.size (by omega)
 refine⟨hb,hL,fun a ha=>?_,h.bel.trans (hk.mono fun k _ e=>by subst e;exact Or.inr ⟨es[i],List.getElem_mem hi,by rw[ho];rfl⟩)⟩
 ·by_cases c:a=i
  ·subst c
   have hf:=h.full a ha
   unfold cntOf at hf ⊢
   rw[if_neg (by omega),if_pos rfl] at hf ⊢
   rcases hf with ⟨e,_⟩ | ⟨g1,vs1,e,hg1,h1,h2,h3⟩
   ·rw[ho] at e;cases e
   ·rw[ho] at e
    simp only[Option.some.injEq,Addr.mk.injEq] at e
    obtain⟨rfl,_⟩:=e
    have ev:vs1=vs:=by
     have x:=hg1.symm.trans hv
     simpa using x
    subst ev
    refine Or.inr ⟨gl,sets vs1 a j,ho,hw,by rw[sets_len];exact h1,h2,fun j2 k hj2 hk2=>?_⟩
    have hle:(j+1)*1≤es[a].c*1:=Nat.mul_le_mul_right 1 hj
    by_cases c2:j2=j
    ·subst c2
     exact sets_in vs1 a j2 k hk2 (by rw[Nat.succ_mul] at hle;omega)
    ·have hlt:(j2+1)*1≤j*1:=Nat.mul_le_mul_right 1 (by omega)
     rw[Nat.succ_mul] at hlt
     rw[sets_other vs1 a j _ (Or.inl (by omega))]
     exact h3 j2 k (by omega) hk2
  ·have e:cntOf es i (j+1) a ha=cntOf es i j a ha:=by unfold cntOf;rw[if_neg c,if_neg c]
   rw[e]
   refine (h.full a ha).keep fun k hk2 hkl=>hk.block k hkl (fun e2=>?_)
   subst e2
   rw[List.pairwise_iff_getElem] at hap
   rcases Nat.lt_or_gt_of_ne c with c | c
   ·exact hap a i ha hi c k hk2 (by rw[ho];rfl)
   ·exact hap i a hi ha c k (by rw[ho];rfl) hk2
set_option maxRecDepth 100000 in
theorem mark_any (i j:Nat) (hi:i≤1000000) (W:World):Calls Tryz.prog 26 #[.int .i64 i,.int .i64 j] W fun e w'=>e=.returned (.int .i64 (-1000 - (i:Int)))∧Below W.heap.size W w':=by
 go_enter Tryz.func26,Tryz.ntmps26
 go_wp2_with fail
 go_ret
 exact⟨rfl,Below.refl _ _⟩
end Go.Proofs.YtioehfhdoohdmaaGreatDoor.bookInt
namespace Go.Proofs.YtioehfhdoohdmaaGreatDoor.bookInt
open Go.RowKit Go.Shelf
set_option maxRecDepth 100000 in
set_option maxHeartbeats 4000000 in
theorem apart_any (W:World) (B0 B1 bk:Nat) (ao:Option Addr) (g off cap:Nat) (ao':Option Addr) (g' off' cap':Nat) (es:List Ent) (held:Int) (hb:Blk W bk [.slice ao es.length cap,.slice ao' es.length cap',.int .i64 held,.bool false] 39)
 (hl:Lists W B0 B1 bk ao g off cap ao' g' off' cap' es) :
 Calls Tryz.prog 25 #[.pointer (some ⟨bk,0,none⟩),.func (.func 26) #[] #[]] W fun e w'=>e=.returned (.bool true)∧Keep (fun k=>k=bk∨∃e∈es,blkOf e.o=some k) W w'∧Blk w' bk [.slice none 0 0,.slice none 0 0,.int .i64 0,.bool false] 39:=by
 have hst:=stays_any W B0 B1 bk ao g off cap ao' g' off' cap' es held hb hl
 have HST:=Lib.hid hst
 have HL:=Lib.hid hl
 have hfew:=hl.few
 have hbB:=hl.bkB
 have hBW:B0≤W.heap.size:=by have:=hb.lt;omega
 have hent:∀e∈es,∀k,blkOf e.o=some k→B0≤k∧k≠bk∧some k≠blkOf ao∧k<B1:=fun e he k hk=>by have q:=hl.ent e he k (Or.inl hk);exact⟨q.1,q.2.2.1,q.2.2.2.1,q.2.1⟩
 have hle:∀i (h:i<es.length),es[i].xs.length≤es[i].c∧es[i].c≤maxLen:=fun i h=>(hl.own es[i] (List.getElem_mem h)).1.le
 have HENT:=Lib.hid hent
 have HAP:=Lib.hid hl.apart
 have HLE:=Lib.hid hle
 clear hst hl hb hent hle
 go_enter Tryz.func25,Tryz.ntmps25
 go_wp2_with fail
 refine Calls.mono HST.out ?_
 rintro e w1 ⟨rfl,hb1,hk1⟩
 have hB1w:Keep (fun k=>k=bk∨∃e∈es,blkOf e.o=some k) W w1:=hk1.mono fun k _ e=>Or.inl e
 have hw:=Wr.start hb1 (HL.out.keep hk1.size fun k _ hne hkl=>hk1.block k hkl hne) hB1w
 clear hb1 hk1 hB1w
 go_wp2_with fail
 go_loopw [5] (fun v5 wr=>∃i:Nat,v5=.int .i64 i∧i≤es.length∧Wr W wr B0 B1 bk ao g off cap ao' cap' es held i 0) (fun v5 _=>es.length - (intOf v5).toNat)
 case atStart=>exact⟨0,rfl,Nat.zero_le _,hw⟩
 case round=>
  clear hw
  obtain⟨i,rfl,hi,hw⟩:=hrel
  have i0:(0:Int)≤(i:Int):=Int.natCast_nonneg _
  have c0:=hw.bkB.cell 0
  simp only[List.getElem?_cons_zero] at c0
  by_cases hlt:i<es.length
  ·have i1:(i:Int)<(es.length:Int):=by omega
   have hao:=hw.L.addr (by have:=hw.L.le;omega)
   subst hao
   have d1:wr.cell? ⟨g,off+i,none⟩=some es[i].v:=hw.L.olds i _ (by rw[List.getElem?_map,List.getElem?_eq_getElem hlt];rfl)
   simp only[Ent.v] at d1
   obtain⟨hlx,hcm⟩:=HLE.out i hlt
   have hcm':es[i].c≤9223372036854775807:=hcm
   have hnext:=fun (wx:World) (h:Wr W wx B0 B1 bk (some ⟨g,off,none⟩) g off cap ao' cap' es held i es[i].c)=>h.next hlt
   have hfull:∀(m:Nat) (wx:World),Wr W wx B0 B1 bk (some ⟨g,off,none⟩) g off cap ao' cap' es held i m→Full wx es[i].o es[i].c m i:=fun m wx h=>by
    have:=h.full i hlt
    unfold cntOf at this
    rw[if_neg (by omega),if_pos rfl] at this
    exact this
   have hput:∀(j:Nat) (wx w':World) (gl:Nat) (vs:List Value),Wr W wx B0 B1 bk (some ⟨g,off,none⟩) g off cap ao' cap' es held i j→j<es[i].c→es[i].o=some ⟨gl,0,none⟩→Blk wx gl vs 3→Blk w' gl (sets vs i j) 3→Keep (fun k=>k=gl) wx w'→Wr W w' B0 B1 bk (some ⟨g,off,none⟩) g off cap ao' cap' es held i (j+1):=
    fun j wx w' gl vs h1 h2 h3 h4 h5 h6=>h1.put hlt h2 HENT.out HAP.out h3 h4 h5 h6
   have hf0:=hfull 0 wr hw
   have HN:=Lib.hid hnext
   have HF:=Lib.hid hfull
   have HP:=Lib.hid hput
   clear hnext hfull hput hcm
   generalize es[i].xs.length=xn at *
   generalize es[i].c=ec at *
   generalize es[i].o=eo at *
   rcases hf0 with ⟨rfl,rfl⟩ | ⟨gl,vs,rfl,_,_,_,_⟩
   ·obtain rfl:xn=0:=by omega
    have hBr:B0≤wr.heap.size:=by have:=hw.bel.size;omega
    have hw2:=fun n=>hw.below (w':=wr.drewN n) ⟨rfl,rfl,rfl,Nat.le_refl _,fun _ _=>rfl⟩ hBr
    clear hw
    go_wp2_with fail
    go_quiet (fail)
    go_wp2_with fail
    go_loopw [7] (fun v7 wx=>v7=.int .i64 0∧Wr W wx B0 B1 bk (some ⟨g,off,none⟩) g off cap ao' cap' es held i 0) (fun _ _=>0)
    case atStart=>exact⟨rfl,hw2 _⟩
    case round=>
     obtain⟨rfl,hwx⟩:=hrel
     go_wp2_with fail
     exact⟨⟨i+1,by go_num,by omega,HN.out _ hwx⟩,by simp[intOf];omega⟩
   ·have hBr:B0≤wr.heap.size:=by have:=hw.bel.size;omega
    have hw2:=fun n=>hw.below (w':=wr.drewN n) ⟨rfl,rfl,rfl,Nat.le_refl _,fun _ _=>rfl⟩ hBr
    have x0:(0:Int)≤(ec:Int):=Int.natCast_nonneg _
    clear hw
    go_wp2_with fail
    go_quiet (fail)
    go_wp2_with fail
    go_loopw [7] (fun v7 wx=>∃j:Nat,v7=.int .i64 j∧j≤ec∧Wr W wx B0 B1 bk (some ⟨g,off,none⟩) g off cap ao' cap' es held i j) (fun v7 _=>ec - (intOf v7).toNat)
    case atStart=>exact⟨0,rfl,Nat.zero_le _,hw2 _⟩
    case round=>
     clear hw2 c0 d1
     obtain⟨j,rfl,hj,hwx⟩:=hrel
     have j0:(0:Int)≤(j:Int):=Int.natCast_nonneg _
     by_cases hjl:j<ec
     ·have j1:(j:Int)<(ec:Int):=by omega
      have hf:=HF.out j _ hwx
      rcases hf with ⟨e1,_⟩ | ⟨g2,vs2,e1,hv2,hvl,_,_⟩
      ·cases e1
      ·simp only[Option.some.injEq,Addr.mk.injEq] at e1
       obtain⟨rfl,_⟩:=e1
       have hle:(j+1)*1≤ec*1:=Nat.mul_le_mul_right 1 hjl
       rw[Nat.succ_mul] at hle
       have HMK:=fun W=>mark_any i j (by omega) W
       have HM:=Lib.hid HMK
       obtain⟨u0,y0⟩:∃u,vs2[j*1]?=some u:=⟨_,List.getElem?_eq_getElem (by omega)⟩
       have HVL:=Lib.hid hvl
       clear HMK hle hvl
       go_wp2_with fail
       refine Calls.mono (HM.out _) ?_
       rintro e w3 ⟨rfl,hB3⟩
       have hbl:=hv2.keep (Keep.of_below hB3 (fun _=>False)) (by simp)
       have c0:=(hbl.cell (j*1)).trans y0
       have f0:=hbl.frozen (j*1)
       simp only[Nat.mul_one] at c0 f0
       have hwd:w3.setCell ⟨gl,j,none⟩ (.int .i64 (-1000 - (i:Int)))=w3.setCell ⟨gl,j*1,none⟩ (.int .i64 (-1000 - (i:Int))):=by rw[Nat.mul_one]
       have HWd:=Lib.hid hwd
       clear hwd
       go_wp2_with fail
       rw[HWd.out]
       exact⟨⟨j+1,by go_num,by omega,HP.out j _ _ gl vs2 hwx hjl rfl hv2 (hbl.set (j*1) (.int .i64 (-1000 - (i:Int)))) ((Keep.of_below hB3 (fun k=>k=gl)).setCell (p:=⟨gl,j*1,none⟩) (fun _=>rfl) _)⟩,by simp[intOf];omega⟩
     ·obtain rfl:j=ec:=by omega
      clear hj hjl j0
      go_wp2_with fail
      exact⟨⟨i+1,by go_num,by omega,HN.out _ hwx⟩,by simp[intOf];omega⟩
  ·obtain rfl:i=es.length:=by omega
   clear hi hlt i0
   go_wp2_with fail
   go_loopw [8] (fun v8 wr2=>∃i:Nat,v8=.int .i64 i∧i≤es.length∧Wr W wr2 B0 B1 bk ao g off cap ao' cap' es held es.length 0) (fun v8 _=>es.length - (intOf v8).toNat)
   case atStart=>exact⟨0,rfl,Nat.zero_le _,hw⟩
   case round=>
    clear hw c0
    obtain⟨i,rfl,hi,hw⟩:=hrel
    have i0:(0:Int)≤(i:Int):=Int.natCast_nonneg _
    have c0:=hw.bkB.cell 0
    simp only[List.getElem?_cons_zero] at c0
    by_cases hlt:i<es.length
    ·have i1:(i:Int)<(es.length:Int):=by omega
     have hao:=hw.L.addr (by have:=hw.L.le;omega)
     subst hao
     have d1:wr.cell? ⟨g,off+i,none⟩=some es[i].v:=hw.L.olds i _ (by rw[List.getElem?_map,List.getElem?_eq_getElem hlt];rfl)
     simp only[Ent.v] at d1
     obtain⟨hlx,hcm⟩:=HLE.out i hlt
     have hcm':es[i].c≤9223372036854775807:=hcm
     have hfull:∀(wx:World),Wr W wx B0 B1 bk (some ⟨g,off,none⟩) g off cap ao' cap' es held es.length 0→Full wx es[i].o es[i].c es[i].c i:=fun wx h=>by
      have:=h.full i hlt
      unfold cntOf at this
      rw[if_pos hlt] at this
      exact this
     have hf0:=hfull wr hw
     have HF:=Lib.hid hfull
     have hBr:B0≤wr.heap.size:=by have:=hw.bel.size;omega
     have hw2:=fun n=>hw.below (w':=wr.drewN n) ⟨rfl,rfl,rfl,Nat.le_refl _,fun _ _=>rfl⟩ hBr
     clear hfull hcm hw
     generalize es[i].xs.length=xn at *
     generalize es[i].c=ec at *
     generalize es[i].o=eo at *
     rcases hf0 with ⟨rfl,rfl⟩ | ⟨gl,vs,rfl,_,_,_,_⟩
     ·obtain rfl:xn=0:=by omega
      go_wp2_with fail
      go_quiet (fail)
      go_wp2_with fail
      go_loopw [10] (fun v10 wx=>v10=.int .i64 0∧Wr W wx B0 B1 bk (some ⟨g,off,none⟩) g off cap ao' cap' es held es.length 0) (fun _ _=>0)
      case atStart=>exact⟨rfl,hw2 _⟩
      case round=>
       obtain⟨rfl,hwx⟩:=hrel
       go_wp2_with fail
       exact⟨⟨i+1,by go_num,by omega,hwx⟩,by simp[intOf];omega⟩
     ·have x0:(0:Int)≤(ec:Int):=Int.natCast_nonneg _
      go_wp2_with fail
      go_quiet (fail)
      go_wp2_with fail
      go_loopw [10] (fun v10 wx=>∃j:Nat,v10=.int .i64 j∧j≤ec∧Wr W wx B0 B1 bk (some ⟨g,off,none⟩) g off cap ao' cap' es held es.length 0) (fun v10 _=>ec - (intOf v10).toNat)
      case atStart=>exact⟨0,rfl,Nat.zero_le _,hw2 _⟩
      case round=>
       clear hw2 c0 d1
       obtain⟨j,rfl,hj,hwx⟩:=hrel
       have j0:(0:Int)≤(j:Int):=Int.natCast_nonneg _
       by_cases hjl:j<ec
       ·have j1:(j:Int)<(ec:Int):=by omega
        rcases HF.out _ hwx with ⟨e1,_⟩ | ⟨g2,vs2,e1,hbl,_,_,hmk0⟩
        ·cases e1
        ·simp only[Option.some.injEq,Addr.mk.injEq] at e1
         obtain⟨rfl,_⟩:=e1
         have hmk:=fun k hk=>hmk0 j k hjl hk
         have HMK:=fun W=>mark_any i j (by omega) W
         have HM:=Lib.hid HMK
         have r0:wr.cell? ⟨gl,j*1,none⟩=some (.int .i64 (-1000 - (i:Int))):=(hbl.cell (j*1)).trans (hmk 0 (by omega))
         simp only[Nat.mul_one] at r0
         have hB5:Below wr.heap.size wr wr:=Below.refl _ _
         have hgl:=hbl.lt
         have hBr2:B0≤wr.heap.size:=by have:=hwx.bel.size;omega
         clear HMK hmk hmk0 hbl
         go_wp2_with fail
         go_region_held3 (fun w'=>w'.cell? ⟨gl,j,none⟩=some (.int .i64 (-1000 - (i:Int)))∧Below wr.heap.size wr w')
          (first
           | (go_split_ands;refine⟨?_,?_⟩ <;> first | assumption | (exact Below.drew (by assumption)))
           | (go_split_ands;refine⟨?_,?_⟩ <;> first | (exact (hBw.cell (by have hsz:=(‹Below wr.heap.size wr _›).size;dsimp only;omega)).trans (by assumption)) | (exact (‹Below wr.heap.size wr _›).trans (hBw.mono (‹Below wr.heap.size wr _›).size))))
          (first | (go_at_call 26;refine Calls.mono (HM.out _) ?_;rintro e w' ⟨rfl,hBw⟩))
         all_goals
          rename_i hh
          obtain⟨_,hBz⟩:=hh
          have hw3:=hwx.below hBz hBr2
          clear hwx
          go_wp2_with fail
          exact⟨⟨j+1,by go_num,by omega,hw3⟩,by simp[intOf];omega⟩
       ·obtain rfl:j=ec:=by omega
        clear hj hjl j0
        go_wp2_with fail
        exact⟨⟨i+1,by go_num,by omega,hwx⟩,by simp[intOf];omega⟩
    ·obtain rfl:i=es.length:=by omega
     clear hi hlt i0
     have c1:=hw.bkB.cell 1
     have c2:=hw.bkB.cell 2
     have f0:=hw.bkB.frozen 0
     have f1:=hw.bkB.frozen 1
     have f2:=hw.bkB.frozen 2
     simp only[List.getElem?_cons_zero,List.getElem?_cons_succ] at c1 c2
     have hbel:=hw.bel
     have HBk:=Lib.hid hw.bkB
     clear hw
     go_wp2_with fail
     go_ret
     refine⟨rfl,((hbel.setCell (p:=⟨bk,0,none⟩) (fun _=>Or.inl rfl) _).setCell (p:=⟨bk,1,none⟩) (fun _=>Or.inl rfl) _).setCell (p:=⟨bk,2,none⟩) (fun _=>Or.inl rfl) _,?_⟩
     have hk3:=((HBk.out.set 0 (.slice none 0 0)).set 1 (.slice none 0 0)).set 2 (.int .i64 0)
     simpa only[List.set_cons_zero,List.set_cons_succ] using hk3
end Go.Proofs.YtioehfhdoohdmaaGreatDoor.bookInt
namespace Go.Proofs.YtioehfhdoohdmaaGreatDoor.bookInt
open Go.RowKit Go.Shelf
def BookIn (w wr:World) (B1 bk m:Nat):Prop:=∃(ao:Option Addr) (g off cap:Nat) (ao':Option Addr) (g' off' cap':Nat) (es:List Ent) (held:Int),Blk wr bk [.slice ao es.length cap,.slice ao' es.length cap',.int .i64 held,.bool false] 39 ∧
 Lists wr w.heap.size B1 bk ao g off cap ao' g' off' cap' es∧es.length≤m∧w.heap.size≤wr.heap.size∧B1≤wr.heap.size
theorem BookIn.later {w wr W:World}{B1 bk m:Nat}(h:BookIn w wr B1 bk m) (hB:Below wr.heap.size wr W):BookIn w W B1 bk m:=by
 obtain⟨ao,g,off,cap,ao',g',off',cap',es,held,hb,hl,hn,hz,hz2⟩:=h
 exact⟨ao,g,off,cap,ao',g',off',cap',es,held,hb.keep (Keep.of_below hB (fun _=>False)) (by simp),hl.keep hB.size (fun k hk _ _=>hB.block k (Nat.lt_of_lt_of_le hk hz2)),hn,Nat.le_trans hz hB.size,Nat.le_trans hz2 hB.size⟩
theorem book_empty {w wr:World}{B1 bk:Nat}(hb:Blk wr bk [.slice none 0 0,.slice none 0 0,.int .i64 0,.bool false] 39) (hk:w.heap.size≤bk∧bk<B1) (hz2:B1≤wr.heap.size) (m:Nat):BookIn w wr B1 bk m:=by
 have hc:∀W:World,Came W 1 none 0 0 0 0 []:=fun W=>⟨Nat.le_refl _,fun h=>absurd h (Nat.lt_irrefl _),fun h=>absurd h (Nat.lt_irrefl _),rfl,fun j u h=>by simp at h,fun j h=>by simp at h⟩
 exact⟨none,0,0,0,none,0,0,0,[],0,hb,⟨hc _,hc _,Nat.zero_le _,Nat.zero_le _,by simp,hk,(fun k e=>by cases e),(fun k e=>by cases e),by simp,List.Pairwise.nil,by simp⟩,Nat.zero_le _,by have:=hb.lt;omega,hz2⟩
theorem BookIn.at_ {w wr:World}{B1 bk m:Nat}(h:BookIn w wr B1 bk m):w.heap.size≤bk∧bk<B1:=by
 obtain⟨_,_,_,_,_,_,_,_,_,_,_,hl,_⟩:=h
 exact hl.bkB
theorem book_apart {w wr:World}{B1 bk m:Nat}(h:BookIn w wr B1 bk m) :
 Calls Tryz.prog 25 #[.pointer (some ⟨bk,0,none⟩),.func (.func 26) #[] #[]] wr fun e w'=>e=.returned (.bool true)∧Keep (fun k=>w.heap.size≤k∧k<B1) wr w'∧BookIn w w' B1 bk m:=by
 have hat:=h.at_
 obtain⟨ao,g,off,cap,ao',g',off',cap',es,held,hb,hl,hn,hz,hz2⟩:=h
 refine (apart_any wr w.heap.size B1 bk ao g off cap ao' g' off' cap' es held hb hl).mono ?_
 rintro e w' ⟨he,hk,hb2⟩
 exact⟨he,hk.mono (fun k _ h=>by rcases h with rfl | ⟨e,he,h⟩;exact hl.bkB;exact⟨(hl.ent e he k (Or.inl h)).1,(hl.ent e he k (Or.inl h)).2.1⟩),book_empty hb2 hat (Nat.le_trans hz2 hk.size) m⟩
theorem own_ints {W:World}{base g c:Nat}{l:List Int}(h:W.ownsRow base 3 1 (.slice (some ⟨g,0,none⟩) l.length c) l.length (iV l)):Own W (some ⟨g,0,none⟩) c (l.map Cel.mk):=by
 have e:(l.map Cel.mk).flatMap cl=iV l:=by
  rw[List.flatMap_map]
  clear h
  induction l with
  | nil=>rfl
  | cons x t ih=>rw[List.flatMap_cons,ih];rfl
 unfold Own
 rw[e,List.length_map]
 exact own_base h (Nat.zero_le _)
structure BC (w V:World) (B1 bk:Nat) where
 w':World
 k:Keep (fun k=>w.heap.size≤k∧k<B1) V w'
 b:BookIn w w' B1 bk 2
theorem BC.next {w V:World}{B1 bk:Nat}(y:BC w V B1 bk) {w2:World}(h:Below y.w'.heap.size y.w' w2):∃z:BC w V B1 bk,z.w'=w2:=⟨⟨w2,y.k.trans (Keep.of_below h _),y.b.later h⟩,rfl⟩
theorem BC.cell {w V:World}{B1 bk:Nat}{p:Addr}{v:Value}(h:V.cell? p=some v) (hp:p.block<w.heap.size∨B1≤p.block) (y:BC w V B1 bk):y.w'.cell? p=some v:=
 (y.k.cell (World.block_lt_of_cell? V _ h) (by have:=hp;omega)).trans h
theorem BC.below {w V:World}{B1 bk:Nat}(y:BC w V B1 bk) (hw:w.heap.size≤V.heap.size):Below w.heap.size V y.w':=y.k.below fun k hk=>⟨by omega,by omega⟩
theorem BC.call {w V:World}{B1 bk:Nat}{P:Program}{f:FuncId}{args:Array Value}{y:BC w V B1 bk}{v:Value}(h:Calls P f args y.w' fun e w'=>e=.returned v∧Below y.w'.heap.size y.w' w') :
 Calls P f args y.w' fun e w'=>e=.returned v∧∃z:BC w V B1 bk,w'=z.w':=h.mono fun e w' hh=>⟨hh.1,by obtain⟨z,hz⟩:=y.next hh.2;exact⟨z,hz.symm⟩⟩
theorem BC.apart {w V:World}{B1 bk:Nat}(y:BC w V B1 bk):Calls Tryz.prog 25 #[.pointer (some ⟨bk,0,none⟩),.func (.func 26) #[] #[]] y.w' fun e w'=>e=.returned (.bool true)∧∃z:BC w V B1 bk,w'=z.w':=
 (book_apart y.b).mono fun e w' hh=>⟨hh.1,⟨w',y.k.trans hh.2.1,hh.2.2⟩,rfl⟩
def BC.of {w V:World}{B1 bk:Nat}(h:BookIn w V B1 bk 2):BC w V B1 bk:=⟨V,Keep.refl _ _,h⟩
end Go.Proofs.YtioehfhdoohdmaaGreatDoor.bookInt
