/- Books of lists (guise/script.Share): what they hold in memory. Printed by gen_book.py. -/
import Derived.Test.YtioehfhdoohdmaaGreatDoorTabA
import Derived.Test.YtioehfhdoohdmaaGreatDoorCloneA
import Derived.Deep.Upon
import Derived.Deep.AppendLies
set_option linter.unusedVariables false
set_option linter.unusedSimpArgs false
namespace Go.Proofs.YtioehfhdoohdmaaGreatDoor.bookShare
open Go.RowKit Go.Shelf
structure Cel where
 a0:Int
 a1:Int
def cl (x:Cel):List Value:=[.int .i64 x.a0,.int .i64 x.a1]
theorem cl_len (x:Cel):(cl x).length=2:=rfl
theorem cl_one (x:Cel):∀u∈cl x,u.oneCell'=true:=by
 intro u hu
 simp only[cl,List.mem_cons,List.not_mem_nil,or_false] at hu
 rcases hu with rfl | rfl <;> rfl
theorem flat_len (xs:List Cel):(xs.flatMap cl).length=xs.length*2:=by
 induction xs with
 | nil=>rfl
 | cons x t ih=>rw[List.flatMap_cons,List.length_append,ih,cl_len,List.length_cons,Nat.succ_mul];omega
theorem flat_cell:∀(xs:List Cel) (i k:Nat) (hi:i<xs.length),k<2→(xs.flatMap cl)[i*2+k]?=(cl xs[i])[k]?:=by
 intro xs
 induction xs with
 | nil=>intro i k hi;simp at hi
 | cons x t ih=>
  intro i k hi hk
  rw[List.flatMap_cons]
  cases i with
  | zero=>rw[List.getElem?_append_left (by rw[cl_len];omega),Nat.zero_mul,Nat.zero_add];rfl
  | succ i=>
   rw[List.getElem?_append_right (by rw[cl_len,Nat.succ_mul];omega),cl_len,show (i+1)*2+k - 2=i*2+k by rw[Nat.succ_mul];omega]
   exact ih i k (by simpa using hi) hk
def blkOf (o:Option Addr):Option Nat:=o.map (·.block)
def Own (W:World) (o:Option Addr) (c:Nat) (xs:List Cel):Prop:=W.ownsRow 0 85 2 (.slice o xs.length c) xs.length (xs.flatMap cl)
theorem Own.form {W:World}{o:Option Addr}{c:Nat}{xs:List Cel}(h:Own W o c xs) :
 (o=none∧c=0∧xs=[])∨∃g cur,o=some ⟨g,0,none⟩∧W.heap[g]?=some (.cells cur 85 (0,0))∧xs.length≤c∧c≤maxLen∧cur.size=c*2∧cur.toList.take (xs.length*2)=xs.flatMap cl:=by
 rcases h.2 with ⟨hv,h0⟩ | ⟨g,cap,cur,hv,_,hg,h1,h2,h3,h4⟩
 ·simp only[Value.slice.injEq] at hv
  exact Or.inl ⟨hv.1,hv.2.2,List.eq_nil_of_length_eq_zero h0⟩
 ·simp only[Value.slice.injEq] at hv
  obtain⟨rfl,_,rfl⟩:=hv
  exact Or.inr ⟨g,cur,rfl,hg,h1,h2,h3,h4⟩
theorem Own.of {W:World}{g c:Nat}{xs:List Cel}{cur:Array Value}(hg:W.heap[g]?=some (.cells cur 85 (0,0))) (h1:xs.length≤c) (h2:c≤maxLen) (h3:cur.size=c*2) (h4:cur.toList.take (xs.length*2)=xs.flatMap cl):Own W (some ⟨g,0,none⟩) c xs:=
 ⟨flat_len xs,.inr ⟨g,c,cur,rfl,Nat.zero_le _,hg,h1,h2,h3,h4⟩⟩
theorem Own.nil (W:World):Own W none 0 []:=⟨rfl,.inl ⟨rfl,rfl⟩⟩
theorem Own.keep {W W':World}{o:Option Addr}{c:Nat}{xs:List Cel}(h:Own W o c xs) (hb:∀k,blkOf o=some k→k<W.heap.size→W'.heap[k]?=W.heap[k]?):Own W' o c xs:=by
 rcases h.form with ⟨rfl,rfl,rfl⟩ | ⟨g,cur,rfl,hg,h1,h2,h3,h4⟩
 ·exact Own.nil _
 ·exact Own.of ((hb g rfl (lt_of_block hg)).trans hg) h1 h2 h3 h4
theorem Own.lt {W:World}{o:Option Addr}{c:Nat}{xs:List Cel}(h:Own W o c xs) {k:Nat}(e:blkOf o=some k):k<W.heap.size:=by
 rcases h.form with ⟨rfl,rfl,rfl⟩ | ⟨g,cur,rfl,hg,_⟩
 ·cases e
 ·simp only[blkOf,Option.map_some,Option.some.injEq] at e
  subst e
  exact lt_of_block hg
theorem Own.le {W:World}{o:Option Addr}{c:Nat}{xs:List Cel}(h:Own W o c xs):xs.length≤c∧c≤maxLen:=by
 rcases h.form with ⟨rfl,rfl,rfl⟩ | ⟨g,cur,rfl,hg,h1,h2,_⟩
 ·exact⟨Nat.le_refl _,Nat.zero_le _⟩
 ·exact⟨h1,h2⟩
theorem Own.at_ {W:World}{o:Option Addr}{c:Nat}{xs:List Cel}(h:Own W o c xs) {i:Nat}(hi:i<xs.length):∃g,o=some ⟨g,0,none⟩∧g<W.heap.size∧∀k,k<2→W.cell? ⟨g,i*2+k,none⟩=(cl xs[i])[k]?:=by
 rcases h.form with ⟨rfl,rfl,rfl⟩ | ⟨g,cur,rfl,hg,h1,h2,h3,h4⟩
 ·simp at hi
 ·refine⟨g,rfl,lt_of_block hg,fun k hk=>?_⟩
  rw[←flat_cell xs i k hi hk,←h4,List.getElem?_take_of_lt (by
   have h5:(i+1)*2≤xs.length*2:=Nat.mul_le_mul_right 2 hi
   rw[Nat.succ_mul] at h5;omega)]
  simp[World.cell?,hg]
theorem Own.cells {W:World}{g:Nat}{c:Nat}{xs:List Cel}(h:Own W (some ⟨g,0,none⟩) c xs):∀j u,(xs.flatMap cl)[j]?=some u→W.cell? ((⟨g,0,none⟩:Addr).add j)=some u:=by
 rcases h.form with ⟨e,_⟩ | ⟨g',cur,e,hg,h1,h2,h3,h4⟩
 ·cases e
 ·simp only[Option.some.injEq,Addr.mk.injEq] at e
  obtain⟨rfl,_⟩:=e
  intro j u hu
  refine World.news_of_block hg j u ?_
  rw[←h4] at hu
  rw[List.getElem?_take] at hu
  split at hu
  ·exact hu
  ·cases hu
theorem came_keep {W W':World}{size:Nat}{ao:Option Addr}{b off len cap:Nat}{olds:List Value}(h:Came W size ao b off len cap olds) (hb:0<cap→W'.heap[b]?=W.heap[b]?) (hz:W.heap.size≤W'.heap.size) (hs:0<size):Came W' size ao b off len cap olds:=by
 have hle:=h.le
 have hol:=h.oldsLen
 refine⟨h.le,h.addr,fun c=>Nat.lt_of_lt_of_le (h.lt c) hz,h.oldsLen,fun j u hu=>?_,fun j hj=>?_⟩
 ·have hj:=(List.getElem?_eq_some_iff.1 hu).1
  have hc:0<cap:=by
   rcases Nat.eq_zero_or_pos cap with c | c
   ·obtain rfl:len=0:=by omega
    simp at hol
    rw[hol] at hj;simp at hj
   ·exact c
  exact (World.cell?_of_block (a:=⟨b,off+j,none⟩) (hb hc)).trans (h.olds j u hu)
 ·have hc:0<cap:=by
   rcases Nat.eq_zero_or_pos cap with c | c
   ·subst c;simp at hj
   ·exact c
  obtain⟨s1,s2⟩:=h.spare j hj
  exact⟨by rw[World.cell?_of_block (a:=⟨b,off+len*size+j,none⟩) (hb hc)];exact s1,by rw[World.frozen?_of_block (a:=⟨b,off+len*size+j,none⟩) (hb hc)];exact s2⟩
theorem info_S:∃i,Tryz.prog.info? 83=some i∧i.zero=some (.slice none 0 0)∧i.size=1∧i.bytes=24:=info_parts (by kernel_rfl)
theorem info_E:∃i,Tryz.prog.info? 85=some i∧i.zero=some (.agg #[.int .i64 0,.int .i64 0])∧i.size=2∧i.bytes=16:=info_parts (by kernel_rfl)
set_option maxHeartbeats 1000000 in
theorem append_win {W:World}{ao:Option Addr}{g off n cap:Nat}{vals:List Value}(hc:Came W 1 ao g off n cap vals) (hcap:cap≤maxLen) (hn:n≤100000) (x:Value) (hx:x.oneCell'=true) :
 ∃g2 off2 cap2 W2,(Builtin.append_ #[87,87] 87 #[.slice ao n cap,.slice (some ⟨W.heap.size,0,none⟩) 1 1]).run Tryz.prog (W.alloc (.cells #[x] 83))=.ok (.slice (some ⟨g2,off2,none⟩) (n+1) cap2) W2
  ∧ Came W2 1 (some ⟨g2,off2,none⟩) g2 off2 (n+1) cap2 (vals++[x])∧cap2≤maxLen∧Keep (fun k=>some k=blkOf ao) W W2∧(some g2=blkOf ao∨W.heap.size<g2)∧g2<W2.heap.size:=by
 obtain⟨i0,hi,hz0,hz1,hz2⟩:=info_S
 have hk1:Keep (fun k=>some k=blkOf ao) W (W.alloc (.cells #[x] 83)):=(Keep.refl _ W).alloc _
 have hb0:(W.alloc (.cells #[x] 83)).heap[W.heap.size]?=some (.cells #[x] 83 (0,0)):=heap_alloc_new W _
 have hc1:Came (W.alloc (.cells #[x] 83)) 1 ao g off n cap vals:=came_keep hc (fun c=>Below.heap_alloc _ _ _ (hc.lt c)) hk1.size (by omega)
 have hz:(W.alloc (.cells #[x] 83)).heap.size=W.heap.size+1:=by simp
 generalize W.alloc (.cells #[x] 83)=W1 at *
 have hsrc:Src Tryz.prog i0.size 87 (.slice (some ⟨W.heap.size,0,none⟩) 1 1) 1 [x] W1:=Src.ofSlice _ Tryz.underlying87 _ 1 1 [x] (by rw[hz1];rfl) (World.news_of_block hb0) (by intro u hu;obtain rfl:u=x:=(by simpa using hu);exact hx)
 have hle:=hc1.le
 have hol:=hc1.oldsLen
 by_cases hroom:n+1≤cap
 ·have hao:=hc1.addr (by omega)
  have hlt:=hc1.lt (by omega)
  subst hao
  have hr:=run_append_room_src (P:=Tryz.prog) (w:=W1) 87 87 87 83 i0 Tryz.underlying87 hi g off n cap _ 1 [x] hsrc hroom
   (fun j hj=>by rw[hz1];exact (hc1.spare j (by simp at hj;omega)).1) (fun j hj=>by rw[hz1];exact (hc1.spare j (by simp at hj;omega)).2)
  rw[hz1] at hr
  have hin:=World.cell?_setCells_in g [x] (off+n*1) W1 (fun j hj=>(hc1.spare j (by simp at hj;omega)).1)
  have hout:=World.cell?_setCells_out g [x] (off+n*1) W1
  have hfz:=World.frozen?_setCells g [x] (off+n*1) W1
  refine⟨g,off,cap,_,hr,⟨hroom,fun _=>rfl,fun _=>?_,by simp[hol],fun j u hu=>?_,fun j hj=>?_⟩,hcap,?_,Or.inl rfl,?_⟩
  ·show g<(W1.setCell ⟨g,off+n*1,none⟩ x).heap.size
   rw[World.size_setCell];exact hlt
  ·by_cases c:j<vals.length
   ·rw[List.getElem?_append_left c] at hu
    rw[hout ⟨g,off+j,none⟩ (fun _ _=>Or.inl (by show off+j<off+n*1;omega))]
    exact hc1.olds j u hu
   ·have hj2:=(List.getElem?_eq_some_iff.1 hu).1
    simp only[List.length_append,List.length_singleton] at hj2
    obtain rfl:j=n:=by omega
    rw[List.getElem?_append_right (by omega)] at hu
    have hu2:x=u:=by simpa [show j - vals.length=0 by omega] using hu
    have:=hin 0 (by simp)
    rw[show off+j*1+0=off+j by omega] at this
    rw[this,←hu2];rfl
  ·rw[show off+(n+1)*1+j=off+n*1+(j+1) by omega,hout ⟨g,off+n*1+(j+1),none⟩ (fun _ _=>Or.inr (by show off+n*1+1≤off+n*1+(j+1);omega)),hfz]
   exact hc1.spare (j+1) (by omega)
  ·exact hk1.trans' (((Keep.refl (fun k=>some k=blkOf (some ⟨g,off,none⟩)) W1).setCell (p:=⟨g,off+n*1,none⟩) (fun _=>rfl) x)) (fun i _ h=>h)
  ·show g<(W1.setCell ⟨g,off+n*1,none⟩ x).heap.size
   rw[World.size_setCell];exact hlt
 ·have hold:(Builtin.firstCells i0.size n (.slice ao n cap)).run Tryz.prog W1.drew=.ok vals.toArray W1.drew:=by
   by_cases c0:cap=0
   ·subst c0
    obtain rfl:n=0:=by omega
    have hv:vals=[]:=List.eq_nil_of_length_eq_zero (by simpa using hol)
    subst hv
    cases ao with
    | none=>exact run_firstCells_none W1.drew i0.size 0 0 0
    | some a=>exact run_firstCells_some W1.drew i0.size 0 a 0 0 [] (by simp) (fun j u hu=>by simp at hu)
   ·have hao:=hc1.addr (by omega)
    subst hao
    refine run_firstCells_some W1.drew i0.size n ⟨g,off,none⟩ n cap vals (by rw[hz1,hol]) (fun j u hu=>?_)
    rw[Addr.add_lit]
    exact hc1.olds j u hu
  have hr:=run_append_grow_src (P:=Tryz.prog) (w:=W1) 87 87 87 83 i0 _ Tryz.underlying87 hi hz0 ao n cap vals hold _ 1 [x] hsrc (by omega) (by omega) (growslice_fits (by omega) (by rw[hz2];omega))
  have hge:=grownCap_ge W1 (n+1) cap 83
  have hcm:=grownCap_le_maxLen W1 (n+1) cap 83 (by unfold maxLen;omega)
  generalize grownCap W1 (n+1) cap 83=gc at *
  have hL:(vals++[x]).length=n+1:=by rw[List.length_append,hol];simp
  have hsz:((vals++[x]).toArray++Builtin.zeroCells (Value.slice none 0 0).cells (gc - (n+1))).size=gc:=by
   rw[Array.size_append,List.size_toArray,hL,size_zeroCells]
   show n+1+(gc - (n+1))*1=gc
   omega
  have hcell:∀j,(W1.drew.alloc (.cells ((vals++[x]).toArray++Builtin.zeroCells (Value.slice none 0 0).cells (gc - (n+1))) 83)).cell? ⟨W1.heap.size,j,none⟩=_:=fun j=>World.cell?_alloc_new W1.drew _ _ j
  have hfz:∀j,(W1.drew.alloc (.cells ((vals++[x]).toArray++Builtin.zeroCells (Value.slice none 0 0).cells (gc - (n+1))) 83)).frozen? ⟨W1.heap.size,j,none⟩=_:=fun j=>World.frozen?_alloc_new W1.drew _ _ j
  have hsize:(W1.drew.alloc (.cells ((vals++[x]).toArray++Builtin.zeroCells (Value.slice none 0 0).cells (gc - (n+1))) 83)).heap.size=W1.heap.size+1:=by simp
  have hk2:Keep (fun k=>some k=blkOf ao) W1 (W1.drew.alloc (.cells ((vals++[x]).toArray++Builtin.zeroCells (Value.slice none 0 0).cells (gc - (n+1))) 83)):=(Keep.refl _ W1).drew.alloc _
  refine⟨W1.heap.size,0,gc,_,hr,⟨hge,fun _=>rfl,fun _=>by rw[hsize];omega,by rw[hL];omega,fun j u hu=>?_,fun j hj=>⟨?_,?_⟩⟩,hcm,hk1.trans' hk2 (fun i _ h=>h),Or.inr (by omega),by rw[hsize];omega⟩
  ·have hj:=(List.getElem?_eq_some_iff.1 hu).1
   rw[Nat.zero_add,hcell,Array.getElem?_append_left (by simp only[List.size_toArray];exact hj),List.getElem?_toArray]
   exact hu
  ·rw[hcell,Array.getElem?_eq_getElem (by rw[hsz];omega)]
   rfl
  ·rw[hfz]
set_option maxHeartbeats 1000000 in
theorem append_copy {W:World}{o:Option Addr}{c:Nat}{xs:List Cel}(h:Own W o c xs) (hn:xs.length≤1000000000) :
 ∃p d W2,(Builtin.append_ #[83,83] 83 #[.slice none 0 0,.slice o xs.length c]).run Tryz.prog W=.ok (.slice p xs.length d) W2∧Own W2 p d xs∧Keep (fun _=>False) W W2∧∀k,blkOf p=some k→W.heap.size≤k:=by
 obtain⟨i0,hi,hz0,hz1,hz2⟩:=info_E
 by_cases hne:xs=[]
 ·subst hne
  rcases h.form with ⟨rfl,rfl,_⟩ | ⟨g,cur,rfl,hg,h1,h2,h3,h4⟩
  ·refine⟨none,0,W,?_,Own.nil _,Keep.refl _ _,fun k e=>by cases e⟩
   exact run_append_nothing (P:=Tryz.prog) W _ _ _ _ i0 Tryz.underlying83 hi none 0 0 (Nat.le_refl _) _ (Src.ofNil _ Tryz.underlying83 0)
  ·refine⟨none,0,W,?_,Own.nil _,Keep.refl _ _,fun k e=>by cases e⟩
   exact run_append_nothing (P:=Tryz.prog) W _ _ _ _ i0 Tryz.underlying83 hi none 0 0 (Nat.le_refl _) _ (Src.ofSlice _ Tryz.underlying83 _ 0 c [] (by simp) (fun j u hu=>by simp at hu) (by simp))
 ·have hpos:0<xs.length:=List.length_pos_iff.2 hne
  rcases h.form with ⟨_,_,e⟩ | ⟨g,cur,rfl,hg,h1,h2,h3,h4⟩
  ·exact absurd e hne
  ·obtain⟨g2,cap2,W2,hr,hown,hgr,hat,hlt⟩:=run_append_lies (P:=Tryz.prog) W 83 83 0 85 i0 _ 2 16 Tryz.underlying83 hi hz0 hz1 hz2 rfl (by decide) (.slice none 0 0) 0 [] (World.ownsRow_nil W 0 _ _) ⟨g,0,none⟩ xs.length c (xs.flatMap cl) (flat_len xs) h.cells
    (fun u hu=>by obtain⟨x,_,hx⟩:=List.mem_flatMap.1 hu;exact cl_one x u hx) hpos (by unfold maxLen;omega) (by omega) (Nat.zero_le _) W.heap.size rfl
   simp only[Nat.zero_add,List.nil_append] at hr hown
   refine⟨some ⟨g2,0,none⟩,cap2,W2,hr,hown,⟨hgr.os,hgr.tape,hgr.output,hgr.size,fun k hk _=>hgr.block k hk (by simp[Value.ownBlock])⟩,fun k e=>?_⟩
   rcases hat with h5 | h5
   ·simp[Value.ownBlock] at h5
   ·simp only[blkOf,Option.map_some,Option.some.injEq] at e
    omega
end Go.Proofs.YtioehfhdoohdmaaGreatDoor.bookShare
