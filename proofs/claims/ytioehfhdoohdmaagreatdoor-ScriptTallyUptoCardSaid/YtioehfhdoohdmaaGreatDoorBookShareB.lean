/- A book of lists (guise/script.Share): what it holds; Stays walked. Printed by gen_book3.py. -/
import Derived.Test.YtioehfhdoohdmaaGreatDoorBookShareS
set_option linter.unusedVariables false
set_option linter.unusedSimpArgs false
namespace Go.Proofs.YtioehfhdoohdmaaGreatDoor.bookShare
open Go.RowKit Go.Shelf
theorem keep_drewN {S:Nat→Prop}{W W':World}(h:Keep S W W') (n:Nat):Keep S W (W'.drewN n):=⟨h.os,h.tape,h.output,h.size,h.block⟩
theorem blk_drewN {W:World}{b:Nat}{vs:List Value}{T:TypeId}(h:Blk W b vs T) (n:Nat):Blk (W.drewN n) b vs T:=h
structure Ent where
 o:Option Addr
 c:Nat
 p:Option Addr
 d:Nat
 xs:List Cel
def Ent.v (e:Ent):Value:=.slice e.o e.xs.length e.c
def Ent.u (e:Ent):Value:=.slice e.p e.xs.length e.d
structure Lists (W:World) (B0 B1 bk:Nat) (ao:Option Addr) (g off cap:Nat) (ao':Option Addr) (g' off' cap':Nat) (es:List Ent):Prop where
 L:Came W 1 ao g off es.length cap (es.map Ent.v)
 M:Came W 1 ao' g' off' es.length cap' (es.map Ent.u)
 capL:cap≤maxLen
 capM:cap'≤maxLen
 own:∀e∈es,Own W e.o e.c e.xs∧Own W e.p e.d e.xs
 bkB:B0≤bk∧bk<B1
 gB:∀k,blkOf ao=some k→B0≤k∧k<B1∧k≠bk
 gB':∀k,blkOf ao'=some k→B0≤k∧k<B1∧k≠bk∧some k≠blkOf ao
 ent:∀e∈es,∀k,(blkOf e.o=some k∨blkOf e.p=some k)→B0≤k∧k<B1∧k≠bk∧some k≠blkOf ao∧some k≠blkOf ao'
 apart:es.Pairwise fun e f=>∀k,blkOf e.o=some k→blkOf f.o≠some k
 few:es.length≤100000
def bookCells (ao:Option Addr) (cap:Nat) (ao':Option Addr) (cap':Nat) (n:Nat) (held:Int):List Value:=[.slice ao n cap,.slice ao' n cap',.int .i64 held,.bool false]
theorem Lists.addr {W:World}{B0 B1 bk:Nat}{ao:Option Addr}{g off cap:Nat}{ao':Option Addr}{g' off' cap':Nat}{es:List Ent}(h:Lists W B0 B1 bk ao g off cap ao' g' off' cap' es) (hne:0<es.length) :
 ao=some ⟨g,off,none⟩∧ao'=some ⟨g',off',none⟩∧B0≤g∧g<B1∧g≠bk∧B0≤g'∧g'<B1∧g'≠bk∧g'≠g:=by
 have e1:=h.L.addr (by have:=h.L.le;omega)
 have e2:=h.M.addr (by have:=h.M.le;omega)
 have b1:=h.gB g (by rw[e1];rfl)
 have b2:=h.gB' g' (by rw[e2];rfl)
 refine⟨e1,e2,b1.1,b1.2.1,b1.2.2,b2.1,b2.2.1,b2.2.2.1,fun e=>b2.2.2.2 ?_⟩
 rw[e1,e];rfl
theorem Lists.keep {W W':World}{B0 B1 bk:Nat}{ao:Option Addr}{g off cap:Nat}{ao':Option Addr}{g' off' cap':Nat}{es:List Ent}(h:Lists W B0 B1 bk ao g off cap ao' g' off' cap' es)
 (hz:W.heap.size≤W'.heap.size) (hb:∀k,k<B1→k≠bk→k<W.heap.size→W'.heap[k]?=W.heap[k]?):Lists W' B0 B1 bk ao g off cap ao' g' off' cap' es where
 L:=came_keep h.L (fun c=>by
  have e:=h.L.addr c
  have b:=h.gB g (by rw[e];rfl)
  exact hb g b.2.1 b.2.2 (h.L.lt c)) hz (by omega)
 M:=came_keep h.M (fun c=>by
  have e:=h.M.addr c
  have b:=h.gB' g' (by rw[e];rfl)
  exact hb g' b.2.1 b.2.2.1 (h.M.lt c)) hz (by omega)
 capL:=h.capL
 capM:=h.capM
 own:=fun e he=>⟨(h.own e he).1.keep fun k hk hl=>by have b:=h.ent e he k (Or.inl hk);exact hb k b.2.1 b.2.2.1 hl,(h.own e he).2.keep fun k hk hl=>by have b:=h.ent e he k (Or.inr hk);exact hb k b.2.1 b.2.2.1 hl⟩
 bkB:=h.bkB
 gB:=h.gB
 gB':=h.gB'
 ent:=h.ent
 apart:=h.apart
 few:=h.few
theorem Lists.up {W:World}{B0 B1 B2 bk:Nat}{ao:Option Addr}{g off cap:Nat}{ao':Option Addr}{g' off' cap':Nat}{es:List Ent}(h:Lists W B0 B1 bk ao g off cap ao' g' off' cap' es) (hB:B1≤B2):Lists W B0 B2 bk ao g off cap ao' g' off' cap' es:=
 ⟨h.L,h.M,h.capL,h.capM,h.own,⟨h.bkB.1,by have:=h.bkB;omega⟩,fun k hk=>by have:=h.gB k hk;exact⟨this.1,by omega,this.2.2⟩,fun k hk=>by have:=h.gB' k hk;exact⟨this.1,by omega,this.2.2⟩,fun e he k hk=>by have:=h.ent e he k hk;exact⟨this.1,by omega,this.2.2⟩,h.apart,h.few⟩
theorem Lists.tail {W:World}{B0 B1 bk:Nat}{ao:Option Addr}{g off cap:Nat}{ao':Option Addr}{g' off' cap':Nat}{es:List Ent}(h:Lists W B0 B1 bk ao g off cap ao' g' off' cap' es) (hne:0<es.length) (hd:∀ {W:World}{B0 B1 bk:Nat}{ao:Option Addr}{g off cap:Nat}{ao':Option Addr}{g' off' cap':Nat}{e:Ent}{es:List Ent},Lists W B0 B1 bk ao g off cap ao' g' off' cap' (e::es)→Lists W B0 B1 bk (some ⟨g,off+1,none⟩) g (off+1) (cap - 1) (some ⟨g',off'+1,none⟩) g' (off'+1) (cap' - 1) es) :
 Lists W B0 B1 bk (some ⟨g,off+1,none⟩) g (off+1) (cap - 1) (some ⟨g',off'+1,none⟩) g' (off'+1) (cap' - 1) es.tail:=by
 cases es with
 | nil=>simp at hne
 | cons e t=>exact hd h
theorem Lists.at_ {W:World}{B0 B1 bk:Nat}{ao:Option Addr}{g off cap:Nat}{ao':Option Addr}{g' off' cap':Nat}{es:List Ent}(h:Lists W B0 B1 bk ao g off cap ao' g' off' cap' es) {i:Nat}(hi:i<es.length) :
 W.cell? ⟨g,off+i,none⟩=some es[i].v∧W.cell? ⟨g',off'+i,none⟩=some es[i].u:=
 ⟨h.L.olds i _ (by rw[List.getElem?_map,List.getElem?_eq_getElem hi];rfl),h.M.olds i _ (by rw[List.getElem?_map,List.getElem?_eq_getElem hi];rfl)⟩
theorem Lists.drop {W:World}{B0 B1 bk:Nat}{ao:Option Addr}{g off cap:Nat}{ao':Option Addr}{g' off' cap':Nat}{e:Ent}{es:List Ent}(h:Lists W B0 B1 bk ao g off cap ao' g' off' cap' (e::es)) :
 Lists W B0 B1 bk (some ⟨g,off+1,none⟩) g (off+1) (cap - 1) (some ⟨g',off'+1,none⟩) g' (off'+1) (cap' - 1) es:=by
 obtain⟨e1,e2,a1,a2,a3,a4,a5,a6,a7⟩:=h.addr (by simp)
 have l1:=h.L.le
 have l2:=h.M.le
 simp only[List.length_cons] at l1 l2
 have came:∀(f:Ent→Value) ao g off cap,ao=some ⟨g,off,none⟩→es.length+1≤cap→Came W 1 ao g off (e::es).length cap ((e::es).map f)→Came W 1 (some ⟨g,off+1,none⟩) g (off+1) es.length (cap - 1) (es.map f):=fun f ao g off cap ea hl hc=>by
  refine⟨by omega,fun _=>rfl,fun c=>hc.lt (by omega),by simp,fun j u hu=>?_,fun j hj=>?_⟩
  ·have:=hc.olds (j+1) u (by rw[List.map_cons,List.getElem?_cons_succ];exact hu)
   rw[show off+1+j=off+(j+1) by omega]
   exact this
  ·have:=hc.spare j (by simp only[List.length_cons];omega)
   simp only[List.length_cons] at this
   rw[show off+1+es.length*1+j=off+(es.length+1)*1+j by omega]
   exact this
 have m1:=h.capL
 have m2:=h.capM
 have fw:=h.few
 simp only[List.length_cons] at fw
 refine⟨came _ _ _ _ _ e1 l1 h.L,came _ _ _ _ _ e2 l2 h.M,by omega,by omega,fun x hx=>h.own x (List.mem_cons_of_mem _ hx),h.bkB,fun k hk=>?_,fun k hk=>?_,fun x hx k hk=>?_,(List.pairwise_cons.1 h.apart).2,by omega⟩
 ·simp only[blkOf,Option.map_some,Option.some.injEq] at hk
  subst hk
  exact⟨a1,a2,a3⟩
 ·simp only[blkOf,Option.map_some,Option.some.injEq] at hk
  subst hk
  exact⟨a4,a5,a6,fun e=>a7 (by simpa [blkOf] using e)⟩
 ·have:=h.ent x (List.mem_cons_of_mem _ hx) k hk
  rw[e1,e2] at this
  exact this
theorem Lists.next {W:World}{B0 B1 bk:Nat}{ao:Option Addr}{g off cap:Nat}{ao':Option Addr}{g' off' cap':Nat}{es:List Ent}(h:Lists W B0 B1 bk ao g off cap ao' g' off' cap' es) (hne:0<es.length):Lists W B0 B1 bk (some ⟨g,off+1,none⟩) g (off+1) (cap - 1) (some ⟨g',off'+1,none⟩) g' (off'+1) (cap' - 1) es.tail:=h.tail hne Lists.drop
theorem held_store {wr w':World}{bk g g' i j n:Nat}{a0:Option Addr}{cap:Nat}{a1:Option Addr}{cap':Nat}{held:Int}{v u:Value}(hb:Blk w' bk [.slice a0 n cap,.slice a1 n cap',.int .i64 held,.bool false] 89) (hk:Keep (fun k=>k=bk) wr w')
 (c1:w'.cell? ⟨g,i,none⟩=some v) (c2:w'.cell? ⟨g',j,none⟩=some u) (hg:g≠bk) (hg':g'≠bk) :
 (w'.setCell ⟨bk,3,none⟩ (.bool false)).cell? ⟨bk,0,none⟩=some (.slice a0 n cap)∧(w'.setCell ⟨bk,3,none⟩ (.bool false)).cell? ⟨bk,1,none⟩=some (.slice a1 n cap') ∧
 (w'.setCell ⟨bk,3,none⟩ (.bool false)).cell? ⟨bk,3,none⟩=some (.bool false)∧(w'.setCell ⟨bk,3,none⟩ (.bool false)).frozen? ⟨bk,3,none⟩=false ∧
 (w'.setCell ⟨bk,3,none⟩ (.bool false)).cell? ⟨g,i,none⟩=some v∧(w'.setCell ⟨bk,3,none⟩ (.bool false)).cell? ⟨g',j,none⟩=some u ∧
 Blk (w'.setCell ⟨bk,3,none⟩ (.bool false)) bk [.slice a0 n cap,.slice a1 n cap',.int .i64 held,.bool false] 89∧Keep (fun k=>k=bk) wr (w'.setCell ⟨bk,3,none⟩ (.bool false)):=by
 have b:=hb.set 3 (.bool false)
 refine⟨b.cell 0,b.cell 1,b.cell 3,b.frozen 3,?_,?_,b,hk.setCell (fun _=>rfl) _⟩
 ·rw[World.cell?_of_block (w:=w') (Below.heap_setCell w' _ _ g hg)];exact c1
 ·rw[World.cell?_of_block (w:=w') (Below.heap_setCell w' _ _ g' hg')];exact c2
set_option maxRecDepth 100000 in
set_option maxHeartbeats 4000000 in
theorem stays_any (W:World) (B0 B1 bk:Nat) (ao:Option Addr) (g off cap:Nat) (ao':Option Addr) (g' off' cap':Nat) (es:List Ent) (held:Int) (hb:Blk W bk [.slice ao es.length cap,.slice ao' es.length cap',.int .i64 held,.bool false] 89)
 (hl:Lists W B0 B1 bk ao g off cap ao' g' off' cap' es) :
 Calls Tryz.prog 65 #[.pointer (some ⟨bk,0,none⟩)] W fun e w'=>e=.returned (.bool true)∧Blk w' bk [.slice ao es.length cap,.slice ao' es.length cap',.int .i64 held,.bool false] 89∧Keep (fun k=>k=bk) W w':=by
 have HL:=Lib.hid hl
 have hfew:=hl.few
 clear hl
 go_enter Tryz.func65,Tryz.ntmps65
 go_wp2_with fail
 go_loopw [3] (fun v3 wr=>∃i:Nat,v3=.int .i64 i∧i≤es.length∧Blk wr bk [.slice ao es.length cap,.slice ao' es.length cap',.int .i64 held,.bool false] 89∧Keep (fun k=>k=bk) W wr) (fun v3 _=>es.length - (intOf v3).toNat)
 case atStart=>exact⟨0,rfl,Nat.zero_le _,hb,Keep.refl _ _⟩
 case round=>
  clear hb
  obtain⟨i,rfl,hi,hb,hk⟩:=hrel
  have i0:(0:Int)≤(i:Int):=Int.natCast_nonneg _
  have c0:=hb.cell 0
  have c1:=hb.cell 1
  have c3:=hb.cell 3
  have f3:=hb.frozen 3
  simp only[List.getElem?_cons_zero,List.getElem?_cons_succ] at c0 c1 c3
  by_cases hlt:i<es.length
  ·have i1:(i:Int)<(es.length:Int):=by omega
   have hl:=HL.out.keep (W':=wr) hk.size (fun k _ hne hkl=>hk.block k hkl hne)
   obtain⟨rfl,rfl,_,_,hgb,_,_,hgb',_⟩:=hl.addr (by omega)
   obtain⟨d1,d2⟩:=hl.at_ hlt
   obtain⟨ow1,ow2⟩:=hl.own es[i] (List.getElem_mem hlt)
   have en:=hl.ent es[i] (List.getElem_mem hlt)
   simp only[Ent.v,Ent.u] at d1 d2
   generalize es[i]=e at *
   have hsm:=fun (w':World) (kk:Keep (fun k=>k=bk) wr w')=>same_any w' e.o e.p e.c e.d e.xs (ow1.keep fun k hk hl=>kk.block k hl (en k (Or.inl hk)).2.2.1) (ow2.keep fun k hk hl=>kk.block k hl (en k (Or.inr hk)).2.2.1)
   have HS:=Lib.hid hsm
   clear hsm ow1 ow2 en hl
   have hkk:Keep (fun k=>k=bk) wr wr:=Keep.refl _ _
   go_wp2_with fail
   go_region_held3 (fun w'=>w'.cell? ⟨bk,0,none⟩=some (.slice (some ⟨g,off,none⟩) es.length cap)∧w'.cell? ⟨bk,1,none⟩=some (.slice (some ⟨g',off',none⟩) es.length cap')∧w'.cell? ⟨bk,3,none⟩=some (.bool false)∧w'.frozen? ⟨bk,3,none⟩=false∧w'.cell? ⟨g,off+i,none⟩=some (.slice e.o e.xs.length e.c)∧w'.cell? ⟨g',off'+i,none⟩=some (.slice e.p e.xs.length e.d) ∧
    Blk w' bk [.slice (some ⟨g,off,none⟩) es.length cap,.slice (some ⟨g',off',none⟩) es.length cap',.int .i64 held,.bool false] 89∧Keep (fun k=>k=bk) wr w')
    (first
     | (go_split_ands;exact held_store (by assumption) (by assumption) (by assumption) (by assumption) hgb hgb')
     | (go_split_ands;refine⟨?_,?_,?_,?_,?_,?_,?_,?_⟩ <;> first | assumption | (exact Keep.drew (by assumption)) | (exact keep_drewN (by assumption) _) | (exact blk_drewN (by assumption) _)))
    (first | (go_at_call 39;refine Calls.mono (HS.out _ (by go_split_ands;assumption)) ?_;rintro e w' ⟨rfl,m,rfl⟩))
   all_goals
    rename_i hh
    obtain⟨_,_,_,_,_,_,hb2,hk2⟩:=hh
    have hk3:=hk.trans' hk2 (fun _ _ h=>h)
    clear hk2 hb hk
    go_wp2_with fail
    exact⟨⟨i+1,by go_num,by omega,hb2,hk3⟩,by simp[intOf];omega⟩
  ·obtain rfl:i=es.length:=by omega
   clear hi hlt i0
   go_wp2_with fail
   go_ret
   exact⟨rfl,hb,hk⟩
end Go.Proofs.YtioehfhdoohdmaaGreatDoor.bookShare
