/- Apart of a book of lists (guise/script.Share), walked. Printed by gen_book5.py. -/
import Derived.Test.YtioehfhdoohdmaaGreatDoorBookShareB
import Derived.Handy
set_option linter.unusedVariables false
set_option linter.unusedSimpArgs false
namespace Go.Proofs.YtioehfhdoohdmaaGreatDoor.bookShare
open Go.RowKit Go.Shelf
def mk (i j:Nat):List Value:=[.int .i64 (-1 - (i:Int)),.int .i64 (j:Int)]
theorem mk_len (i j:Nat):(mk i j).length=2:=rfl
def sets (vs:List Value) (i j:Nat):List Value:=((vs.set (j*2) (.int .i64 (-1 - (i:Int)))).set (j*2+1) (.int .i64 (j:Int)))
theorem sets_len (vs:List Value) (i j:Nat):(sets vs i j).length=vs.length:=by simp[sets]
theorem sets_other (vs:List Value) (i j x:Nat) (h:x<j*2∨j*2+2≤x):(sets vs i j)[x]?=vs[x]?:=by
 unfold sets
 repeat rw[List.getElem?_set_ne (by omega)]
theorem sets_in (vs:List Value) (i j k:Nat) (hk:k<2) (hl:j*2+2≤vs.length):(sets vs i j)[j*2+k]?=(mk i j)[k]?:=by
 unfold sets
 rcases (by omega:k=0∨k=1) with rfl | rfl
 ·simp only[Nat.add_zero];rw[List.getElem?_set_ne (by omega)];rw[List.getElem?_set_self (by first | omega | (simp only[List.length_set];omega))];rfl
 ·rw[List.getElem?_set_self (by first | omega | (simp only[List.length_set];omega))];rfl
def Full (W:World) (o:Option Addr) (c m i:Nat):Prop:=
 (o=none∧c=0)∨∃g vs,o=some ⟨g,0,none⟩∧Blk W g vs 85∧vs.length=c*2∧c≤maxLen∧∀j k,j<m→k<2→vs[j*2+k]?=(mk i j)[k]?
theorem Full.of {W:World}{o:Option Addr}{c:Nat}{xs:List Cel}(h:Own W o c xs) (i:Nat):Full W o c 0 i:=by
 rcases h.form with ⟨rfl,rfl,rfl⟩ | ⟨g,cur,rfl,hg,h1,h2,h3,h4⟩
 ·exact Or.inl ⟨rfl,rfl⟩
 ·exact Or.inr ⟨g,cur.toList,rfl,by unfold Blk;rw[hg],by rw[Array.length_toList,h3],h2,fun j k hj=>by omega⟩
theorem Full.keep {W W':World}{o:Option Addr}{c m i:Nat}(h:Full W o c m i) (hb:∀k,blkOf o=some k→k<W.heap.size→W'.heap[k]?=W.heap[k]?):Full W' o c m i:=by
 rcases h with h | ⟨g,vs,rfl,hg,h1,h2,h3⟩
 ·exact Or.inl h
 ·exact Or.inr ⟨g,vs,rfl,(hb g rfl hg.lt).trans hg,h1,h2,h3⟩
theorem Full.below {W W':World}{o:Option Addr}{c m i:Nat}(h:Full W o c m i) (hB:Below W.heap.size W W'):Full W' o c m i:=h.keep fun k _ hk=>hB.block k hk
def cntOf (es:List Ent) (i m a:Nat) (h:a<es.length):Nat:=if a<i then es[a].c else if a=i then m else 0
structure Wr (W0 wr:World) (B0 bk:Nat) (ao:Option Addr) (g off cap:Nat) (ao':Option Addr) (cap':Nat) (es:List Ent) (held:Int) (i m:Nat):Prop where
 bkB:Blk wr bk [.slice ao es.length cap,.slice ao' es.length cap',.int .i64 held,.bool false] 89
 L:Came wr 1 ao g off es.length cap (es.map Ent.v)
 full:∀a (h:a<es.length),Full wr es[a].o es[a].c (cntOf es i m a h) a
 bel:Below B0 W0 wr
theorem Wr.below {W0 wr w':World}{B0 bk:Nat}{ao:Option Addr}{g off cap:Nat}{ao':Option Addr}{cap':Nat}{es:List Ent}{held:Int}{i m:Nat}(h:Wr W0 wr B0 bk ao g off cap ao' cap' es held i m) (hB:Below wr.heap.size wr w') (h0:B0≤wr.heap.size):Wr W0 w' B0 bk ao g off cap ao' cap' es held i m:=
 ⟨h.bkB.keep (Keep.of_below hB (fun _=>False)) (by simp),came_keep h.L (fun c=>hB.block g (h.L.lt c)) hB.size (by omega),fun a ha=>(h.full a ha).below hB,h.bel.trans (hB.mono h0)⟩
theorem Wr.next {W0 wr:World}{B0 bk:Nat}{ao:Option Addr}{g off cap:Nat}{ao':Option Addr}{cap':Nat}{es:List Ent}{held:Int}{i:Nat}(hi:i<es.length) (h:Wr W0 wr B0 bk ao g off cap ao' cap' es held i es[i].c):Wr W0 wr B0 bk ao g off cap ao' cap' es held (i+1) 0:=
 ⟨h.bkB,h.L,fun a ha=>by
  have:=h.full a ha
  unfold cntOf at this ⊢
  by_cases c1:a<i
  ·rw[if_pos c1] at this
   rw[if_pos (by omega)]
   exact this
  ·rw[if_neg c1] at this
   by_cases c2:a=i
   ·subst c2
    rw[if_pos rfl] at this
    rw[if_pos (by omega)]
    exact this
   ·rw[if_neg c2] at this
    rw[if_neg (by omega)]
    by_cases c3:a=i+1
    ·rw[if_pos c3];exact this
    ·rw[if_neg c3];exact this,h.bel⟩
theorem Wr.start {W0 W:World}{B0 B1 bk:Nat}{ao:Option Addr}{g off cap:Nat}{ao':Option Addr}{g' off' cap':Nat}{es:List Ent}{held:Int}(hb:Blk W bk [.slice ao es.length cap,.slice ao' es.length cap',.int .i64 held,.bool false] 89) (h:Lists W B0 B1 bk ao g off cap ao' g' off' cap' es) (hB:Below B0 W0 W) :
 Wr W0 W B0 bk ao g off cap ao' cap' es held 0 0:=
 ⟨hb,h.L,fun a ha=>by
  have e:cntOf es 0 0 a ha=0:=by unfold cntOf;rw[if_neg (by omega)];split <;> rfl
  rw[e]
  exact Full.of (h.own es[a] (List.getElem_mem ha)).1 a,hB⟩
theorem Wr.put {W0 wr w':World}{B0 bk:Nat}{ao:Option Addr}{g off cap:Nat}{ao':Option Addr}{cap':Nat}{es:List Ent}{held:Int}{i j:Nat}(hi:i<es.length) (h:Wr W0 wr B0 bk ao g off cap ao' cap' es held i j) (hj:j<es[i].c)
 (hent:∀e∈es,∀k,blkOf e.o=some k→B0≤k∧k≠bk∧some k≠blkOf ao) (hap:es.Pairwise fun e f=>∀k,blkOf e.o=some k→blkOf f.o≠some k)
 {gl:Nat} (ho:es[i].o=some ⟨gl,0,none⟩) {vs:List Value} (hv:Blk wr gl vs 85) (hw:Blk w' gl (sets vs i j) 85) (hk:Keep (fun k=>k=gl) wr w'):Wr W0 w' B0 bk ao g off cap ao' cap' es held i (j+1):=by
 have hgl:=hent es[i] (List.getElem_mem hi) gl (by rw[ho];rfl)
 have hb:=h.bkB.keep hk (fun e=>hgl.2.1 e.symm)
 have hL:=came_keep h.L (fun c=>hk.block g (h.L.lt c) (fun e=>hgl.2.2 (by rw[h.L.addr c,←e];rfl))) hk.size (by omega)
 refine⟨hb,hL,fun a ha=>?_,h.bel.trans (hk.below fun k hk2=>?_)⟩
 ·by_cases c:a=i
  ·subst c
   have hf:=h.full a ha
   unfold cntOf at hf ⊢
   rw[if_neg (by omega),if_pos rfl] at hf ⊢
   rcases hf with ⟨e,_⟩ | ⟨g1,vs1,e,hg1,h1,h2,h3⟩
   ·rw[ho] at e;cases e
   ·rw[ho] at e
    simp only[Option.some.injEq,Addr.mk.injEq] at e
    obtain⟨rfl,_⟩:=e
    have ev:vs1=vs:=by
     have x:=hg1.symm.trans hv
     simpa using x
    subst ev
    refine Or.inr ⟨gl,sets vs1 a j,ho,hw,by rw[sets_len];exact h1,h2,fun j2 k hj2 hk2=>?_⟩
    have hle:(j+1)*2≤es[a].c*2:=Nat.mul_le_mul_right 2 hj
    by_cases c2:j2=j
    ·subst c2
     exact sets_in vs1 a j2 k hk2 (by rw[Nat.succ_mul] at hle;omega)
    ·have hlt:(j2+1)*2≤j*2:=Nat.mul_le_mul_right 2 (by omega)
     rw[Nat.succ_mul] at hlt
     rw[sets_other vs1 a j _ (Or.inl (by omega))]
     exact h3 j2 k (by omega) hk2
  ·have e:cntOf es i (j+1) a ha=cntOf es i j a ha:=by unfold cntOf;rw[if_neg c,if_neg c]
   rw[e]
   refine (h.full a ha).keep fun k hk2 hkl=>hk.block k hkl (fun e2=>?_)
   subst e2
   rw[List.pairwise_iff_getElem] at hap
   rcases Nat.lt_or_gt_of_ne c with c | c
   ·exact hap a i ha hi c k hk2 (by rw[ho];rfl)
   ·exact hap i a hi ha c k (by rw[ho];rfl) hk2
 ·have:=h.bel.size
  exact⟨by have:=hv.lt;omega,by omega⟩
set_option maxRecDepth 100000 in
theorem mark_any (i j:Nat) (hi:i≤1000000) (W:World):Calls Tryz.prog 42 #[.int .i64 i,.int .i64 j] W fun e w'=>e=.returned (.agg #[.int .i64 (-1 - (i:Int)),.int .i64 (j:Int)])∧Below W.heap.size W w':=by
 go_enter Tryz.func42,Tryz.ntmps42
 go_wp2_with fail
 exact bodyPost_ret (v:=.agg #[.int .i64 (-1 - (i:Int)),.int .i64 (j:Int)]) (by simp[results,Tryz.results42,go_sem]) rfl ⟨rfl,(Below.refl _ W).alloc (Nat.le_refl _) _⟩
end Go.Proofs.YtioehfhdoohdmaaGreatDoor.bookShare
