/- Book[script.Share] in a law's world; a list of shares of its own. -/
import Derived.Test.YtioehfhdoohdmaaGreatDoorBookShareK
import Derived.Test.YtioehfhdoohdmaaGreatDoorBookShareP
import Derived.Test.YtioehfhdoohdmaaGreatDoorTallyM
set_option linter.unusedVariables false
set_option linter.unusedSimpArgs false
namespace Go.Proofs.YtioehfhdoohdmaaGreatDoor.bookShare
open Go.RowKit Go.Shelf
def cel (p:Nat×Nat):Cel:=⟨(p.1:Nat),(p.2:Nat)⟩
theorem cel_cells (l:List (Nat×Nat)):(l.map cel).flatMap cl=l.flatMap shV:=by
 rw[List.flatMap_map];rfl
theorem share_own {W:World}{base:Nat}{v:Value}{l:List (Nat×Nat)}(hown:W.ownsRow base 85 2 v l.length (l.flatMap shV)) :
 ∃(o:Option Addr) (c:Nat),v=.slice o l.length c∧Own W o c (l.map cel)∧(∀k,blkOf o=some k→base≤k):=by
 have hx:(l.map cel).length=l.length:=List.length_map _
 rcases hown.2 with ⟨hv,h0⟩ | ⟨g,cap,cur,hv,hb,hg,h1,h2,h3,h4⟩
 ·have hw:l=[]:=List.eq_nil_of_length_eq_zero h0
  subst hw
  exact⟨none,0,hv,Own.nil _,fun k e=>by cases e⟩
 ·refine⟨some ⟨g,0,none⟩,cap,hv,Own.of hg (by rw[hx];exact h1) h2 h3 (by rw[hx,cel_cells];exact h4),fun k e=>?_⟩
  simp only[blkOf,Option.map_some,Option.some.injEq] at e
  omega
def BookIn (w wr:World) (bk m:Nat):Prop:=∃(ao:Option Addr) (g off cap:Nat) (ao':Option Addr) (g' off' cap':Nat) (es:List Ent) (held:Int),Blk wr bk [.slice ao es.length cap,.slice ao' es.length cap',.int .i64 held,.bool false] 89 ∧
 Lists wr w.heap.size wr.heap.size bk ao g off cap ao' g' off' cap' es∧es.length≤m∧Below w.heap.size w wr
theorem book_keep {w wr:World}{bk m:Nat}(h:BookIn w wr bk m) (hm:m≤1000) {W:World}(hB:Below wr.heap.size wr W) {o:Option Addr}{c:Nat}{xs:List Cel}(ho:bookShare.Own W o c xs) (hfr:∀k,blkOf o=some k→wr.heap.size≤k) (hx:xs.length≤1048576) :
 Calls Tryz.prog 40 #[.pointer (some ⟨bk,0,none⟩),.slice o xs.length c] W fun e w'=>(∃v,e=.returned v)∧BookIn w w' bk (m+1):=by
 obtain⟨ao,g,off,cap,ao',g',off',cap',es,held,hb,hl,hn,hbel⟩:=h
 refine (keep_any W w.heap.size wr.heap.size bk ao g off cap ao' g' off' cap' es held (hb.keep (Keep.of_below hB (fun _=>False)) (by simp)) (hl.keep hB.size (fun k hk _ _=>hB.block k hk)) (by omega) hB.size o c xs ho hfr (by omega)).mono ?_
 rintro e w' ⟨he,ao2,g2,off2,cap2,ao3,g3,off3,cap3,es2,held2,hb2,hl2,hn2,hbel2⟩
 exact⟨he,ao2,g2,off2,cap2,ao3,g3,off3,cap3,es2,held2,hb2,hl2,by omega,(hbel.trans (hB.mono hbel.size)).trans hbel2⟩
theorem book_new (w:World):BookIn w (w.alloc (.cells #[.slice none 0 0,.slice none 0 0,.int .i64 0,.bool false] 89)) w.heap.size 0:=by
 have hz:(w.alloc (.cells #[.slice none 0 0,.slice none 0 0,.int .i64 0,.bool false] 89)).heap.size=w.heap.size+1:=by simp
 have hc:∀W:World,Came W 1 none 0 0 0 0 []:=fun W=>⟨Nat.le_refl _,fun h=>absurd h (Nat.lt_irrefl _),fun h=>absurd h (Nat.lt_irrefl _),rfl,fun j u h=>by simp at h,fun j h=>by simp at h⟩
 refine⟨none,0,0,0,none,0,0,0,[],0,Blk.new' w _ _,⟨hc _,hc _,Nat.zero_le _,Nat.zero_le _,by simp,⟨Nat.le_refl _,by omega⟩,(fun k e=>by cases e),(fun k e=>by cases e),by simp,List.Pairwise.nil,by simp⟩,Nat.le_refl _,(Below.refl _ w).alloc (Nat.le_refl _) _⟩
theorem book_apart {w wr:World}{bk m:Nat}(h:BookIn w wr bk m) :
 Calls Tryz.prog 41 #[.pointer (some ⟨bk,0,none⟩),.func (.func 42) #[] #[]] wr fun e w'=>e=.returned (.bool true)∧Below w.heap.size w w':=by
 obtain⟨ao,g,off,cap,ao',g',off',cap',es,held,hb,hl,hn,hbel⟩:=h
 refine (apart_any wr w.heap.size wr.heap.size bk ao g off cap ao' g' off' cap' es held hb hl).mono ?_
 rintro e w' ⟨he,hb2⟩
 exact⟨he,hbel.trans hb2⟩
theorem BookIn.below {w wr:World}{bk m:Nat}(h:BookIn w wr bk m):Below w.heap.size w wr:=by
 obtain⟨_,_,_,_,_,_,_,_,_,_,_,_,_,hbel⟩:=h
 exact hbel
theorem BookIn.size {w wr:World}{bk m:Nat}(h:BookIn w wr bk m):w.heap.size≤wr.heap.size:=h.below.size
def wantL (T:Tab) (s:ByteArray) (i:Nat):List (Nat×Nat):=((List.range i).filter fun j=>0<cntN T s (places s) j).map fun j=>(j,cntN T s (places s) j)
theorem wantL_all (T:Tab) (s:ByteArray):wantL T s T.scripts.length=sharesL T s:=rfl
theorem wantL_len (T:Tab) (s:ByteArray) (i:Nat):(wantL T s i).length≤i:=by
 unfold wantL
 rw[List.length_map]
 exact Nat.le_trans (List.length_filter_le _ _) (by rw[List.length_range];exact Nat.le_refl _)
theorem wantL_next (T:Tab) (s:ByteArray) (i:Nat):wantL T s (i+1)=if 0<cntN T s (places s) i then wantL T s i++[(i,cntN T s (places s) i)] else wantL T s i:=by
 unfold wantL
 rw[List.range_succ,List.filter_append,List.map_append]
 by_cases h:0<cntN T s (places s) i
 ·rw[if_pos h];simp[h]
 ·rw[if_neg h];simp[h]
theorem Own.below {W W':World}{o:Option Addr}{c:Nat}{xs:List Cel}(h:Own W o c xs) (hB:Below W.heap.size W W'):Own W' o c xs:=h.keep fun k _ hk=>hB.block k hk
end Go.Proofs.YtioehfhdoohdmaaGreatDoor.bookShare
