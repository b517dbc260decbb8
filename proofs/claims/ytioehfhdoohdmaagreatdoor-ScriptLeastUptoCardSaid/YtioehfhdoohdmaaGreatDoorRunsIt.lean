/- script.Runs: the iterator, walked. -/
import Derived.Test.YtioehfhdoohdmaaGreatDoorRunsS
import Derived.Test.YtioehfhdoohdmaaGreatDoorRunsA
import Derived.Test.YtioehfhdoohdmaaGreatDoorScrA
set_option linter.unusedVariables false
set_option linter.unusedSimpArgs false
namespace Go.Proofs.YtioehfhdoohdmaaGreatDoor
open Go.RowKit Go.Shelf
attribute [local go_sem] Oper.semAt_some
def posAt (s:ByteArray) (i:Nat):Nat:=(((places s)[i]?).map (fun x:Pl s=>x.1)).getD s.size
structure RunM where
 it:RunI
 v:Value
def encR (s:ByteArray) (x:RunM):Array Value:=#[.agg #[.int .i64 (posAt s x.it.1:Nat),.int .i64 (x.it.1:Nat),.int .i64 (posAt s x.it.2.1:Nat),.int .i64 (x.it.2.1:Nat),x.v]]
def memR (RL:List RunI) (It:Nat→Prop) (pre:List RunM) (x:RunM) (X W:World):Prop:=W.ownsRow X.heap.size 3 1 x.v x.it.2.2.length (iV x.it.2.2)∧(pre++[x]).map (fun y:RunM=>y.it) <+: RL∧(∀g n c,x.v=.slice (some ⟨g,0,none⟩) n c→¬ It g)∧∀k,It k→k<W.heap.size
theorem posAt_split {s:ByteArray}{pre:List (Pl s)}{x:Pl s}{r:List (Pl s)}(h:places s=pre++x::r):posAt s pre.length=x.1:=by
 unfold posAt
 rw[h,List.getElem?_append_right (Nat.le_refl _),Nat.sub_self]
 rfl
theorem posAt_end (s:ByteArray):posAt s (places s).length=s.size:=by
 unfold posAt
 rw[List.getElem?_eq_none (Nat.le_refl _)]
 rfl
theorem places_tail {s:ByteArray}:∀(pre:List (Pl s)) {i:Nat}{x:Pl s}{r:List (Pl s)},placesFrom s i=pre++x::r→r=placesFrom s (x.1+(Utf8.decode s x.1).2):=by
 intro pre
 induction pre with
 | nil=>
  intro i x r h
  by_cases hi:i<s.size
  ·rw[places_step hi,List.nil_append] at h
   obtain⟨rfl,h2⟩:=List.cons.inj h
   exact h2.symm
  ·rw[places_end (by omega)] at h;cases h
 | cons y t ih=>
  intro i x r h
  by_cases hi:i<s.size
  ·rw[places_step hi,List.cons_append] at h
   exact ih (List.cons.inj h).2
  ·rw[places_end (by omega)] at h;cases h
theorem posAt_next {s:ByteArray}{pre:List (Pl s)}{x:Pl s}{r:List (Pl s)}(h:places s=pre++x::r):posAt s (pre.length+1)=x.1+(Utf8.decode s x.1).2:=by
 have ht:=places_tail pre h
 cases r with
 | nil=>
  have hl:(places s).length=pre.length+1:=by rw[h];simp
  rw[←hl,posAt_end]
  have hf:=dec_fits x.2
  by_cases hlt:x.1+(Utf8.decode s x.1).2<s.size
  ·rw[places_step hlt] at ht;cases ht
  ·omega
 | cons y t=>
  have h2:places s=(pre++[x])++y::t:=by rw[h];simp
  have:=posAt_split h2
  rw[List.length_append,List.length_singleton] at this
  rw[this]
  by_cases hlt:x.1+(Utf8.decode s x.1).2<s.size
  ·rw[places_step hlt] at ht
   exact congrArg Subtype.val (List.cons.inj ht).1
  ·rw[places_end (by omega)] at ht;cases ht
theorem posAt_lt {s:ByteArray}{i:Nat}:posAt s i<s.size↔i<(places s).length:=by
 unfold posAt
 constructor
 ·intro h
  by_cases hi:i<(places s).length
  ·exact hi
  ·rw[List.getElem?_eq_none (by omega)] at h;simp at h
 ·intro h
  rw[List.getElem?_eq_getElem h]
  exact ((places s)[i]).2
theorem posAt_le (s:ByteArray) (i:Nat):posAt s i≤s.size:=by
 by_cases h:i<(places s).length
 ·exact Nat.le_of_lt (posAt_lt.2 h)
 ·unfold posAt;rw[List.getElem?_eq_none (by omega)];exact Nat.le_refl _
structure RuSt (T:Tab) (s:ByteArray) (B b3 b4 b5 nb l Z:Nat) (J:(Nat→Prop)→List RunM→World→Prop) (pre:List (Pl s)) (w X:World):Prop where
 low:Below w.heap.size w X
 k3:Blk X b3 [.func (.yield l) #[] #[]] 117
 k5:Blk X b5 [.int .i64 (pre.length:Nat)] 3
 kn:Blk X nb [.string s] 9
 rest:∃(It:Nat→Prop) (xs:List RunM) (X0:World) (g c f:Nat) (sc:List Int) (t1 t2:Int),(∀k,It k→B≤k∧k<X.heap.size)∧(¬ It g∧X0.heap.size≤Z)∧J It xs X0∧Stir B It X0 X∧(It b3∧It b4∧It b5∧It nb)∧f≤pre.length∧sc.length≤T.scripts.length ∧
  Blk X b4 [.int .i64 (posAt s f:Nat),.int .i64 (f:Nat),.int .i64 t1,.int .i64 t2,.slice (some ⟨g,0,none⟩) sc.length c] 64∧X.ownsRow X0.heap.size 3 1 (.slice (some ⟨g,0,none⟩) sc.length c) sc.length (iV sc) ∧
  ∀r,places s=pre++r→xs.map (·.it)++goS T s r pre.length f sc=runsL T s
theorem posAt_zero (s:ByteArray):posAt s 0=0:=by
 by_cases h:0<s.size
 ·unfold posAt places;rw[places_step h];rfl
 ·unfold posAt places;rw[places_end (by omega)];show s.size=0;omega
theorem Stir.below {B:Nat}{It:Nat→Prop}{X0 X Y:World}(h:Stir B It X0 X) (hB:Below X.heap.size X Y):Stir B It X0 Y:=h.trans (Stir.of_below hB)
theorem RuSt.below {T:Tab}{s:ByteArray}{B b3 b4 b5 nb l Z:Nat}{J:(Nat→Prop)→List RunM→World→Prop}{w X Y:World}{pre:List (Pl s)}(h:RuSt T s B b3 b4 b5 nb l Z J pre w X) (hB:Below X.heap.size X Y):RuSt T s B b3 b4 b5 nb l Z J pre w Y:=by
 obtain⟨It,xs,X0,g,c,f,sc,t1,t2,h1,h0,h2,h3,h4,h5,h6,h7,h8,h9⟩:=h.rest
 exact⟨h.low.trans (hB.mono h.low.size),h.k3.keep (Keep.of_below hB (fun _=>False)) (by simp),h.k5.keep (Keep.of_below hB (fun _=>False)) (by simp),h.kn.keep (Keep.of_below hB (fun _=>False)) (by simp),It,xs,X0,g,c,f,sc,t1,t2,(fun k hk=>⟨(h1 k hk).1,Nat.lt_of_lt_of_le (h1 k hk).2 hB.size⟩),h0,h2,h3.below hB,h4,h5,h6,h7.keep (Keep.of_below hB (fun _=>False)) (by simp),own_later h8 hB,h9⟩
theorem RuSt.mono {T:Tab}{s:ByteArray}{B b3 b4 b5 nb l Z Z':Nat}{J:(Nat→Prop)→List RunM→World→Prop}{w X:World}{pre:List (Pl s)}(h:RuSt T s B b3 b4 b5 nb l Z J pre w X) (hZ:Z≤Z'):RuSt T s B b3 b4 b5 nb l Z' J pre w X:=by
 obtain⟨It,xs,X0,g,c,f,sc,t1,t2,h1,h0,h2,h3,h4,h5,h6,h7,h8,h9⟩:=h.rest
 exact⟨h.low,h.k3,h.k5,h.kn,It,xs,X0,g,c,f,sc,t1,t2,h1,⟨h0.1,Nat.le_trans h0.2 hZ⟩,h2,h3,h4,h5,h6,h7,h8,h9⟩
theorem own_stir {B:Nat}{It:Nat→Prop}{X Y:World}(hS:Stir B It X Y) (hA:∀k,¬ It k) {base n size:Nat}{e:TypeId}{v:Value}{xs:List Value}(h:X.ownsRow base e size v n xs):Y.ownsRow base e size v n xs:=by
 obtain⟨hl,h⟩:=h
 rcases h with h | ⟨g,cap,cur,hv,h0,hb,h1⟩
 ·exact⟨hl,Or.inl h⟩
 ·exact⟨hl,Or.inr ⟨g,cap,cur,hv,h0,hS.blk hb (hA _),h1⟩⟩
theorem RuSt.stir {T:Tab}{s:ByteArray}{B b3 b4 b5 nb l Z:Nat}{J:(Nat→Prop)→List RunM→World→Prop}{w X Y:World}{pre:List (Pl s)}{BB:Nat}{It':Nat→Prop}(hA:∀k,¬ It' k) (hz:w.heap.size≤BB) (hB:B≤BB) (h:RuSt T s B b3 b4 b5 nb l Z J pre w X) (hS:Stir BB It' X Y):RuSt T s B b3 b4 b5 nb l Z J pre w Y:=by
 obtain⟨It,xs,X0,g,c,f,sc,t1,t2,h1,h0,h2,h3,h4,h5,h6,h7,h8,h9⟩:=h.rest
 have hlz:=h.low.size
 exact⟨h.low.trans ⟨hS.os,hS.tape,hS.output,hS.size,fun k hk=>hS.block k (by omega) (hA k) (Or.inl (by omega))⟩,hS.blk h.k3 (hA _),hS.blk h.k5 (hA _),hS.blk h.kn (hA _),It,xs,X0,g,c,f,sc,t1,t2,(fun k hk=>⟨(h1 k hk).1,Nat.lt_of_lt_of_le (h1 k hk).2 hS.size⟩),h0,h2,h3.trans (hS.mono hB (fun k hk=>absurd hk (hA k))),h4,h5,h6,hS.blk h7 (hA _),own_stir hS hA h8,h9⟩
def KpN (nb:Nat) (s:ByteArray) (X Y:World):Prop:=X.cell? ⟨nb,0,none⟩=some (.string s)→Y.cell? ⟨nb,0,none⟩=some (.string s)
theorem spots_M (n:Nat) (hn:1≤n) (nb:Nat) (s:ByteArray) (hs:s.size≤140737488351232) (w:World) (hb:w.cell? ⟨nb,0,none⟩=some (.string s)) :
 SeqM (fun It=>∀k,¬ It k) Fence.wide n 1 Tryz.prog 84 #[.pointer (some ⟨nb,0,none⟩)] (encS s) (fun _ pre x _ _=>∃r,places s=pre++x::r) (KpN nb s) (fun ys=>ys=places s) (fun pre=>pre <+: places s) s.size w:=by
 intro l J Jx W hW hJ hJx hY h0
 refine (spots1_in n hn l nb s hs (fun pre X=>J (fun _=>False) pre X) (fun pre X=>Jx (fun _=>False) pre X) W ?_ ?_ (cell_bel hW hb) h0).mono ?_
 ·intro ys X Y row hs hg hr
  exact hJ.1 _ _ _ _ (fun _ h=>h) hs (Stir.grow hg fun r e=>⟨(hr r e).1,by obtain⟨_,o,ho,hw⟩:=hr r e;exact⟨o,ho,Obj.not_cells_of_walk hw⟩⟩)
 ·intro pre x W1 hj hnx hlen
  obtain⟨fn,tmps,assign,body,hy,hR⟩:=hY (fun _=>False) pre x W1 W1 (fun _ h=>h) (fun _ h=>h.elim) hj (Stir.of_below (Below.refl _ _)) hnx hlen
  refine⟨fn,tmps,assign,body,hy,hR.mono ?_⟩
  rintro e W' (⟨rfl,h1,h2⟩ | h)
  ·exact Or.inl ⟨rfl,h1,h2.kp,h2.walks⟩
  ·exact Or.inr ⟨h.1,h.2.1⟩
 ·rintro e W' ⟨hv,⟨ys,hy,hj⟩ | ⟨pre,hp,hj⟩⟩
  ·exact⟨hv,Or.inl ⟨_,ys,(fun _ h=>h),(fun _ h=>h.elim),hy,hj⟩⟩
  ·exact⟨hv,Or.inr ⟨_,pre,(fun _ h=>h),(fun _ h=>h.elim),hp,hj⟩⟩
theorem rd_below {nb BB:Nat}{s:ByteArray}{It:Nat→Prop}(hA:∀k,¬ It k) {X Y:World}(h:Below X.heap.size X Y):Round (KpN nb s) BB It X Y:=
 ⟨fun e=>cell_bel h e,(ko_below h).walks,(ko_below h).from _,fun k hk=>absurd hk (hA k)⟩
theorem rd_set {nb BB:Nat}{s:ByteArray}{It:Nat→Prop}(hA:∀k,¬ It k) {X:World}{p:Addr}(hp:nb≠p.block) (v:Value):Round (KpN nb s) BB It X (X.setCell p v):=
 ⟨fun e=>(World.cell?_of_block (Below.heap_setCell _ _ _ _ hp)).trans e,KeepsWalks.setCell _ _ _,(KeepsOthers.setCell _ _ _).from _,fun k hk=>absurd hk (hA k)⟩
theorem rd_yield {nb BB B:Nat}{s:ByteArray}{It It':Nat→Prop}{Kp:World→World→Prop}(hA:∀k,¬ It k) (hB:B≤BB) (hn:It' nb) {X Y:World}(h:Round Kp B It' X Y):Round (KpN nb s) BB It X Y:=
 ⟨fun e=>(World.cell?_of_block (h.its nb hn (World.block_lt_of_cell? X _ e))).trans e,h.walks,⟨h.others.size,fun k o hk=>h.others.same k o (by omega)⟩,fun k hk=>absurd hk (hA k)⟩
theorem rd_trans {nb BB:Nat}{s:ByteArray}{It:Nat→Prop}{X Y Z:World}(h:Round (KpN nb s) BB It X Y) (k:Round (KpN nb s) BB It Y Z):Round (KpN nb s) BB It X Z:=
 Round.trans (Kp:=KpN nb s) (fun a b e=>b (a e)) h k
theorem RoundIn.more {F:Fence}{n n':Nat}{P:Program}{l:Nat}{f:FuncId}{tmps:Array Value}{assign body:Code}{w:World}{R:Ending→World→Prop}
 (h:RoundIn F n P l f tmps assign body w R) (hle:n≤n'):RoundIn F n' P l f tmps assign body w R:=
 ⟨h.1,fun c cs hroom=>h.2 c cs (Fence.room_le hroom (by omega))⟩
theorem goS_free {T:Tab}{s:ByteArray}{x:Pl s}{t:List (Pl s)}{n f:Nat}{sc:List Int}(h:freeR T (spR s x) (spB s x)=true):goS T s (x::t) n f sc=goS T s t (n+1) f sc:=by rw[goS,if_pos h]
theorem goS_both {T:Tab}{s:ByteArray}{x:Pl s}{t:List (Pl s)}{n f:Nat}{sc L:List Int}(h:freeR T (spR s x) (spB s x)=false) (hL:(sc.filter fun k=>(bdL T (spR s x) (spB s x)).contains k)=L) (h2:(L.length:Int) > 0):goS T s (x::t) n f sc=goS T s t (n+1) f L:=by rw[goS,if_neg (by rw[h];decide),hL,if_pos h2]
theorem goS_cut {T:Tab}{s:ByteArray}{x:Pl s}{t:List (Pl s)}{n f:Nat}{sc L D:List Int}(h:freeR T (spR s x) (spB s x)=false) (hL:(sc.filter fun k=>(bdL T (spR s x) (spB s x)).contains k)=L) (hD:bdL T (spR s x) (spB s x)=D) (h2:¬ (L.length:Int) > 0) (h3:(D.length:Int) > 0):goS T s (x::t) n f sc=(if f<n then [(f,n,sc)] else [])++goS T s t (n+1) n D:=by rw[goS,if_neg (by rw[h];decide),hL,if_neg h2,hD,if_pos h3]
theorem goS_bad {T:Tab}{s:ByteArray}{x:Pl s}{t:List (Pl s)}{n f:Nat}{sc L D:List Int}(h:freeR T (spR s x) (spB s x)=false) (hL:(sc.filter fun k=>(bdL T (spR s x) (spB s x)).contains k)=L) (hD:bdL T (spR s x) (spB s x)=D) (h2:¬ (L.length:Int) > 0) (h3:¬ (D.length:Int) > 0):goS T s (x::t) n f sc=(if f<n then [(f,n,sc)] else [])++(n,n+1,[])::goS T s t (n+1) (n+1) (allL T.scripts.length):=by rw[goS,if_neg (by rw[h];decide),hL,if_neg h2,hD,if_neg h3]
theorem goS_head {T:Tab}{s:ByteArray}{x:Pl s}{t:List (Pl s)}{n f:Nat}{sc L:List Int}(h:freeR T (spR s x) (spB s x)=false) (hL:(sc.filter fun k=>(bdL T (spR s x) (spB s x)).contains k)=L) (h2:¬ (L.length:Int) > 0):∃q,goS T s (x::t) n f sc=(if f<n then [(f,n,sc)] else [])++q:=by
 by_cases h3:((bdL T (spR s x) (spB s x)).length:Int) > 0
 ·exact⟨_,goS_cut h hL rfl h2 h3⟩
 ·exact⟨_,goS_bad h hL rfl h2 h3⟩
theorem own_at {X:World}{base:Nat}{e:TypeId}{g n c:Nat}{xs:List Value}(h:X.ownsRow base e 1 (.slice (some ⟨g,0,none⟩) n c) n xs):base≤g:=by
 rcases h.2 with ⟨hv,_⟩ | ⟨q,cap,cur,hv,q0,hq,q1⟩
 ·simp at hv
 ·simp only[Value.slice.injEq,Option.some.injEq,Addr.mk.injEq,true_and,and_true] at hv
  rw[hv.1];exact q0
theorem own_lt {X:World}{base:Nat}{e:TypeId}{g n c:Nat}{xs:List Value}(h:X.ownsRow base e 1 (.slice (some ⟨g,0,none⟩) n c) n xs):g<X.heap.size:=by
 rcases h.2 with ⟨hv,_⟩ | ⟨q,cap,cur,hv,q0,hq,q1⟩
 ·simp at hv
 ·simp only[Value.slice.injEq,Option.some.injEq,Addr.mk.injEq,true_and,and_true] at hv
  rw[hv.1];exact lt_of_block hq
theorem own_ne {X:World}{base:Nat}{e t:TypeId}{g n c b:Nat}{xs vs:List Value}(h:X.ownsRow base e 1 (.slice (some ⟨g,0,none⟩) n c) n xs) (hb:Blk X b vs t) (ht:t≠e):g≠b:=by
 rintro rfl
 rcases h.2 with ⟨hv,_⟩ | ⟨q,cap,cur,hv,q0,hq,q1⟩
 ·simp at hv
 ·simp only[Value.slice.injEq,Option.some.injEq,Addr.mk.injEq,true_and,and_true] at hv
  rw[←hv.1,show X.heap[g]?=_ from hb] at hq
  simp only[Option.some.injEq,Obj.cells.injEq] at hq
  exact ht hq.2.1
theorem own_block {X Y:World}{base:Nat}{e:TypeId}{g n c:Nat}{xs:List Value}(h:X.ownsRow base e 1 (.slice (some ⟨g,0,none⟩) n c) n xs) (hk:Y.heap[g]?=X.heap[g]?):Y.ownsRow base e 1 (.slice (some ⟨g,0,none⟩) n c) n xs:=by
 refine⟨h.1,?_⟩
 rcases h.2 with ⟨hv,_⟩ | ⟨q,cap,cur,hv,q0,hq,q1⟩
 ·simp at hv
 ·have hv2:=hv
  simp only[Value.slice.injEq,Option.some.injEq,Addr.mk.injEq,true_and,and_true] at hv2
  exact Or.inr ⟨q,cap,cur,hv,q0,by rw[←hv2.1] at hq ⊢;exact hk.trans hq,q1⟩
theorem own_none (W:World) (base:Nat):W.ownsRow base 3 1 (.slice none 0 0) ([]:List Int).length (iV []):=⟨rfl,Or.inl ⟨rfl,rfl⟩⟩
theorem cloneN_any (o:Option Addr) (c:Nat) (l:List Int) (W:World) (h:Rd W o (iV l)) (hn:l.length≤1048576) (hs:∀a,o=some a→a.spot=none):Calls Tryz.prog 59 #[.slice o l.length c] W fun e w'=>∃oo cap,e=.returned (.slice oo l.length cap)∧w'.ownsRow W.heap.size 3 1 (.slice oo l.length cap) l.length (iV l)∧((l.length:Int) > 0→∃g,oo=some ⟨g,0,none⟩)∧Below W.heap.size W w':=by
 cases o with
 | some a=>
  refine (cloneI_any (some a) c l W h hn (by simp) hs).mono fun e w' hh=>?_
  obtain⟨g,cap,rfl,h1,h2⟩:=hh
  exact⟨_,_,rfl,h1,fun _=>⟨g,rfl⟩,h2⟩
 | none=>
  have hl:l=[]:=by
   cases l with
   | nil=>rfl
   | cons x t=>obtain⟨g,off,e,_⟩:=h 0 (.int .i64 x) rfl;cases e
  subst hl
  refine (Any.slices_Clone_int_nil Tryz.laysNm215 0 c W).mono fun e w' hh=>?_
  obtain⟨rfl,rfl⟩:=hh
  exact⟨none,0,rfl,own_none _ _,fun h=>absurd h (by simp),Below.refl _ _⟩
structure Mid (B b3 b4 b5 nb Z:Nat) (J:(Nat→Prop)→List RunM→World→Prop) (w:World) (v:Value) (L:List Int) (R:List RunI) (V:World):Prop where
 low:Below w.heap.size w V
 ex:∃(It:Nat→Prop) (xs:List RunM) (X0:World),(∀k,It k→B≤k∧k<V.heap.size)∧J It xs X0∧Stir B It X0 V∧(It b3∧It b4∧It b5∧It nb)∧xs.map (fun y:RunM=>y.it)=R∧V.ownsRow X0.heap.size 3 1 v L.length (iV L)∧(∀g n c,v=.slice (some ⟨g,0,none⟩) n c→¬ It g)∧X0.heap.size≤Z
section
variable {B b3 b4 b5 nb Z : Nat} {J Jx : (Nat → Prop) → List RunM → World → Prop} {w : World} {v : Value} {L : List Int} {R : List RunI} {V : World}
theorem Mid.below (h:Mid B b3 b4 b5 nb Z J w v L R V) {Y:World}(hB:Below V.heap.size V Y):Mid B b3 b4 b5 nb Z J w v L R Y:=by
 obtain⟨It,xs,X0,h1,h2,h3,h4,h5,h6,h7,h8⟩:=h.ex
 exact⟨h.low.trans (hB.mono h.low.size),It,xs,X0,fun k hk=>⟨(h1 k hk).1,Nat.lt_of_lt_of_le (h1 k hk).2 hB.size⟩,h2,h3.below hB,h4,h5,own_later h6 hB,h7,h8⟩
theorem Mid.fresh (h:Mid B b3 b4 b5 nb Z J w v L R V) {Y:World}(hB:Below V.heap.size V Y) {v':Value}{L':List Int}{base:Nat}(hb:V.heap.size≤base) (hO:Y.ownsRow base 3 1 v' L'.length (iV L')) (hv:∀g n c,v'=.slice (some ⟨g,0,none⟩) n c→V.heap.size≤g):Mid B b3 b4 b5 nb Z J w v' L' R Y:=by
 obtain⟨It,xs,X0,h1,h2,h3,h4,h5,h6,h7,h8⟩:=h.ex
 exact⟨h.low.trans (hB.mono h.low.size),It,xs,X0,fun k hk=>⟨(h1 k hk).1,Nat.lt_of_lt_of_le (h1 k hk).2 hB.size⟩,h2,h3.below hB,h4,h5,own_base hO (Nat.le_trans h3.size hb),fun g n c e hk=>by have:=hv g n c e;have:=(h1 g hk).2;omega,h8⟩
theorem own_setV {X:World}{base n:Nat}{xs:List Value}{v:Value}(h:X.ownsRow base 3 1 v n xs) {p:Addr}(hp:∀g n c,v=.slice (some ⟨g,0,none⟩) n c→g≠p.block) (u:Value):(X.setCell p u).ownsRow base 3 1 v n xs:=by
 refine⟨h.1,?_⟩
 rcases h.2 with h2 | ⟨q,cap,cur,hv,q0,hq,q1⟩
 ·exact Or.inl h2
 ·exact Or.inr ⟨q,cap,cur,hv,q0,(Below.heap_setCell _ _ _ _ (hp q n cap hv)).trans hq,q1⟩
theorem Mid.set4 (h:Mid B b3 b4 b5 nb Z J w v L R V) (hw:w.heap.size≤b4) (k:Nat) (u:Value):Mid B b3 b4 b5 nb Z J w v L R (V.setCell ⟨b4,k,none⟩ u):=by
 obtain⟨It,xs,X0,h1,h2,h3,h4,h5,h6,h7,h8⟩:=h.ex
 exact⟨h.low.setCell hw _,It,xs,X0,fun k hk=>⟨(h1 k hk).1,by rw[World.size_setCell];exact (h1 k hk).2⟩,h2,h3.set (by exact h4.2.1) _,h4,h5,own_setV h6 (fun g n c e e2=>h7 g n c e (by rw[e2];exact h4.2.1)) _,h7,h8⟩
theorem Mid.yield {s:ByteArray}{m l N:Nat}{RL:List RunI}(hN:N=RL.length) (HJ:Bears (fun _=>True) B J)
 (HY:∀It pre x X W1,True→(∀k,It k→B≤k)→J It pre X→Stir B It X W1→memR RL It pre x X W1→pre.length<N→YieldAt Fence.wide m Tryz.prog l (encR s x) W1 fun e W'=>
  (e=.returned (.bool true)∧J It (pre++[x]) W'∧Round (Below w.heap.size) B It W1 W')∨(e=.returned (.bool false)∧Jx It (pre++[x]) W'∧KeepsFrom B W1 W'))
 (h:Mid B b3 b4 b5 nb Z J w v L R V) (E:Nat→Prop) (hE:∀k,E k→B≤k∧Z≤k∧k<V.heap.size) (hvE:∀g n c,v=.slice (some ⟨g,0,none⟩) n c→¬ E g) (i j:Nat) (hR:R++[(i,j,L)] <+: RL) :
 YieldAt Fence.wide m Tryz.prog l #[.agg #[.int .i64 (posAt s i:Nat),.int .i64 (i:Nat),.int .i64 (posAt s j:Nat),.int .i64 (j:Nat),v]] V fun e W'=>
  (e=.returned (.bool true)∧Mid B b3 b4 b5 nb W'.heap.size J w (.slice none 0 0) [] (R++[(i,j,L)]) W'∧∃It2:Nat→Prop,(∀k,(k=b3∨k=b4∨k=b5∨k=nb∨E k)→It2 k)∧Round (Below w.heap.size) B It2 V W') ∨
  (e=.returned (.bool false)∧KeepsFrom B V W'∧∃(It:Nat→Prop) (xs:List RunM),(∀k,It k→B≤k)∧xs.map (fun y:RunM=>y.it)=R++[(i,j,L)]∧Jx It xs W'):=by
 obtain⟨It,xs,X0,h1,h2,h3,h4,h5,h6,h7,h8⟩:=h.ex
 have hJ2:J (fun k=>It k∨E k) xs X0:=HJ.2 It _ xs X0 trivial trivial h2 (fun k hk=>hk.elim Or.inl (fun hh=>Or.inr (Nat.le_trans h8 (hE k hh).2.1)))
 have hB2:∀k,(It k∨E k)→B≤k∧k<V.heap.size:=fun k hk=>hk.elim (h1 k) (fun hh=>⟨(hE k hh).1,(hE k hh).2.2⟩)
 have hm:(xs++[(⟨(i,j,L),v⟩:RunM)]).map (fun y:RunM=>y.it)=R++[(i,j,L)]:=by rw[List.map_append,h5];rfl
 obtain⟨fn,tm,ag,bo,hy,hr⟩:=HY (fun k=>It k∨E k) xs ⟨(i,j,L),v⟩ X0 V trivial (fun k hk=>(hB2 k hk).1) hJ2 (h3.mono (Nat.le_refl _) (fun k hk=>Or.inl hk)) ⟨h6,by rw[hm];exact hR,fun g n c e hk=>hk.elim (h7 g n c e) (hvE g n c e),fun k hk=>(hB2 k hk).2⟩ (by rw[hN,←List.length_map (fun y:RunM=>y.it),h5];have:=hR.length_le;rw[List.length_append,List.length_singleton] at this;omega)
 refine⟨fn,tm,ag,bo,hy,hr.mono ?_⟩
 rintro e W' (⟨rfl,ha,hb⟩ | ⟨rfl,ha,hb⟩)
 ·refine Or.inl ⟨rfl,⟨h.low.trans hb.kp,_,_,W',fun k hk=>⟨(hB2 k hk).1,Nat.lt_of_lt_of_le (hB2 k hk).2 hb.kp.size⟩,ha,Stir.of_below (Below.refl _ _),⟨Or.inl h4.1,Or.inl h4.2.1,Or.inl h4.2.2.1,Or.inl h4.2.2.2⟩,hm,own_none _ _,fun g n c e=>by simp at e,Nat.le_refl _⟩,_,fun k hk=>?_,hb⟩
  rcases hk with rfl | rfl | rfl | rfl | hk
  ·exact Or.inl h4.1
  ·exact Or.inl h4.2.1
  ·exact Or.inl h4.2.2.1
  ·exact Or.inl h4.2.2.2
  ·exact Or.inr hk
 ·exact Or.inr ⟨rfl,hb,_,_,fun k hk=>(hB2 k hk).1,hm,ha⟩
end
theorem own_atV {X:World}{base n:Nat}{v:Value}{xs:List Value}(h:X.ownsRow base 3 1 v n xs) {g m c:Nat}(hv:v=.slice (some ⟨g,0,none⟩) m c):base≤g:=by
 rcases h.2 with ⟨hv2,_⟩ | ⟨q,cap,cur,hv2,q0,hq,q1⟩
 ·rw[hv] at hv2;simp at hv2
 ·rw[hv] at hv2
  simp only[Value.slice.injEq,Option.some.injEq,Addr.mk.injEq,true_and,and_true] at hv2
  rw[hv2.1];exact q0
structure Six (b3 b4 b5 nb b7 b8:Nat) (v3 v4 v5 vn v7 v8:List Value) (X:World):Prop where
 k3:Blk X b3 v3 117
 k4:Blk X b4 v4 64
 k5:Blk X b5 v5 3
 kn:Blk X nb vn 9
 k7:Blk X b7 v7 77
 k8:Blk X b8 v8 46
theorem Six.below {b3 b4 b5 nb b7 b8:Nat}{v3 v4 v5 vn v7 v8:List Value}{X Y:World}(h:Six b3 b4 b5 nb b7 b8 v3 v4 v5 vn v7 v8 X) (hB:Below X.heap.size X Y):Six b3 b4 b5 nb b7 b8 v3 v4 v5 vn v7 v8 Y:=
 have hk:=Keep.of_below hB (fun _=>False)
 ⟨h.k3.keep hk (by simp),h.k4.keep hk (by simp),h.k5.keep hk (by simp),h.kn.keep hk (by simp),h.k7.keep hk (by simp),h.k8.keep hk (by simp)⟩
theorem Six.set5 {b3 b4 b5 nb b7 b8:Nat}{v3 v4 v5 vn v7 v8:List Value}{X:World}(h:Six b3 b4 b5 nb b7 b8 v3 v4 v5 vn v7 v8 X) (h3:b3≠b5) (h4:b4≠b5) (hn:nb≠b5) (h7:b7≠b5) (h8:b8≠b5) (k:Nat) (v:Value):Six b3 b4 b5 nb b7 b8 v3 v4 (v5.set k v) vn v7 v8 (X.setCell ⟨b5,k,none⟩ v):=
 ⟨h.k3.other h3 _,h.k4.other h4 _,h.k5.set k _,h.kn.other hn _,h.k7.other h7 _,h.k8.other h8 _⟩
theorem Six.set4 {b3 b4 b5 nb b7 b8:Nat}{v3 v4 v5 vn v7 v8:List Value}{X:World}(h:Six b3 b4 b5 nb b7 b8 v3 v4 v5 vn v7 v8 X) (h3:b3≠b4) (h5:b5≠b4) (hn:nb≠b4) (h7:b7≠b4) (h8:b8≠b4) (k:Nat) (v:Value):Six b3 b4 b5 nb b7 b8 v3 (v4.set k v) v5 vn v7 v8 (X.setCell ⟨b4,k,none⟩ v):=
 ⟨h.k3.other h3 _,h.k4.set k _,h.k5.other h5 _,h.kn.other hn _,h.k7.other h7 _,h.k8.other h8 _⟩
theorem Six.its {b3 b4 b5 nb b7 b8:Nat}{v3 v4 v5 vn v7 v8:List Value}{X Y:World}(h:Six b3 b4 b5 nb b7 b8 v3 v4 v5 vn v7 v8 X) (hi:∀k,(k=b3∨k=b4∨k=b5∨k=nb∨k=b7∨k=b8)→k<X.heap.size→Y.heap[k]?=X.heap[k]?):Six b3 b4 b5 nb b7 b8 v3 v4 v5 vn v7 v8 Y:=
 ⟨(hi _ (by simp) h.k3.lt).trans h.k3,(hi _ (by simp) h.k4.lt).trans h.k4,(hi _ (by simp) h.k5.lt).trans h.k5,(hi _ (by simp) h.kn.lt).trans h.kn,(hi _ (by simp) h.k7.lt).trans h.k7,(hi _ (by simp) h.k8.lt).trans h.k8⟩
structure FourB (b3 b4 b5 nb:Nat) (v3 v4 v5 vn:List Value) (X:World):Prop where
 k3:Blk X b3 v3 117
 k4:Blk X b4 v4 64
 k5:Blk X b5 v5 3
 kn:Blk X nb vn 9
theorem Six.four {b3 b4 b5 nb b7 b8:Nat}{v3 v4 v5 vn v7 v8:List Value}{X:World}(h:Six b3 b4 b5 nb b7 b8 v3 v4 v5 vn v7 v8 X):FourB b3 b4 b5 nb v3 v4 v5 vn X:=⟨h.k3,h.k4,h.k5,h.kn⟩
theorem FourB.below {b3 b4 b5 nb:Nat}{v3 v4 v5 vn:List Value}{X Y:World}(h:FourB b3 b4 b5 nb v3 v4 v5 vn X) (hB:Below X.heap.size X Y):FourB b3 b4 b5 nb v3 v4 v5 vn Y:=
 have hk:=Keep.of_below hB (fun _=>False)
 ⟨h.k3.keep hk (by simp),h.k4.keep hk (by simp),h.k5.keep hk (by simp),h.kn.keep hk (by simp)⟩
theorem FourB.set4 {b3 b4 b5 nb:Nat}{v3 v4 v5 vn:List Value}{X:World}(h:FourB b3 b4 b5 nb v3 v4 v5 vn X) (h3:b3≠b4) (h5:b5≠b4) (hn:nb≠b4) (k:Nat) (v:Value):FourB b3 b4 b5 nb v3 (v4.set k v) v5 vn (X.setCell ⟨b4,k,none⟩ v):=
 ⟨h.k3.other h3 _,h.k4.set k _,h.k5.other h5 _,h.kn.other hn _⟩
theorem FourB.its {b3 b4 b5 nb:Nat}{v3 v4 v5 vn:List Value}{X Y:World}(h:FourB b3 b4 b5 nb v3 v4 v5 vn X) (hi:∀k,(k=b3∨k=b4∨k=b5∨k=nb)→k<X.heap.size→Y.heap[k]?=X.heap[k]?):FourB b3 b4 b5 nb v3 v4 v5 vn Y:=
 ⟨(hi _ (by simp) h.k3.lt).trans h.k3,(hi _ (by simp) h.k4.lt).trans h.k4,(hi _ (by simp) h.k5.lt).trans h.k5,(hi _ (by simp) h.kn.lt).trans h.kn⟩
theorem RuSt.of_mid {T:Tab}{s:ByteArray}{B b3 b4 b5 nb l Z:Nat}{J:(Nat→Prop)→List RunM→World→Prop}{w V:World}{pre:List (Pl s)}{R:List RunI}{g c f:Nat}{sc:List Int}{t1 t2:Int}
 (hM:Mid B b3 b4 b5 nb Z J w (.slice (some ⟨g,0,none⟩) sc.length c) sc R V) (hS:FourB b3 b4 b5 nb [.func (.yield l) #[] #[]] [.int .i64 (posAt s f:Nat),.int .i64 (f:Nat),.int .i64 t1,.int .i64 t2,.slice (some ⟨g,0,none⟩) sc.length c] [.int .i64 (pre.length:Nat)] [.string s] V)
 (hf:f≤pre.length) (hl:sc.length≤T.scripts.length) (h9:∀r,places s=pre++r→R++goS T s r pre.length f sc=runsL T s):RuSt T s B b3 b4 b5 nb l V.heap.size J pre w V:=by
 obtain⟨It,xs,X0,h1,h2,h3,h4,h5,h6,h7,h8⟩:=hM.ex
 exact⟨hM.low,hS.k3,hS.k5,hS.kn,It,xs,X0,g,c,f,sc,t1,t2,h1,⟨h7 _ _ _ rfl,h3.size⟩,h2,h3,h4,hf,hl,hS.k4,h6,fun r hr=>by rw[h5];exact h9 r hr⟩
set_option pp.deepTerms true in
set_option pp.maxSteps 1000000 in
set_option maxRecDepth 100000 in
set_option maxHeartbeats 4000000 in
theorem runs1_seq (T:Tab) (bb:Nat) (Bk:BAddr) (s:ByteArray) (n:Nat) (hn:6≤n) (w:World) (h:BookAt w bb Bk T) (hf:TabFit T) (hs:s.size≤1048576) (b1 b2:Nat) (c1:w.cell? ⟨b1,0,none⟩=some (.pointer (some ⟨bb,0,none⟩))) (c2:w.cell? ⟨b2,0,none⟩=some (.string s)) :
 SeqM (fun _=>True) Fence.wide n 3 Tryz.prog 58 #[.pointer (some ⟨b1,0,none⟩),.pointer (some ⟨b2,0,none⟩)] (encR s) (memR (runsL T s)) (Below w.heap.size) (fun xs=>xs.map (·.it)=runsL T s) (fun pre=>pre.map (·.it) <+: runsL T s) (runsL T s).length w:=by
 intro l J Jx W hW hJ hJx hY h0
 have HBk:Hid (∀X,Below w.heap.size w X→BookAt X bb Bk T):=Lib.hid (fun X hX=>h.below hX)
 have HC1:Hid (∀X,Below w.heap.size w X→X.cell? ⟨b1,0,none⟩=some (.pointer (some ⟨bb,0,none⟩))):=Lib.hid (fun X hX=>cell_bel hX c1)
 have HC2:Hid (∀X,Below w.heap.size w X→X.cell? ⟨b2,0,none⟩=some (.string s)):=Lib.hid (fun X hX=>cell_bel hX c2)
 have HW:=Lib.hid hW
 have HJ:=Lib.hid hJ
 have HJx:=Lib.hid hJx
 have HY:=Lib.hid hY
 have H0:=Lib.hid h0
 have HF:=Lib.hid hf
 have hAl:Below W.heap.size W (W.alloc (.cells #[.func (.yield l) #[] #[]] 117)):=(Below.refl _ _).alloc (Nat.le_refl _) _
 have k3:=Blk.new' W #[.func (.yield l) #[] #[]] 117
 obtain⟨V1,hV1⟩:∃V,W.alloc (.cells #[.func (.yield l) #[] #[]] 117)=V:=⟨_,rfl⟩
 have hz1:V1.heap.size=W.heap.size+1:=by rw[←hV1];simp
 rw[hV1] at hAl k3
 have hwv:=HW.out.trans (hAl.mono HW.out.size)
 have d1:=HC1.out V1 hwv
 have HAll:=Lib.hid (all_any T bb Bk V1 (HBk.out V1 hwv) hf)
 have HV1:=Lib.hid hV1
 have HAl:=Lib.hid hAl
 have HK3:=Lib.hid k3
 have HWV:=Lib.hid hwv
 clear hW hJ hJx hY h0 hf h c1 c2 hAl k3 hV1 hwv
 refine callsIn_of_wp_marks Tryz.func58 rfl trivial ?_ rfl
 simp only[Tryz.ntmps58,List.size_toArray,List.length_cons,List.length_nil,Nat.reduceAdd,Nat.reduceSub,Array.replicate_succ,Array.replicate_zero,List.push_toArray,List.append_toArray,List.nil_append,List.cons_append]
 gi_upto_region 1 with fail
 rw[HV1.out]
 gi_wp2_with fail
 refine⟨trivial,fun _=>by omega,(callsIn_wide.2 HAll.out).mono ?_⟩
 rintro e w1 ⟨g,c,rfl,ho,hB1⟩
 clear HAll d1
 gi_upto_region 4 with fail
 have b4:=(Blk.new' w1 #[.int .i64 0,.int .i64 0,.int .i64 0,.int .i64 0,.slice (some ⟨g,0,none⟩) (allL T.scripts.length).length c] 64).alloc (.cells #[.int .i64 0] 3)
 have b5:=Blk.new' (w1.alloc (.cells #[.int .i64 0,.int .i64 0,.int .i64 0,.int .i64 0,.slice (some ⟨g,0,none⟩) (allL T.scripts.length).length c] 64)) #[.int .i64 0] 3
 have hB2:Below w1.heap.size w1 ((w1.alloc (.cells #[.int .i64 0,.int .i64 0,.int .i64 0,.int .i64 0,.slice (some ⟨g,0,none⟩) (allL T.scripts.length).length c] 64)).alloc (.cells #[.int .i64 0] 3)):=((Below.refl _ w1).alloc (Nat.le_refl _) _).alloc (by simp) _
 have hz2:((w1.alloc (.cells #[.int .i64 0,.int .i64 0,.int .i64 0,.int .i64 0,.slice (some ⟨g,0,none⟩) (allL T.scripts.length).length c] 64)).alloc (.cells #[.int .i64 0] 3)).heap.size=w1.heap.size+2:=by simp
 simp only[World.size_alloc] at b5
 generalize (w1.alloc (.cells #[.int .i64 0,.int .i64 0,.int .i64 0,.int .i64 0,.slice (some ⟨g,0,none⟩) (allL T.scripts.length).length c] 64)).alloc (.cells #[.int .i64 0] 3)=w2 at *
 have hBV2:Below V1.heap.size V1 w2:=hB1.trans (hB2.mono hB1.size)
 have e2:=HC2.out w2 (HWV.out.trans (hBV2.mono HWV.out.size))
 gi_wp2_with fail
 refine⟨trivial,fun _=>by omega,(callsIn_wide.2 (spots_any s w2)).mono ?_⟩
 rintro e w' ⟨rfl,rfl⟩
 have kn:=Blk.new' w2 #[.string s] 9
 have hB3:Below w2.heap.size w2 (w2.alloc (.cells #[.string s] 9)):=(Below.refl _ w2).alloc (Nat.le_refl _) _
 have hz3:(w2.alloc (.cells #[.string s] 9)).heap.size=w2.heap.size+1:=by simp
 rw[hz2] at kn
 rw[hz2]
 have ho2:=own_later ho (hB2.trans (hB3.mono hB2.size))
 replace b4:=b4.keep (Keep.of_below hB3 (fun _=>False)) (by simp)
 replace b5:=b5.keep (Keep.of_below hB3 (fun _=>False)) (by simp)
 have hBV3:=hBV2.trans (hB3.mono hBV2.size)
 have hz1:V1.heap.size=W.heap.size+1:=hz1
 have hzz:=hB1.size
 have hst:RuSt T s W.heap.size W.heap.size w1.heap.size (w1.heap.size+1) (w1.heap.size+2) l (w2.alloc (.cells #[.string s] 9)).heap.size J [] w (w2.alloc (.cells #[.string s] 9)):=by
  refine⟨HWV.out.trans (hBV3.mono HWV.out.size),HK3.out.keep (Keep.of_below hBV3 (fun _=>False)) (by simp),b5,kn,(fun k=>k=W.heap.size∨k=w1.heap.size∨k=w1.heap.size+1∨k=(w1.heap.size+2)),[],W,g,c,0,allL T.scripts.length,0,0,?_,⟨?_,by omega⟩,?_,Stir.of_below (HAl.out.trans (hBV3.mono HAl.out.size)),⟨Or.inl rfl,Or.inr (Or.inl rfl),Or.inr (Or.inr (Or.inl rfl)),Or.inr (Or.inr (Or.inr rfl))⟩,Nat.zero_le _,by rw[allL_len];exact Nat.le_refl _,by rw[posAt_zero];exact b4,own_base ho2 (by omega),fun r hr=>?_⟩
  ·rintro k (rfl | rfl | rfl | rfl) <;> (constructor <;> omega)
  ·have hg:=own_at ho
   have hg2:=own_lt ho
   omega
  ·exact HJ.out.2 _ _ _ _ trivial trivial H0.out (fun k hk=>Or.inr (by rcases hk with rfl | rfl | rfl | rfl <;> omega))
  ·rw[List.nil_append] at hr
   subst hr
   exact runs_go T s
 have HSt:=Lib.hid hst
 have HZ3:=Lib.hid hz3
 have hz4:W.heap.size+1≤w1.heap.size:=by omega
 have hwz:=HW.out.size
 generalize w2.alloc (.cells #[.string s] 9)=W3 at *
 have hz6:W3.heap.size=w1.heap.size+3:=by rw[HZ3.out];omega
 clear hst ho ho2 b4 b5 kn hB1 hB2 hB3 hBV2 hBV3 e2 hz2
 gi_upto_region 99 with fail
 refine wpIn_rangeFunc_M (Al:=fun It=>∀k,¬ It k) (fun _ h=>h) rfl (by omega) (gf:=84) (lb:=#[.pointer (some ⟨w1.heap.size+2,0,none⟩)]) rfl trivial (enters_of Tryz.func84 (by kernel_rfl) rfl)
  (spots_M (n - 1) (by omega) (w1.heap.size+2) s (by omega) W3 (HSt.out.kn.cell 0)) (fun a b e=>b (a e)) (fun X l' o o' hl' ho hc _ e=>(World.cell?_of_block (World.putObj_heap_other (by have h:W3.heap.size≤l':=hl';simp only;omega))).trans e) (Below.refl _ _) (fun _=>rfl)
  (fun _ pre X=>RuSt T s W.heap.size W.heap.size w1.heap.size (w1.heap.size+1) (w1.heap.size+2) l X.heap.size J pre w X)
  (fun cc _ (pre:List (Pl s)) X=>cc=.ret∧∃(It:Nat→Prop) (xs:List RunM),(∀k,It k→W.heap.size≤k)∧(xs.map (fun y:RunM=>y.it) <+: runsL T s)∧Jx It xs X)
  ⟨fun It pre X Y hA h hS=>(h.stir hA (by omega) (by omega) hS).mono hS.size,fun It It' pre X _ _ h _=>h⟩
  (fun cc=>⟨fun It pre X Y hA h hS=>by
   obtain⟨h1,It2,xs,h2,h3,h4⟩:=h
   exact⟨h1,It2,xs,h2,h3,HJx.out.1 _ _ _ _ trivial h4 (hS.mono (by omega) (fun k hk=>absurd hk (hA k)))⟩,fun It It' pre X _ _ h _=>h⟩)
  HSt.out ?round ?done ?stop
 case round=>
  rintro l' Ie pre x X V K hA _ hI hS ⟨r,hpl⟩ hlen hK
  have hI2:=(hI.stir hA (by omega) (by omega) hS).mono hS.size
  clear hI hS
  unfold encS
  gi_wp2
  have hAll:Below V.heap.size V (V.alloc (.cells #[.int .i32 (Utf8.decode s x.1).1,.int .i64 (Utf8.decode s x.1).2,.bool (!goodAt s x.1)] 77)):=(Below.refl _ _).alloc (Nat.le_refl _) _
  refine hK _ _ (rd_below hA hAll) ((ko_below hAll).from _) ?_
  intro V0 hS0 hR0
  have hI3:=(hI2.below hAll).stir hA (by omega) (by omega) hS0
  have b7:=hS0.blk (Blk.new' V #[.int .i32 (Utf8.decode s x.1).1,.int .i64 (Utf8.decode s x.1).2,.bool (!goodAt s x.1)] 77) (hA _)
  have hVz:V.heap.size+1≤V0.heap.size:=by have:=hS0.size;simp at this;omega
  have hVn:=hI2.kn.lt
  have h3n:=hI3.k3.lt
  clear hI2 hAll hK hS0 HSt H0 HAl HK3 HV1 HZ3
  obtain⟨i1,i2,i3,i4,It,xs,X0,g',c',f,sc,t1,t2,h1,⟨h0,hZ⟩,h2,h3,⟨h41,h42,h43,h44⟩,h5,h6,h7,h8,h9⟩:=hI3
  have hE1:Below V0.heap.size V0 (V0.alloc (.cells #[.int .i64 (x.1:Nat),.int .i64 (pre.length:Nat)] 46)):=(Below.refl _ _).alloc (Nat.le_refl _) _
  have b8:=Blk.new' V0 #[.int .i64 (x.1:Nat),.int .i64 (pre.length:Nat)] 46
  have hk8:=Keep.of_below hE1 (fun _=>False)
  have six:Six _ _ _ _ _ _ _ _ _ _ _ _ _:=⟨i2.keep hk8 (by simp),h7.keep hk8 (by simp),i3.keep hk8 (by simp),i4.keep hk8 (by simp),Blk.keep b7 hk8 (by simp),b8⟩
  obtain⟨bp,hbp⟩:∃k,k=V0.heap.size:=⟨_,rfl⟩
  rw[←hbp] at six
  have c5:=i3.cell 0
  dsimp only[List.getElem?_cons_zero] at c5
  clear hk8 i2 i3 i4 h7 b7 b8
  gi_upto_region 8 with fail
  rw[←hbp]
  have hza:(V0.alloc (.cells #[.int .i64 (x.1:Nat),.int .i64 (pre.length:Nat)] 46)).heap.size=V0.heap.size+1:=by simp
  generalize hVa:V0.alloc (.cells #[.int .i64 (x.1:Nat),.int .i64 (pre.length:Nat)] 46)=Va at *
  clear hVa
  replace c5:=six.k5.cell 0
  have f5:=six.k5.frozen 0
  dsimp only[List.getElem?_cons_zero] at c5
  obtain⟨N1,hN1⟩:∃k,k=pre.length+1:=⟨_,rfl⟩
  have HN1:=Lib.hid hN1
  have hN1b:N1≤1048576:=by omega
  have hN1c:pre.length≤N1:=by omega
  have hcn:Hid (((pre.length:Nat):Int)+1=((N1:Nat):Int)):=Lib.hid (by omega)
  clear hN1
  gi_upto_region 9 with fail
  rw[hcn.out]
  have hlow:Below w.heap.size w (Va.setCell ⟨w1.heap.size+1,0,none⟩ (.int .i64 (N1:Nat))):=(i1.trans (hE1.mono i1.size)).setCell (by simp only;omega) _
  have hst:Stir W.heap.size It X0 (Va.setCell ⟨w1.heap.size+1,0,none⟩ (.int .i64 (N1:Nat))):=(h3.below hE1).set (by exact h43) _
  have hrd:Round (KpN (w1.heap.size+2) s) W3.heap.size Ie V0 (Va.setCell ⟨w1.heap.size+1,0,none⟩ (.int .i64 (N1:Nat))):=rd_trans (rd_below hA hE1) (rd_set hA (by simp only;omega) _)
  have hg5:g'≠w1.heap.size+1:=fun e=>h0 (by rw[e];exact h43)
  have hg4:g'≠w1.heap.size:=fun e=>h0 (by rw[e];exact h42)
  have how:(Va.setCell ⟨w1.heap.size+1,0,none⟩ (.int .i64 (N1:Nat))).ownsRow X0.heap.size 3 1 (.slice (some ⟨g',0,none⟩) sc.length c') sc.length (iV sc):=own_block (own_later h8 hE1) (Below.heap_setCell _ _ _ _ hg5)
  have hit:∀k,It k→W.heap.size≤k∧k<(Va.setCell ⟨w1.heap.size+1,0,none⟩ (.int .i64 (N1:Nat))).heap.size:=fun k hk=>⟨(h1 k hk).1,by rw[World.size_setCell];exact Nat.lt_of_lt_of_le (h1 k hk).2 hE1.size⟩
  have hzb:(Va.setCell ⟨w1.heap.size+1,0,none⟩ (.int .i64 (N1:Nat))).heap.size=V0.heap.size+1:=by rw[World.size_setCell];exact hza
  replace six:=six.set5 (by omega) (by omega) (by omega) (by omega) (by omega) 0 (.int .i64 (N1:Nat))
  simp only[List.set_cons_zero] at six
  clear hE1 i1 h8 h3 h1 c5 f5 hcn
  generalize Va.setCell ⟨w1.heap.size+1,0,none⟩ (.int .i64 (N1:Nat))=Vb at *
  clear hza
  subst hbp
  have hrb:=dec_rune s x.1
  have hbd:=bound_any T bb Bk (spR s x) (by unfold spR I32;omega) ((Utf8.decode s x.1).2:Nat) (spB s x) Vb (HBk.out Vb hlow) HF.out
  have d1:=HC1.out Vb hlow
  have x0:=six.k7.cell 0
  have x1:=six.k7.cell 1
  have x2:=six.k7.cell 2
  dsimp only[List.getElem?_cons_zero,List.getElem?_cons_succ] at x0 x1 x2
  have HPn:Hid (posAt s N1=x.1+(Utf8.decode s x.1).2):=Lib.hid (by rw[HN1.out];exact posAt_next hpl)
  have hps:=posAt_split hpl
  have HR:Hid (((Utf8.decode s x.1).1:Int)=spR s x):=Lib.hid rfl
  have HBB:Hid ((!goodAt s x.1)=spB s x):=Lib.hid rfl
  rw[HR.out] at x0 six ⊢
  rw[HBB.out] at x2 six ⊢
  generalize (Utf8.decode s x.1).2=kk at *
  clear HR HBB hrb hR0
  have hBl:=bdL_len T (spR s x) (spB s x)
  have HG1:=Lib.hid (fun (n f:Nat) (sc:List Int) (t:List (Pl s))=>goS_free (T:=T) (s:=s) (x:=x) (t:=t) (n:=n) (f:=f) (sc:=sc))
  have HG2:=Lib.hid (fun (n f:Nat) (sc L:List Int) (t:List (Pl s))=>goS_both (T:=T) (s:=s) (x:=x) (t:=t) (n:=n) (f:=f) (sc:=sc) (L:=L))
  have HG3:=Lib.hid (fun (n f:Nat) (sc L:List Int) (t:List (Pl s))=>goS_cut (T:=T) (s:=s) (x:=x) (t:=t) (n:=n) (f:=f) (sc:=sc) (L:=L) (D:=bdL T (spR s x) (spB s x)))
  have HG4:=Lib.hid (fun (n f:Nat) (sc L:List Int) (t:List (Pl s))=>goS_bad (T:=T) (s:=s) (x:=x) (t:=t) (n:=n) (f:=f) (sc:=sc) (L:=L) (D:=bdL T (spR s x) (spB s x)))
  have HG5:=Lib.hid (fun (n f:Nat) (sc L:List Int) (t:List (Pl s))=>goS_head (T:=T) (s:=s) (x:=x) (t:=t) (n:=n) (f:=f) (sc:=sc) (L:=L))
  unfold BoundPost at hbd
  generalize spR s x=R at *
  generalize spB s x=bad at *
  obtain⟨D,hD⟩:∃D,bdL T R bad=D:=⟨_,rfl⟩
  obtain⟨fr,hfr⟩:∃b,freeR T R bad=b:=⟨_,rfl⟩
  simp only[hD,hfr,forall_const] at hbd hBl HG1 HG2 HG3 HG4 HG5
  have HBd:=Lib.hid hbd
  have HBl:=Lib.hid hBl
  have HLow:=Lib.hid hlow
  have HSt:=Lib.hid hst
  have HRd:=Lib.hid hrd
  have HOw:=Lib.hid how
  have HIt:=Lib.hid hit
  have HSix:=Lib.hid six
  have H9:=Lib.hid h9
  have H2:=Lib.hid h2
  clear hbd hD hfr hBl hlow hst hrd how hit six h9 h2
  gi_wp2_with fail
  refine⟨trivial,fun _=>by omega,(callsIn_wide.2 HBd.out).mono ?_⟩
  rintro e Vc ⟨o,d,rfl,hrD,hnD,hBc⟩
  have hzc:=hBc.size
  have HRD:=Lib.hid hrD
  have HND:=Lib.hid hnD
  have HBc:=Lib.hid hBc
  clear hrD hnD hBc x0 x1 x2 d1 HBd
  have hln:(pre++[x]).length=N1:=by rw[HN1.out];simp
  cases fr with
  | true=>
   gi_wp2
   exact⟨rd_trans HRd.out (rd_below hA HBc.out),HLow.out.trans (HBc.out.mono HLow.out.size),(HSix.out.below HBc.out).k3,by rw[hln];exact (HSix.out.below HBc.out).k5,(HSix.out.below HBc.out).kn,It,xs,X0,g',c',f,sc,t1,t2,fun k hk=>⟨(HIt.out k hk).1,Nat.lt_of_lt_of_le (HIt.out k hk).2 HBc.out.size⟩,⟨h0,by omega⟩,H2.out,HSt.out.below HBc.out,⟨h41,h42,h43,h44⟩,by rw[hln];omega,h6,(HSix.out.below HBc.out).k4,own_later HOw.out HBc.out,fun r' hr'=>by
    have hr2:places s=pre++x::r':=by rw[hr'];simp
    have:=H9.out _ hr2
    rw[HG1.out _ _ _ _ trivial] at this
    rw[hln,HN1.out]
    exact this⟩
  | false=>
   have h4c:=(HSix.out.below HBc.out).k4.cell 4
   dsimp only[List.getElem?_cons_zero,List.getElem?_cons_succ] at h4c
   have HOw1:=Lib.hid (own_later HOw.out HBc.out)
   obtain⟨L2,hL2⟩:∃L2,(sc.filter fun n=>D.contains n)=L2:=⟨_,rfl⟩
   have hm:=meet_any (some ⟨g',0,none⟩) o c' d sc D Vc (own_rd' HOw1.out) (by simp) (fun a ha=>by cases ha;rfl) HRD.out (Nat.le_trans h6 HF.out.l0) (Nat.le_trans HBl.out HF.out.l0) (fun a ha=>(HND.out a ha).2.1)
   rw[hL2] at hm
   have hl2:L2.length≤sc.length:=by rw[←hL2];exact List.length_filter_le _ _
   have HM:=Lib.hid hm
   have HL2:=Lib.hid hL2
   clear hm hL2
   gi_wp2_with fail
   refine⟨trivial,fun _=>by omega,(callsIn_wide.2 HM.out).mono ?_⟩
   rintro e Vd ⟨g2,q2,rfl,ho2,hBd⟩
   have hzd:=hBd.size
   have hBbd:=HBc.out.trans (hBd.mono HBc.out.size)
   have HBbd:=Lib.hid hBbd
   have HO2:=Lib.hid ho2
   have HSixD:=Lib.hid (HSix.out.below hBbd)
   have HRD2:=Lib.hid (HRD.out.below hBd)
   have HOwD:=Lib.hid (own_later HOw1.out hBd)
   clear hBbd ho2 hBd HM HOw1 h4c
   have h4d:=HSixD.out.k4.cell 4
   have f4d:=HSixD.out.k4.frozen 4
   dsimp only[List.getElem?_cons_zero,List.getElem?_cons_succ] at h4d
   by_cases hb:(L2.length:Int) > 0
   ·have hbd:decide ((L2.length:Int) > 0)=true:=decide_eq_true hb
    gi_wp2
    have hE:=HBbd.out.size
    have hgn:∀k,It k→k≠g2:=fun k hk e=>by have:=(HIt.out k hk).2;have:=own_at HO2.out;omega
    exact⟨rd_trans HRd.out (rd_trans (rd_below hA HBbd.out) (rd_set hA (by simp only;omega) _)),(HLow.out.trans (HBbd.out.mono HLow.out.size)).setCell (by simp only;omega) _,(HSixD.out.set4 (by omega) (by omega) (by omega) (by omega) (by omega) 4 _).k3,by rw[hln];exact (HSixD.out.set4 (by omega) (by omega) (by omega) (by omega) (by omega) 4 _).k5,(HSixD.out.set4 (by omega) (by omega) (by omega) (by omega) (by omega) 4 _).kn,It,xs,X0,g2,q2,f,L2,t1,t2,fun k hk=>⟨(HIt.out k hk).1,by rw[World.size_setCell];exact Nat.lt_of_lt_of_le (HIt.out k hk).2 hE⟩,⟨fun hk=>hgn _ hk rfl,by rw[World.size_setCell];omega⟩,H2.out,(HSt.out.below HBbd.out).set (by exact h42) _,⟨h41,h42,h43,h44⟩,by rw[hln];omega,by omega,HSixD.out.k4.set 4 _,own_base (own_block HO2.out (Below.heap_setCell _ _ _ _ (fun e=>hgn _ h42 e.symm))) (by have:=HSt.out.size;omega),fun r' hr'=>by
     have hr2:places s=pre++x::r':=by rw[hr'];simp
     have:=H9.out _ hr2
     rw[HG2.out _ _ _ L2 _ trivial HL2.out hb] at this
     rw[hln,HN1.out]
     exact this⟩
   ·have hbd:decide ((L2.length:Int) > 0)=false:=decide_eq_false hb
    have h42d:=HSixD.out.k4.cell 2
    have f42d:=HSixD.out.k4.frozen 2
    have h43d:=HSixD.out.k4.cell 3
    have f43d:=HSixD.out.k4.frozen 3
    have h80:=HSixD.out.k8.cell 0
    have h81:=HSixD.out.k8.cell 1
    dsimp only[List.getElem?_cons_zero,List.getElem?_cons_succ] at h42d h43d h80 h81
    gi_upto_region 15 with fail
    rename_i K16 hK16 K15 hK15
    have hmid:Mid W.heap.size W.heap.size w1.heap.size (w1.heap.size+1) (w1.heap.size+2) V.heap.size J w (.slice (some ⟨g',0,none⟩) sc.length c') sc (xs.map (fun y:RunM=>y.it)) ((Vd.setCell ⟨w1.heap.size,2,none⟩ (.int .i64 (x.1:Nat))).setCell ⟨w1.heap.size,3,none⟩ (.int .i64 (pre.length:Nat))):=
     Mid.set4 (Mid.set4 ⟨HLow.out.trans (HBbd.out.mono HLow.out.size),It,xs,X0,fun k hk=>⟨(HIt.out k hk).1,Nat.lt_of_lt_of_le (HIt.out k hk).2 HBbd.out.size⟩,H2.out,HSt.out.below HBbd.out,⟨h41,h42,h43,h44⟩,rfl,HOwD.out,fun g3 n3 c3 e hk=>by simp only[Value.slice.injEq,Option.some.injEq,Addr.mk.injEq,true_and,and_true] at e;exact h0 (by rw[e.1];exact hk),hZ⟩ (by omega) 2 _) (by omega) 3 _
    have hsix:=(HSixD.out.set4 (by omega) (by omega) (by omega) (by omega) (by omega) 2 (.int .i64 (x.1:Nat))).set4 (by omega) (by omega) (by omega) (by omega) (by omega) 3 (.int .i64 (pre.length:Nat))
    simp only[List.set_cons_zero,List.set_cons_succ] at hsix
    have hrde:Round (KpN (w1.heap.size+2) s) W3.heap.size Ie V0 ((Vd.setCell ⟨w1.heap.size,2,none⟩ (.int .i64 (x.1:Nat))).setCell ⟨w1.heap.size,3,none⟩ (.int .i64 (pre.length:Nat))):=rd_trans HRd.out (rd_trans (rd_below hA HBbd.out) (rd_trans (rd_set hA (by simp only;omega) _) (rd_set hA (by simp only;omega) _)))
    have hoE:∀a,o=some a→Vb.heap.size≤a.block∧a.block<Vd.heap.size:=fun a ha=>⟨(HND.out a ha).1,Nat.lt_of_lt_of_le (HND.out a ha).2.1 hzd⟩
    have hrDe:Rd ((Vd.setCell ⟨w1.heap.size,2,none⟩ (.int .i64 (x.1:Nat))).setCell ⟨w1.heap.size,3,none⟩ (.int .i64 (pre.length:Nat))) o (iV D):=Rd.mono HRD2.out (fun a v hv ⟨b,hb,e⟩=>by
     have:=(hoE b hb).1
     exact (World.cell?_of_block (Below.heap_setCell _ _ _ _ (by simp only;omega))).trans ((World.cell?_of_block (Below.heap_setCell _ _ _ _ (by simp only;omega))).trans hv))
    have hze:((Vd.setCell ⟨w1.heap.size,2,none⟩ (.int .i64 (x.1:Nat))).setCell ⟨w1.heap.size,3,none⟩ (.int .i64 (pre.length:Nat))).heap.size=Vd.heap.size:=by simp[World.size_setCell]
    generalize (Vd.setCell ⟨w1.heap.size,2,none⟩ (.int .i64 (x.1:Nat))).setCell ⟨w1.heap.size,3,none⟩ (.int .i64 (pre.length:Nat))=Ve at *
    clear HOwD HRD2 HSixD h4d f4d h42d f42d h43d f43d h80 h81 HRD HBbd
    have HJ16:∀(Vf:World) (v3:Value) (L3:List Int) (Z3:Nat),Mid W.heap.size W.heap.size w1.heap.size (w1.heap.size+1) (w1.heap.size+2) Z3 J w v3 L3 (xs.map (fun y:RunM=>y.it)++(if f<pre.length then [(f,pre.length,sc)] else [])) Vf→(∃y1 y2 y3 y4 y5,Six W.heap.size w1.heap.size (w1.heap.size+1) (w1.heap.size+2) V.heap.size V0.heap.size [.func (.yield l) #[] #[]] [y1,y2,y3,y4,y5] [.int .i64 (N1:Nat)] [.string s] [.int .i32 R,.int .i64 kk,.bool bad] [.int .i64 (x.1:Nat),.int .i64 (pre.length:Nat)] Vf)→Round (KpN (w1.heap.size+2) s) W3.heap.size Ie V0 Vf→Rd Vf o (iV D)→Vd.heap.size≤Vf.heap.size →
     ∀s10 s11 s12 s13 s14 s15 s16 s17 s18 s19 s20 s21 s22 s23 s24 s25 s26 s27 s28 s29 s30 s31 s32 s33 s34 s35 s36 s37 s38 s39 s40 s41 s42 s43 s44 s45 s46 s47 s48 s49 s50 s51 s52 s53 s54 s55 s56 s57 s58 s59 s60 s61 s62 s63 s64 s65 s66 s67 s68 s69 s70 s71 s72 s73 s74 s75 s76 s77 s78 s79 s80 s81 s82 s83 s84 s85 s86 s87 s88 s89 s90 s91:Value,K16 { tmps:=#[.func (.yield l) #[] #[],.pointer (some ⟨b1,0,none⟩),.pointer (some ⟨b2,0,none⟩),.pointer (some ⟨W.heap.size,0,none⟩),.pointer (some ⟨w1.heap.size,0,none⟩),.pointer (some ⟨w1.heap.size+1,0,none⟩),.int .i64 (x.1:Nat),.pointer (some ⟨V.heap.size,0,none⟩),.pointer (some ⟨V0.heap.size,0,none⟩),.slice o D.length d,s10,s11,s12,s13,s14,s15,s16,s17,s18,s19,s20,s21,s22,s23,s24,s25,s26,s27,s28,s29,s30,s31,s32,s33,s34,s35,s36,s37,s38,s39,s40,s41,s42,s43,s44,s45,s46,s47,s48,s49,s50,s51,s52,s53,s54,s55,s56,s57,s58,s59,s60,s61,s62,s63,s64,s65,s66,s67,s68,s69,s70,s71,s72,s73,s74,s75,s76,s77,s78,s79,s80,s81,s82,s83,s84,s85,s86,s87,s88,s89,s90,s91],defers:=[] } Vf:=by
     intro Vf v3 L3 Z3 hM ⟨y1,y2,y3,y4,y5,hS6⟩ hR6 hD6 hz6 s10 s11 s12 s13 s14 s15 s16 s17 s18 s19 s20 s21 s22 s23 s24 s25 s26 s27 s28 s29 s30 s31 s32 s33 s34 s35 s36 s37 s38 s39 s40 s41 s42 s43 s44 s45 s46 s47 s48 s49 s50 s51 s52 s53 s54 s55 s56 s57 s58 s59 s60 s61 s62 s63 s64 s65 s66 s67 s68 s69 s70 s71 s72 s73 s74 s75 s76 s77 s78 s79 s80 s81 s82 s83 s84 s85 s86 s87 s88 s89 s90 s91
     have h80:=hS6.k8.cell 0
     have h81:=hS6.k8.cell 1
     dsimp only[List.getElem?_cons_zero,List.getElem?_cons_succ] at h80 h81
     refine hK16 _ _ ?_
     gi_upto_region 16 with fail
     rename_i K17 hK17
     have hM':=hM.below ((Below.refl _ _).drew)
     have HJ17:∀(oo4:Option Addr) (c4:Nat) (Vg:World),Vg.ownsRow Vf.heap.size 3 1 (.slice oo4 D.length c4) D.length (iV D)→((D.length:Int) > 0→∃g,oo4=some ⟨g,0,none⟩)→Below Vf.heap.size Vf Vg→∀s10 s11 s12 s13 s14 s15 s16 s17 s18 s19 s20 s21 s22 s23 s24 s25 s26 s27 s28 s29 s30 s31 s32 s33 s34 s35 s36 s37 s38 s39 s40 s41 s42 s43 s44 s45 s46 s47 s48 s49 s50 s51 s52 s53 s54 s55 s56 s57 s58 s59 s60 s61 s62 s63 s64 s65 s66 s67 s68 s69 s70 s71 s72 s73 s74 s75 s76 s77 s78 s79 s80 s81 s82 s83 s84 s85 s86 s87 s88 s89 s90 s91:Value,K17 { tmps:=#[.func (.yield l) #[] #[],.pointer (some ⟨b1,0,none⟩),.pointer (some ⟨b2,0,none⟩),.pointer (some ⟨W.heap.size,0,none⟩),.pointer (some ⟨w1.heap.size,0,none⟩),.pointer (some ⟨w1.heap.size+1,0,none⟩),.int .i64 (x.1:Nat),.pointer (some ⟨V.heap.size,0,none⟩),.pointer (some ⟨V0.heap.size,0,none⟩),.slice o D.length d,s10,s11,s12,s13,s14,s15,s16,s17,s18,s19,s20,s21,s22,s23,s24,s25,s26,s27,s28,s29,s30,s31,s32,s33,s34,s35,s36,s37,s38,s39,s40,s41,s42,s43,s44,s45,s46,s47,s48,s49,s50,s51,s52,s53,s54,s55,s56,s57,s58,s59,s60,s61,s62,s63,s64,s65,s66,s67,s68,s69,s70,s71,s72,s73,s74,s75,s76,s77,s78,s79,s80,s81,s82,s83,s84,s85,s86,s87,s88,s89,s90,s91],defers:=[] } (((((Vg.setCell ⟨w1.heap.size,0,none⟩ (.int .i64 (x.1:Nat))).setCell ⟨w1.heap.size,1,none⟩ (.int .i64 (pre.length:Nat))).setCell ⟨w1.heap.size,2,none⟩ (.int .i64 0)).setCell ⟨w1.heap.size,3,none⟩ (.int .i64 0)).setCell ⟨w1.heap.size,4,none⟩ (.slice oo4 D.length c4)):=by
      intro oo4 c4 Vg ho4 hv4 hB4 s10 s11 s12 s13 s14 s15 s16 s17 s18 s19 s20 s21 s22 s23 s24 s25 s26 s27 s28 s29 s30 s31 s32 s33 s34 s35 s36 s37 s38 s39 s40 s41 s42 s43 s44 s45 s46 s47 s48 s49 s50 s51 s52 s53 s54 s55 s56 s57 s58 s59 s60 s61 s62 s63 s64 s65 s66 s67 s68 s69 s70 s71 s72 s73 s74 s75 s76 s77 s78 s79 s80 s81 s82 s83 s84 s85 s86 s87 s88 s89 s90 s91
      have mh:=(((((hM.fresh hB4 (Nat.le_refl _) ho4 (fun g n c e=>own_atV ho4 e)).set4 (by omega) 0 (.int .i64 (x.1:Nat))).set4 (by omega) 1 (.int .i64 (pre.length:Nat))).set4 (by omega) 2 (.int .i64 0)).set4 (by omega) 3 (.int .i64 0)).set4 (by omega) 4 (.slice oo4 D.length c4)
      have sh:=((((((hS6.below hB4).set4 (by omega) (by omega) (by omega) (by omega) (by omega) 0 (.int .i64 (x.1:Nat))).set4 (by omega) (by omega) (by omega) (by omega) (by omega) 1 (.int .i64 (pre.length:Nat))).set4 (by omega) (by omega) (by omega) (by omega) (by omega) 2 (.int .i64 0)).set4 (by omega) (by omega) (by omega) (by omega) (by omega) 3 (.int .i64 0)).set4 (by omega) (by omega) (by omega) (by omega) (by omega) 4 (.slice oo4 D.length c4))
      have rh:Round (KpN (w1.heap.size+2) s) W3.heap.size Ie V0 (((((Vg.setCell ⟨w1.heap.size,0,none⟩ (.int .i64 (x.1:Nat))).setCell ⟨w1.heap.size,1,none⟩ (.int .i64 (pre.length:Nat))).setCell ⟨w1.heap.size,2,none⟩ (.int .i64 0)).setCell ⟨w1.heap.size,3,none⟩ (.int .i64 0)).setCell ⟨w1.heap.size,4,none⟩ (.slice oo4 D.length c4)):=rd_trans hR6 (rd_trans (rd_below hA hB4) (rd_trans (rd_trans (rd_trans (rd_trans (rd_set hA (by simp only;omega) _) (rd_set hA (by simp only;omega) _)) (rd_set hA (by simp only;omega) _)) (rd_set hA (by simp only;omega) _)) (rd_set hA (by simp only;omega) _)))
      have hzh:Vf.heap.size≤((((((Vg.setCell ⟨w1.heap.size,0,none⟩ (.int .i64 (x.1:Nat))).setCell ⟨w1.heap.size,1,none⟩ (.int .i64 (pre.length:Nat))).setCell ⟨w1.heap.size,2,none⟩ (.int .i64 0)).setCell ⟨w1.heap.size,3,none⟩ (.int .i64 0)).setCell ⟨w1.heap.size,4,none⟩ (.slice oo4 D.length c4))).heap.size:=by simp only[World.size_setCell];exact hB4.size
      simp only[List.set_cons_zero,List.set_cons_succ] at sh
      generalize (((((Vg.setCell ⟨w1.heap.size,0,none⟩ (.int .i64 (x.1:Nat))).setCell ⟨w1.heap.size,1,none⟩ (.int .i64 (pre.length:Nat))).setCell ⟨w1.heap.size,2,none⟩ (.int .i64 0)).setCell ⟨w1.heap.size,3,none⟩ (.int .i64 0)).setCell ⟨w1.heap.size,4,none⟩ (.slice oo4 D.length c4))=Vh at *
      refine hK17 _ _ ?_
      have MH:=Lib.hid mh
      have SH:=Lib.hid sh
      have RH:=Lib.hid rh
      clear mh sh rh ho4 hB4 hM hM' hS6 hR6 hD6 h80 h81
      by_cases hd:(D.length:Int) > 0
      ·have hdd:decide ((D.length:Int) > 0)=true:=decide_eq_true hd
       gi_wp2
       obtain⟨g4,rfl⟩:=hv4 hd
       exact⟨RH.out,RuSt.of_mid MH.out (by rw[hln,hps];exact SH.out.four) (by rw[hln];omega) HBl.out (fun r' hr'=>by
        have hr2:places s=pre++x::r':=by rw[hr'];simp
        have:=H9.out _ hr2
        rw[HG3.out _ _ _ L2 _ trivial HL2.out hb hd,←List.append_assoc] at this
        rw[hln,HN1.out]
        exact this)⟩
      ·have hdd:decide ((D.length:Int) > 0)=false:=decide_eq_false hd
       have h42d:=SH.out.k4.cell 2
       have f42d:=SH.out.k4.frozen 2
       have h43d:=SH.out.k4.cell 3
       have f43d:=SH.out.k4.frozen 3
       have h71:=SH.out.k7.cell 1
       have h50:=SH.out.k5.cell 0
       dsimp only[List.getElem?_cons_zero,List.getElem?_cons_succ] at h42d h43d h71 h50
       have hpe:=posAt_le s N1
       rw[HPn.out] at hpe
       have hcx:Hid ((((x.1:Nat):Int)+(kk:Nat))=((posAt s N1:Nat):Int)):=Lib.hid (by rw[HPn.out];omega)
       gi_upto_region 19 with fail
       rw[hcx.out]
       have mi:=(MH.out.set4 (by omega) 2 (.int .i64 (posAt s N1:Nat))).set4 (by omega) 3 (.int .i64 (N1:Nat))
       have si:=(SH.out.set4 (by omega) (by omega) (by omega) (by omega) (by omega) 2 (.int .i64 (posAt s N1:Nat))).set4 (by omega) (by omega) (by omega) (by omega) (by omega) 3 (.int .i64 (N1:Nat))
       have ri:Round (KpN (w1.heap.size+2) s) W3.heap.size Ie V0 ((Vh.setCell ⟨w1.heap.size,2,none⟩ (.int .i64 (posAt s N1:Nat))).setCell ⟨w1.heap.size,3,none⟩ (.int .i64 (N1:Nat))):=rd_trans RH.out (rd_trans (rd_set hA (by simp only;omega) _) (rd_set hA (by simp only;omega) _))
       simp only[List.set_cons_zero,List.set_cons_succ] at si
       generalize ((Vh.setCell ⟨w1.heap.size,2,none⟩ (.int .i64 (posAt s N1:Nat))).setCell ⟨w1.heap.size,3,none⟩ (.int .i64 (N1:Nat)))=Vi at *
       clear h42d f42d h43d f43d h71 h50 hcx MH SH RH
       have x3:=si.k3.cell 0
       have y0:=si.k4.cell 0
       have y1:=si.k4.cell 1
       have y2:=si.k4.cell 2
       have y3:=si.k4.cell 3
       have y4:=si.k4.cell 4
       dsimp only[List.getElem?_cons_zero,List.getElem?_cons_succ] at x3 y0 y1 y2 y3 y4
       have hD0:Hid (D=[]):=Lib.hid (List.eq_nil_of_length_eq_zero (by omega))
       have hg4:∀r',places s=(pre++[x])++r'→(xs.map (fun y:RunM=>y.it)++(if f<pre.length then [(f,pre.length,sc)] else [])++[(pre.length,N1,D)])++goS T s r' (pre++[x]).length N1 (allL T.scripts.length)=runsL T s:=fun r' hr'=>by
        have hr2:places s=pre++x::r':=by rw[hr'];simp
        have:=H9.out _ hr2
        rw[HG4.out _ _ _ L2 _ trivial HL2.out (by omega) (by omega)] at this
        rw[hln,hD0.out,List.append_assoc,List.append_assoc,HN1.out]
        exact this
       have hpf:(xs.map (fun y:RunM=>y.it)++(if f<pre.length then [(f,pre.length,sc)] else [])++[(pre.length,N1,D)]) <+: runsL T s:=⟨_,hg4 r (by rw[hpl];simp)⟩
       obtain⟨fn,tm,ag,bo,hy,hR⟩:=Mid.yield (Jx:=Jx) (l:=l) (m:=n - 3) rfl HJ.out HY.out mi (fun _=>False) (fun k hk=>hk.elim) (fun _ _ _ _ h=>h) pre.length N1 hpf
       rw[hps] at hy
       have HPf:=Lib.hid hpf
       have SI:=Lib.hid si
       have RI:=Lib.hid ri
       have HG4':=Lib.hid hg4
       clear hpf si ri mi hg4
       gi_wp2_with fail
       refine⟨fun _=>by omega,RoundIn.mono (RoundIn.more (F:=Fence.wide.inRound l') hR (by omega)) ?_⟩
       clear hR hy
       rintro e Vj (⟨rfl,hm6,It2,hI2b,hr6⟩ | ⟨rfl,hk6,Itx,xsx,hx1,hx2,hx3⟩)
       ·have SJ:=Lib.hid (SI.out.four.its (fun k hk hlt=>hr6.its k (hI2b k (by rcases hk with h | h | h | h <;> subst h <;> simp)) hlt))
        have RJ:=Lib.hid (rd_trans RI.out (rd_yield hA (by omega) (hI2b _ (by simp)) hr6))
        have MJ:=Lib.hid hm6
        clear hm6 hI2b hr6 x3 y0 y1 y2 y3 y4
        have hlj:=MJ.out.low
        have d1:=HC1.out Vj hlj
        have HAl:=Lib.hid (all_any T bb Bk Vj.drew ((HBk.out Vj hlj).below ((Below.refl _ _).drew)) HF.out)
        clear hlj
        have j2:=SJ.out.k4.cell 2
        have j3:=SJ.out.k4.cell 3
        dsimp only[List.getElem?_cons_zero,List.getElem?_cons_succ] at j2 j3
        have HJ21:∀(g5 c5:Nat) (Vk:World),Vk.ownsRow Vj.heap.size 3 1 (.slice (some ⟨g5,0,none⟩) (allL T.scripts.length).length c5) (allL T.scripts.length).length (iV (allL T.scripts.length))→Below Vj.heap.size Vj Vk→Round (KpN (w1.heap.size+2) s) W3.heap.size Ie V0 (((((Vk.setCell ⟨w1.heap.size,0,none⟩ (.int .i64 (posAt s N1:Nat))).setCell ⟨w1.heap.size,1,none⟩ (.int .i64 (N1:Nat))).setCell ⟨w1.heap.size,2,none⟩ (.int .i64 0)).setCell ⟨w1.heap.size,3,none⟩ (.int .i64 0)).setCell ⟨w1.heap.size,4,none⟩ (.slice (some ⟨g5,0,none⟩) (allL T.scripts.length).length c5))∧RuSt T s W.heap.size W.heap.size w1.heap.size (w1.heap.size+1) (w1.heap.size+2) l ((((((Vk.setCell ⟨w1.heap.size,0,none⟩ (.int .i64 (posAt s N1:Nat))).setCell ⟨w1.heap.size,1,none⟩ (.int .i64 (N1:Nat))).setCell ⟨w1.heap.size,2,none⟩ (.int .i64 0)).setCell ⟨w1.heap.size,3,none⟩ (.int .i64 0)).setCell ⟨w1.heap.size,4,none⟩ (.slice (some ⟨g5,0,none⟩) (allL T.scripts.length).length c5))).heap.size J (pre++[x]) w (((((Vk.setCell ⟨w1.heap.size,0,none⟩ (.int .i64 (posAt s N1:Nat))).setCell ⟨w1.heap.size,1,none⟩ (.int .i64 (N1:Nat))).setCell ⟨w1.heap.size,2,none⟩ (.int .i64 0)).setCell ⟨w1.heap.size,3,none⟩ (.int .i64 0)).setCell ⟨w1.heap.size,4,none⟩ (.slice (some ⟨g5,0,none⟩) (allL T.scripts.length).length c5)):=by
         intro g5 c5 Vk ho5 hB5
         refine⟨rd_trans RJ.out (rd_trans (rd_below hA hB5) (rd_trans (rd_trans (rd_trans (rd_trans (rd_set hA (by simp only;omega) _) (rd_set hA (by simp only;omega) _)) (rd_set hA (by simp only;omega) _)) (rd_set hA (by simp only;omega) _)) (rd_set hA (by simp only;omega) _))),?_⟩
         have sk:=((((((SJ.out.below hB5).set4 (by omega) (by omega) (by omega) 0 (.int .i64 (posAt s N1:Nat))).set4 (by omega) (by omega) (by omega) 1 (.int .i64 (N1:Nat))).set4 (by omega) (by omega) (by omega) 2 (.int .i64 0)).set4 (by omega) (by omega) (by omega) 3 (.int .i64 0)).set4 (by omega) (by omega) (by omega) 4 (.slice (some ⟨g5,0,none⟩) (allL T.scripts.length).length c5))
         simp only[List.set_cons_zero,List.set_cons_succ] at sk
         exact RuSt.of_mid ((((((MJ.out.fresh hB5 (Nat.le_refl _) ho5 (fun g n c e=>own_atV ho5 e)).set4 (by omega) 0 _).set4 (by omega) 1 _).set4 (by omega) 2 _).set4 (by omega) 3 _).set4 (by omega) 4 _) (by rw[hln];exact sk) (by rw[hln];exact Nat.le_refl _) (by rw[allL_len];exact Nat.le_refl _) HG4'.out
        gi_upto_region 20 with fail
        refine wpIn_region_any (by kernel_rfl) ?_
        change wpAnyIn _ _ _ _ _ _ _ _ _ (World.drew _)
        refine wpAnyIn_ready (rs:=[0,2]) (by kernel_rfl) (by simp) (AllReadyIn.cons rfl (fun K hK=>?_) (AllReadyIn.cons rfl (fun K hK=>?_) AllReadyIn.nil))
        ·go_simp
         refine hK _ _ ?_
         clear hK K
         refine wpAnyIn_ready (rs:=[1,2]) (by kernel_rfl) (by simp) (AllReadyIn.cons rfl (fun K hK=>?_) (AllReadyIn.cons rfl (fun K hK=>?_) AllReadyIn.nil))
         ·go_simp
          refine hK _ _ ?_
          clear hK K
          refine wpAnyIn_ready (rs:=[2]) (by kernel_rfl) (by simp) (AllReadyIn.cons rfl (fun K hK=>?_) AllReadyIn.nil)
          go_simp
          refine hK _ _ ?_
          clear hK K
          refine wpAnyIn_ready (rs:=[3]) (by kernel_rfl) (by simp) (AllReadyIn.cons rfl (fun K hK=>?_) AllReadyIn.nil)
          go_simp
          refine⟨trivial,fun _=>by omega,(callsIn_wide.2 HAl.out).mono ?_⟩
          rintro e Vk ⟨g5,c5,rfl,ho5,hB5⟩
          have hSg:=(SJ.out.below ((Below.refl _ _).drew)).below hB5
          have q0:=hSg.k4.cell 0
          have q1:=hSg.k4.cell 1
          have q2:=hSg.k4.cell 2
          have q3:=hSg.k4.cell 3
          have q4:=hSg.k4.cell 4
          have r0:=hSg.k4.frozen 0
          have r1:=hSg.k4.frozen 1
          have r2:=hSg.k4.frozen 2
          have r3:=hSg.k4.frozen 3
          have r4:=hSg.k4.frozen 4
          dsimp only[List.getElem?_cons_zero,List.getElem?_cons_succ] at q0 q1 q2 q3 q4
          have HQ:=Lib.hid (And.intro ho5 hB5)
          clear ho5 hB5 hSg
          refine hK _ _ ?_
          clear hK K
          refine wpAnyIn_ready (rs:=[4]) (by kernel_rfl) (by simp) (AllReadyIn.cons rfl (fun K hK=>?_) AllReadyIn.nil)
          go_simp
          refine hK _ _ ?_
          clear hK K
          refine wpAnyIn_ready (rs:=[5]) (by kernel_rfl) (by simp) (AllReadyIn.cons rfl (fun K hK=>?_) AllReadyIn.nil)
          go_simp
          refine hK _ _ ?_
          clear hK K
          refine wpAnyIn_done (by kernel_rfl) ?_ _
          exact HJ21 g5 c5 Vk HQ.out.1 (((Below.refl _ Vj).drew).trans HQ.out.2)
         ·go_simp
          refine hK _ _ ?_
          clear hK K
          refine wpAnyIn_ready (rs:=[1,3]) (by kernel_rfl) (by simp) (AllReadyIn.cons rfl (fun K hK=>?_) (AllReadyIn.cons rfl (fun K hK=>?_) AllReadyIn.nil))
          ·go_simp
           refine hK _ _ ?_
           clear hK K
           refine wpAnyIn_ready (rs:=[3]) (by kernel_rfl) (by simp) (AllReadyIn.cons rfl (fun K hK=>?_) AllReadyIn.nil)
           go_simp
           refine⟨trivial,fun _=>by omega,(callsIn_wide.2 HAl.out).mono ?_⟩
           rintro e Vk ⟨g5,c5,rfl,ho5,hB5⟩
           have hSg:=(SJ.out.below ((Below.refl _ _).drew)).below hB5
           have q0:=hSg.k4.cell 0
           have q1:=hSg.k4.cell 1
           have q2:=hSg.k4.cell 2
           have q3:=hSg.k4.cell 3
           have q4:=hSg.k4.cell 4
           have r0:=hSg.k4.frozen 0
           have r1:=hSg.k4.frozen 1
           have r2:=hSg.k4.frozen 2
           have r3:=hSg.k4.frozen 3
           have r4:=hSg.k4.frozen 4
           dsimp only[List.getElem?_cons_zero,List.getElem?_cons_succ] at q0 q1 q2 q3 q4
           have HQ:=Lib.hid (And.intro ho5 hB5)
           clear ho5 hB5 hSg
           refine hK _ _ ?_
           clear hK K
           refine wpAnyIn_ready (rs:=[4]) (by kernel_rfl) (by simp) (AllReadyIn.cons rfl (fun K hK=>?_) AllReadyIn.nil)
           go_simp
           refine hK _ _ ?_
           clear hK K
           refine wpAnyIn_ready (rs:=[5]) (by kernel_rfl) (by simp) (AllReadyIn.cons rfl (fun K hK=>?_) AllReadyIn.nil)
           go_simp
           refine hK _ _ ?_
           clear hK K
           refine wpAnyIn_done (by kernel_rfl) ?_ _
           exact HJ21 g5 c5 Vk HQ.out.1 (((Below.refl _ Vj).drew).trans HQ.out.2)
          ·go_simp
           refine⟨trivial,fun _=>by omega,(callsIn_wide.2 HAl.out).mono ?_⟩
           rintro e Vk ⟨g5,c5,rfl,ho5,hB5⟩
           have hSg:=(SJ.out.below ((Below.refl _ _).drew)).below hB5
           have q0:=hSg.k4.cell 0
           have q1:=hSg.k4.cell 1
           have q2:=hSg.k4.cell 2
           have q3:=hSg.k4.cell 3
           have q4:=hSg.k4.cell 4
           have r0:=hSg.k4.frozen 0
           have r1:=hSg.k4.frozen 1
           have r2:=hSg.k4.frozen 2
           have r3:=hSg.k4.frozen 3
           have r4:=hSg.k4.frozen 4
           dsimp only[List.getElem?_cons_zero,List.getElem?_cons_succ] at q0 q1 q2 q3 q4
           have HQ:=Lib.hid (And.intro ho5 hB5)
           clear ho5 hB5 hSg
           refine hK _ _ ?_
           clear hK K
           refine wpAnyIn_ready (rs:=[1]) (by kernel_rfl) (by simp) (AllReadyIn.cons rfl (fun K hK=>?_) AllReadyIn.nil)
           go_simp
           refine hK _ _ ?_
           clear hK K
           refine wpAnyIn_ready (rs:=[4]) (by kernel_rfl) (by simp) (AllReadyIn.cons rfl (fun K hK=>?_) AllReadyIn.nil)
           go_simp
           refine hK _ _ ?_
           clear hK K
           refine wpAnyIn_ready (rs:=[5]) (by kernel_rfl) (by simp) (AllReadyIn.cons rfl (fun K hK=>?_) AllReadyIn.nil)
           go_simp
           refine hK _ _ ?_
           clear hK K
           refine wpAnyIn_done (by kernel_rfl) ?_ _
           exact HJ21 g5 c5 Vk HQ.out.1 (((Below.refl _ Vj).drew).trans HQ.out.2)
        ·go_simp
         refine hK _ _ ?_
         clear hK K
         refine wpAnyIn_ready (rs:=[0,3]) (by kernel_rfl) (by simp) (AllReadyIn.cons rfl (fun K hK=>?_) (AllReadyIn.cons rfl (fun K hK=>?_) AllReadyIn.nil))
         ·go_simp
          refine hK _ _ ?_
          clear hK K
          refine wpAnyIn_ready (rs:=[1,3]) (by kernel_rfl) (by simp) (AllReadyIn.cons rfl (fun K hK=>?_) (AllReadyIn.cons rfl (fun K hK=>?_) AllReadyIn.nil))
          ·go_simp
           refine hK _ _ ?_
           clear hK K
           refine wpAnyIn_ready (rs:=[3]) (by kernel_rfl) (by simp) (AllReadyIn.cons rfl (fun K hK=>?_) AllReadyIn.nil)
           go_simp
           refine⟨trivial,fun _=>by omega,(callsIn_wide.2 HAl.out).mono ?_⟩
           rintro e Vk ⟨g5,c5,rfl,ho5,hB5⟩
           have hSg:=(SJ.out.below ((Below.refl _ _).drew)).below hB5
           have q0:=hSg.k4.cell 0
           have q1:=hSg.k4.cell 1
           have q2:=hSg.k4.cell 2
           have q3:=hSg.k4.cell 3
           have q4:=hSg.k4.cell 4
           have r0:=hSg.k4.frozen 0
           have r1:=hSg.k4.frozen 1
           have r2:=hSg.k4.frozen 2
           have r3:=hSg.k4.frozen 3
           have r4:=hSg.k4.frozen 4
           dsimp only[List.getElem?_cons_zero,List.getElem?_cons_succ] at q0 q1 q2 q3 q4
           have HQ:=Lib.hid (And.intro ho5 hB5)
           clear ho5 hB5 hSg
           refine hK _ _ ?_
           clear hK K
           refine wpAnyIn_ready (rs:=[4]) (by kernel_rfl) (by simp) (AllReadyIn.cons rfl (fun K hK=>?_) AllReadyIn.nil)
           go_simp
           refine hK _ _ ?_
           clear hK K
           refine wpAnyIn_ready (rs:=[5]) (by kernel_rfl) (by simp) (AllReadyIn.cons rfl (fun K hK=>?_) AllReadyIn.nil)
           go_simp
           refine hK _ _ ?_
           clear hK K
           refine wpAnyIn_done (by kernel_rfl) ?_ _
           exact HJ21 g5 c5 Vk HQ.out.1 (((Below.refl _ Vj).drew).trans HQ.out.2)
          ·go_simp
           refine⟨trivial,fun _=>by omega,(callsIn_wide.2 HAl.out).mono ?_⟩
           rintro e Vk ⟨g5,c5,rfl,ho5,hB5⟩
           have hSg:=(SJ.out.below ((Below.refl _ _).drew)).below hB5
           have q0:=hSg.k4.cell 0
           have q1:=hSg.k4.cell 1
           have q2:=hSg.k4.cell 2
           have q3:=hSg.k4.cell 3
           have q4:=hSg.k4.cell 4
           have r0:=hSg.k4.frozen 0
           have r1:=hSg.k4.frozen 1
           have r2:=hSg.k4.frozen 2
           have r3:=hSg.k4.frozen 3
           have r4:=hSg.k4.frozen 4
           dsimp only[List.getElem?_cons_zero,List.getElem?_cons_succ] at q0 q1 q2 q3 q4
           have HQ:=Lib.hid (And.intro ho5 hB5)
           clear ho5 hB5 hSg
           refine hK _ _ ?_
           clear hK K
           refine wpAnyIn_ready (rs:=[1]) (by kernel_rfl) (by simp) (AllReadyIn.cons rfl (fun K hK=>?_) AllReadyIn.nil)
           go_simp
           refine hK _ _ ?_
           clear hK K
           refine wpAnyIn_ready (rs:=[4]) (by kernel_rfl) (by simp) (AllReadyIn.cons rfl (fun K hK=>?_) AllReadyIn.nil)
           go_simp
           refine hK _ _ ?_
           clear hK K
           refine wpAnyIn_ready (rs:=[5]) (by kernel_rfl) (by simp) (AllReadyIn.cons rfl (fun K hK=>?_) AllReadyIn.nil)
           go_simp
           refine hK _ _ ?_
           clear hK K
           refine wpAnyIn_done (by kernel_rfl) ?_ _
           exact HJ21 g5 c5 Vk HQ.out.1 (((Below.refl _ Vj).drew).trans HQ.out.2)
         ·go_simp
          refine⟨trivial,fun _=>by omega,(callsIn_wide.2 HAl.out).mono ?_⟩
          rintro e Vk ⟨g5,c5,rfl,ho5,hB5⟩
          have hSg:=(SJ.out.below ((Below.refl _ _).drew)).below hB5
          have q0:=hSg.k4.cell 0
          have q1:=hSg.k4.cell 1
          have q2:=hSg.k4.cell 2
          have q3:=hSg.k4.cell 3
          have q4:=hSg.k4.cell 4
          have r0:=hSg.k4.frozen 0
          have r1:=hSg.k4.frozen 1
          have r2:=hSg.k4.frozen 2
          have r3:=hSg.k4.frozen 3
          have r4:=hSg.k4.frozen 4
          dsimp only[List.getElem?_cons_zero,List.getElem?_cons_succ] at q0 q1 q2 q3 q4
          have HQ:=Lib.hid (And.intro ho5 hB5)
          clear ho5 hB5 hSg
          refine hK _ _ ?_
          clear hK K
          refine wpAnyIn_ready (rs:=[0]) (by kernel_rfl) (by simp) (AllReadyIn.cons rfl (fun K hK=>?_) AllReadyIn.nil)
          go_simp
          refine hK _ _ ?_
          clear hK K
          refine wpAnyIn_ready (rs:=[1]) (by kernel_rfl) (by simp) (AllReadyIn.cons rfl (fun K hK=>?_) AllReadyIn.nil)
          go_simp
          refine hK _ _ ?_
          clear hK K
          refine wpAnyIn_ready (rs:=[4]) (by kernel_rfl) (by simp) (AllReadyIn.cons rfl (fun K hK=>?_) AllReadyIn.nil)
          go_simp
          refine hK _ _ ?_
          clear hK K
          refine wpAnyIn_ready (rs:=[5]) (by kernel_rfl) (by simp) (AllReadyIn.cons rfl (fun K hK=>?_) AllReadyIn.nil)
          go_simp
          refine hK _ _ ?_
          clear hK K
          refine wpAnyIn_done (by kernel_rfl) ?_ _
          exact HJ21 g5 c5 Vk HQ.out.1 (((Below.refl _ Vj).drew).trans HQ.out.2)
       ·have H6:=Lib.hid (And.intro hk6 (And.intro hx1 (And.intro hx2 hx3)))
        clear hk6 hx1 hx2 hx3
        gi_wp2
        exact⟨RI.out.others.trans ⟨H6.out.1.size,fun k o hk ho hc=>H6.out.1.same k o (by omega) ho hc⟩,rfl,Itx,xsx,H6.out.2.1,by rw[H6.out.2.2.1];exact HPf.out,H6.out.2.2.2⟩
     refine wpIn_region_any (by kernel_rfl) ?_
     change wpAnyIn _ _ _ _ _ _ _ _ _ (World.drew _)
     have HCl:=Lib.hid (cloneN_any o d D Vf.drew (hD6.below ((Below.refl _ _).drew)) (Nat.le_trans HBl.out HF.out.l0) (fun a ha=>(HND.out a ha).2.2))
     refine wpAnyIn_ready (rs:=[0,1]) (by kernel_rfl) (by simp) (AllReadyIn.cons rfl (fun K hK=>?_) (AllReadyIn.cons rfl (fun K hK=>?_) AllReadyIn.nil))
     ·go_simp
      refine hK _ _ ?_
      clear hK K
      refine wpAnyIn_ready (rs:=[1]) (by kernel_rfl) (by simp) (AllReadyIn.cons rfl (fun K hK=>?_) AllReadyIn.nil)
      go_simp
      refine hK _ _ ?_
      clear hK K
      refine wpAnyIn_ready (rs:=[2]) (by kernel_rfl) (by simp) (AllReadyIn.cons rfl (fun K hK=>?_) AllReadyIn.nil)
      go_simp
      refine⟨trivial,fun _=>by omega,(callsIn_wide.2 HCl.out).mono ?_⟩
      rintro e Vg ⟨oo4,c4,rfl,ho4,hv4,hB4⟩
      have hSg:=(hS6.below ((Below.refl _ _).drew)).below hB4
      have g80:=hSg.k8.cell 0
      have g81:=hSg.k8.cell 1
      have q0:=hSg.k4.cell 0
      have q1:=hSg.k4.cell 1
      have q2:=hSg.k4.cell 2
      have q3:=hSg.k4.cell 3
      have q4:=hSg.k4.cell 4
      have r0:=hSg.k4.frozen 0
      have r1:=hSg.k4.frozen 1
      have r2:=hSg.k4.frozen 2
      have r3:=hSg.k4.frozen 3
      have r4:=hSg.k4.frozen 4
      dsimp only[List.getElem?_cons_zero,List.getElem?_cons_succ] at g80 g81 q0 q1 q2 q3 q4
      have HQ:=Lib.hid (And.intro ho4 (And.intro hv4 hB4))
      clear ho4 hv4 hB4 hSg
      refine hK _ _ ?_
      clear hK K
      refine wpAnyIn_ready (rs:=[3]) (by kernel_rfl) (by simp) (AllReadyIn.cons rfl (fun K hK=>?_) AllReadyIn.nil)
      go_simp
      refine hK _ _ ?_
      clear hK K
      refine wpAnyIn_ready (rs:=[4]) (by kernel_rfl) (by simp) (AllReadyIn.cons rfl (fun K hK=>?_) AllReadyIn.nil)
      go_simp
      refine hK _ _ ?_
      clear hK K
      refine wpAnyIn_done (by kernel_rfl) ?_ _
      exact HJ17 oo4 c4 Vg HQ.out.1 HQ.out.2.1 (((Below.refl _ Vf).drew).trans HQ.out.2.2) _ _ _ _ _ _ _ _ _ _ _ _ _ _ _ _ _ _ _ _ _ _ _ _ _ _ _ _ _ _ _ _ _ _ _ _ _ _ _ _ _ _ _ _ _ _ _ _ _ _ _ _ _ _ _ _ _ _ _ _ _ _ _ _ _ _ _ _ _ _ _ _ _ _ _ _ _ _ _ _ _ _
     ·go_simp
      refine hK _ _ ?_
      clear hK K
      refine wpAnyIn_ready (rs:=[0,2]) (by kernel_rfl) (by simp) (AllReadyIn.cons rfl (fun K hK=>?_) (AllReadyIn.cons rfl (fun K hK=>?_) AllReadyIn.nil))
      ·go_simp
       refine hK _ _ ?_
       clear hK K
       refine wpAnyIn_ready (rs:=[2]) (by kernel_rfl) (by simp) (AllReadyIn.cons rfl (fun K hK=>?_) AllReadyIn.nil)
       go_simp
       refine⟨trivial,fun _=>by omega,(callsIn_wide.2 HCl.out).mono ?_⟩
       rintro e Vg ⟨oo4,c4,rfl,ho4,hv4,hB4⟩
       have hSg:=(hS6.below ((Below.refl _ _).drew)).below hB4
       have g80:=hSg.k8.cell 0
       have g81:=hSg.k8.cell 1
       have q0:=hSg.k4.cell 0
       have q1:=hSg.k4.cell 1
       have q2:=hSg.k4.cell 2
       have q3:=hSg.k4.cell 3
       have q4:=hSg.k4.cell 4
       have r0:=hSg.k4.frozen 0
       have r1:=hSg.k4.frozen 1
       have r2:=hSg.k4.frozen 2
       have r3:=hSg.k4.frozen 3
       have r4:=hSg.k4.frozen 4
       dsimp only[List.getElem?_cons_zero,List.getElem?_cons_succ] at g80 g81 q0 q1 q2 q3 q4
       have HQ:=Lib.hid (And.intro ho4 (And.intro hv4 hB4))
       clear ho4 hv4 hB4 hSg
       refine hK _ _ ?_
       clear hK K
       refine wpAnyIn_ready (rs:=[3]) (by kernel_rfl) (by simp) (AllReadyIn.cons rfl (fun K hK=>?_) AllReadyIn.nil)
       go_simp
       refine hK _ _ ?_
       clear hK K
       refine wpAnyIn_ready (rs:=[4]) (by kernel_rfl) (by simp) (AllReadyIn.cons rfl (fun K hK=>?_) AllReadyIn.nil)
       go_simp
       refine hK _ _ ?_
       clear hK K
       refine wpAnyIn_done (by kernel_rfl) ?_ _
       exact HJ17 oo4 c4 Vg HQ.out.1 HQ.out.2.1 (((Below.refl _ Vf).drew).trans HQ.out.2.2) _ _ _ _ _ _ _ _ _ _ _ _ _ _ _ _ _ _ _ _ _ _ _ _ _ _ _ _ _ _ _ _ _ _ _ _ _ _ _ _ _ _ _ _ _ _ _ _ _ _ _ _ _ _ _ _ _ _ _ _ _ _ _ _ _ _ _ _ _ _ _ _ _ _ _ _ _ _ _ _ _ _
      ·go_simp
       refine⟨trivial,fun _=>by omega,(callsIn_wide.2 HCl.out).mono ?_⟩
       rintro e Vg ⟨oo4,c4,rfl,ho4,hv4,hB4⟩
       have hSg:=(hS6.below ((Below.refl _ _).drew)).below hB4
       have g80:=hSg.k8.cell 0
       have g81:=hSg.k8.cell 1
       have q0:=hSg.k4.cell 0
       have q1:=hSg.k4.cell 1
       have q2:=hSg.k4.cell 2
       have q3:=hSg.k4.cell 3
       have q4:=hSg.k4.cell 4
       have r0:=hSg.k4.frozen 0
       have r1:=hSg.k4.frozen 1
       have r2:=hSg.k4.frozen 2
       have r3:=hSg.k4.frozen 3
       have r4:=hSg.k4.frozen 4
       dsimp only[List.getElem?_cons_zero,List.getElem?_cons_succ] at g80 g81 q0 q1 q2 q3 q4
       have HQ:=Lib.hid (And.intro ho4 (And.intro hv4 hB4))
       clear ho4 hv4 hB4 hSg
       refine hK _ _ ?_
       clear hK K
       refine wpAnyIn_ready (rs:=[0]) (by kernel_rfl) (by simp) (AllReadyIn.cons rfl (fun K hK=>?_) AllReadyIn.nil)
       go_simp
       refine hK _ _ ?_
       clear hK K
       refine wpAnyIn_ready (rs:=[3]) (by kernel_rfl) (by simp) (AllReadyIn.cons rfl (fun K hK=>?_) AllReadyIn.nil)
       go_simp
       refine hK _ _ ?_
       clear hK K
       refine wpAnyIn_ready (rs:=[4]) (by kernel_rfl) (by simp) (AllReadyIn.cons rfl (fun K hK=>?_) AllReadyIn.nil)
       go_simp
       refine hK _ _ ?_
       clear hK K
       refine wpAnyIn_done (by kernel_rfl) ?_ _
       exact HJ17 oo4 c4 Vg HQ.out.1 HQ.out.2.1 (((Below.refl _ Vf).drew).trans HQ.out.2.2) _ _ _ _ _ _ _ _ _ _ _ _ _ _ _ _ _ _ _ _ _ _ _ _ _ _ _ _ _ _ _ _ _ _ _ _ _ _ _ _ _ _ _ _ _ _ _ _ _ _ _ _ _ _ _ _ _ _ _ _ _ _ _ _ _ _ _ _ _ _ _ _ _ _ _ _ _ _ _ _ _ _
    have x3:=hsix.k3.cell 0
    have y0:=hsix.k4.cell 0
    have y1:=hsix.k4.cell 1
    have y2:=hsix.k4.cell 2
    have y3:=hsix.k4.cell 3
    have y4:=hsix.k4.cell 4
    have z0:=hsix.k8.cell 0
    have z1:=hsix.k8.cell 1
    dsimp only[List.getElem?_cons_zero,List.getElem?_cons_succ] at x3 y0 y1 y2 y3 y4 z0 z1
    have HMid:=Lib.hid hmid
    have HSx:=Lib.hid hsix
    have HRde:=Lib.hid hrde
    have HRDe:=Lib.hid hrDe
    have HK:=Lib.hid HJ16
    have HK16:=Lib.hid hK16
    clear hmid hsix hrde hrDe HJ16 hK16
    by_cases hfn:f=pre.length
    ·subst hfn
     rw[hps] at y0
     gi_wp2
     refine⟨(fun _ h=>by cases h),?_⟩
     gi_wp2
     apply HK.out Ve _ _ _ (by rw[if_neg (by omega),List.append_nil];exact HMid.out) ⟨_,_,_,_,_,HSx.out⟩ HRde.out HRDe.out (by omega)
    ·have hfx:decide ((f:Int)=(pre.length:Nat))=false:=decide_eq_false (by omega)
     have hfx2:¬ (f:Int)=(pre.length:Nat):=by omega
     have hfl:f<pre.length:=by omega
     have hpf:(xs.map (fun y:RunM=>y.it))++[(f,pre.length,sc)] <+: runsL T s:=by
      obtain⟨q,hq⟩:=HG5.out pre.length f sc L2 r trivial HL2.out hb
      have hH9:=H9.out _ hpl
      rw[hq,if_pos hfl,←List.append_assoc] at hH9
      exact⟨q,hH9⟩
     obtain⟨fn,tm,ag,bo,hy,hR⟩:=Mid.yield (Jx:=Jx) (l:=l) (m:=n - 3) rfl HJ.out HY.out HMid.out (fun k=>k=V.heap.size∨k=V0.heap.size∨∃a,o=some a∧k=a.block) (fun k hk=>by
      rcases hk with rfl | rfl | ⟨a,ha,rfl⟩
      ·omega
      ·omega
      ·have:=hoE a ha;omega) (fun g3 n3 c3 e hk=>by
      simp only[Value.slice.injEq,Option.some.injEq,Addr.mk.injEq,true_and,and_true] at e
      obtain⟨rfl,_,_⟩:=e
      have hlt:=own_lt HOw.out
      rcases hk with rfl | rfl | ⟨a,ha,rfl⟩
      ·exact own_ne HOw.out HSix.out.k7 (by decide) rfl
      ·exact own_ne HOw.out HSix.out.k8 (by decide) rfl
      ·have:=hoE a ha;omega) f pre.length hpf
     rw[hps] at hy
     have HPf:=Lib.hid hpf
     clear hpf
     gi_wp2_with fail
     refine⟨fun _=>by omega,RoundIn.mono (RoundIn.more (F:=Fence.wide.inRound l') hR (by omega)) ?_⟩
     clear hR hy
     rintro e V6 (⟨rfl,hm6,It2,hI2b,hr6⟩ | ⟨rfl,hk6,Itx,xsx,hx1,hx2,hx3⟩)
     ·have H6:=Lib.hid (And.intro hm6 (And.intro hI2b hr6))
      clear hm6 hI2b hr6
      gi_wp2
      apply HK.out V6 _ _ _ (by rw[if_pos hfl];exact H6.out.1) ⟨_,_,_,_,_,HSx.out.its (fun k hk hlt=>H6.out.2.2.its k (H6.out.2.1 k (by rcases hk with h | h | h | h | h | h <;> subst h <;> simp)) hlt)⟩ (rd_trans HRde.out (rd_yield hA (by omega) (H6.out.2.1 _ (by simp)) H6.out.2.2)) (Rd.mono HRDe.out (fun a v hv hbb=>hbb.elim fun b hbe=>(World.cell?_of_block (H6.out.2.2.its a.block (H6.out.2.1 _ (Or.inr (Or.inr (Or.inr (Or.inr (Or.inr (Or.inr ⟨b,hbe⟩))))))) (World.block_lt_of_cell? _ _ hv))).trans hv)) (by have:=H6.out.2.2.walks.size;omega)
     ·have H6:=Lib.hid (And.intro hk6 (And.intro hx1 (And.intro hx2 hx3)))
      clear hk6 hx1 hx2 hx3
      gi_wp2
      exact⟨HRde.out.others.trans ⟨H6.out.1.size,fun k o hk ho hc=>H6.out.1.same k o (by omega) ho hc⟩,rfl,Itx,xsx,H6.out.2.1,by rw[H6.out.2.2.1];exact HPf.out,H6.out.2.2.2⟩
 case done=>
  rintro D Ie xs0 W4 hA hD rfl hI hK
  obtain⟨i1,i2,i3,i4,It,xs,X0,g',c',f,sc,t1,t2,h1,⟨h0,hZ⟩,h2,h3,⟨h41,h42,h43,h44⟩,h5,h6,h7,h8,h9⟩:=hI
  have h9n:=h9 [] (by simp)
  rw[goS] at h9n
  have fr:FourB W.heap.size w1.heap.size (w1.heap.size+1) (w1.heap.size+2) _ _ _ _ W4:=⟨i2,h7,i3,i4⟩
  have hmid:Mid W.heap.size W.heap.size w1.heap.size (w1.heap.size+1) (w1.heap.size+2) W4.heap.size J w (.slice (some ⟨g',0,none⟩) sc.length c') sc (xs.map (fun y:RunM=>y.it)) W4:=
   ⟨i1,It,xs,X0,h1,h2,h3,⟨h41,h42,h43,h44⟩,rfl,h8,fun g3 n3 c3 e hk=>by simp only[Value.slice.injEq,Option.some.injEq,Addr.mk.injEq,true_and,and_true] at e;exact h0 (by rw[e.1];exact hk),hZ⟩
  have d2:=HC2.out W4 i1
  have hpl:(posAt s f<s.size)↔f<(places s).length:=posAt_lt
  have hpe:=posAt_end s
  have hpf:=posAt_le s f
  have hql:(places s).length≤s.size:=scan_any_len
  have x3:=fr.k3.cell 0
  have y0:=fr.k4.cell 0
  have y1:=fr.k4.cell 1
  have y2:=fr.k4.cell 2
  have y3:=fr.k4.cell 3
  have y4:=fr.k4.cell 4
  have z2:=fr.k4.frozen 2
  have z3:=fr.k4.frozen 3
  have z5:=fr.k5.cell 0
  dsimp only[List.getElem?_cons_zero,List.getElem?_cons_succ] at x3 y0 y1 y2 y3 y4 z5
  have HMid:=Lib.hid hmid
  have HFr:=Lib.hid fr
  have H9n:=Lib.hid h9n
  have HPe:=Lib.hid hpe
  have HK:=Lib.hid hK
  have HD:=Lib.hid hD
  clear hmid fr h9n i1 i2 i3 i4 h1 h2 h3 h7 h8 h9 h41 h42 h43 h44 hpe h0 hZ hK
  by_cases hfl:f<(places s).length
  ·have hfd:posAt s f<s.size:=hpl.2 hfl
   clear hpl hpf
   have hfl2:=hfl
   gi_upto_region 23 with fail
   have mi:=(HMid.out.set4 (by omega) 2 (.int .i64 (s.size:Nat))).set4 (by omega) 3 (.int .i64 ((places s).length:Nat))
   have si:=(HFr.out.set4 (by omega) (by omega) (by omega) 2 (.int .i64 (s.size:Nat))).set4 (by omega) (by omega) (by omega) 3 (.int .i64 ((places s).length:Nat))
   have hk:((W4.setCell ⟨w1.heap.size,2,none⟩ (.int .i64 (s.size:Nat))).setCell ⟨w1.heap.size,3,none⟩ (.int .i64 ((places s).length:Nat))).heap[D]?=some (.deferred (some [])):=(Below.heap_setCell _ _ _ _ (by simp only;omega)).trans ((Below.heap_setCell _ _ _ _ (by simp only;omega)).trans HK.out)
   simp only[List.set_cons_zero,List.set_cons_succ] at si
   generalize ((W4.setCell ⟨w1.heap.size,2,none⟩ (.int .i64 (s.size:Nat))).setCell ⟨w1.heap.size,3,none⟩ (.int .i64 ((places s).length:Nat)))=Vi at *
   clear x3 y0 y1 y2 y3 y4 z2 z3 z5 HMid HFr HK
   have x3:=si.k3.cell 0
   have y0:=si.k4.cell 0
   have y1:=si.k4.cell 1
   have y2:=si.k4.cell 2
   have y3:=si.k4.cell 3
   have y4:=si.k4.cell 4
   dsimp only[List.getElem?_cons_zero,List.getElem?_cons_succ] at x3 y0 y1 y2 y3 y4
   have hN:=H9n.out
   rw[if_pos hfl2] at hN
   obtain⟨fn,tm,ag,bo,hy,hR⟩:=Mid.yield (Jx:=Jx) (l:=l) (m:=n - 3) rfl HJ.out HY.out mi (fun _=>False) (fun k hk=>hk.elim) (fun _ _ _ _ h=>h) f (places s).length (by rw[hN];exact List.prefix_refl _)
   rw[HPe.out] at hy
   have hk:=Lib.hid hk
   clear hN si mi
   gi_wp2_with fail
   refine⟨fun _=>by omega,RoundIn.mono (RoundIn.more hR (by omega)) ?_⟩
   clear hR hy
   rintro e Vj (⟨rfl,hm6,It2,hI2b,hr6⟩ | ⟨rfl,hk6,Itx,xsx,hx1,hx2,hx3⟩)
   ·have MJ:=Lib.hid hm6
    have hkj:=hr6.others.same D _ (by omega) hk.out rfl
    clear hm6 hI2b hr6 x3 y0 y1 y2 y3 y4
    gi_wp2
    refine⟨by simp,.inl ⟨_,_,rfl,run_takeDeferred hkj,?_⟩⟩
    obtain⟨It,xs,X0,h1,h2,h3,h4,h5,h6,h7,h8⟩:=MJ.out.ex
    exact⟨.tuple #[],by simp[results,Tryz.results58,go_sem],⟨_,rfl⟩,Or.inl ⟨It,xs,trivial,fun k hk=>(h1 k hk).1,by rw[h5];have:=H9n.out;rw[if_pos hfl2] at this;exact this,HJ.out.1 _ _ _ _ trivial h2 (h3.trans (Stir.putObj _ (by omega) hkj rfl))⟩⟩
   ·have hkj:=hk6.same D _ (by omega) hk.out rfl
    have H6:=Lib.hid (And.intro hx1 (And.intro hx2 hx3))
    clear hk6 hx1 hx2 hx3
    gi_wp2
    refine⟨by simp,.inl ⟨_,_,rfl,run_takeDeferred hkj,?_⟩⟩
    exact⟨.tuple #[],by simp[results,Tryz.results58,go_sem],⟨_,rfl⟩,Or.inr ⟨Itx,xsx,trivial,H6.out.1,by rw[H6.out.2.1];have:=H9n.out;rw[if_pos hfl2] at this;rw[this];exact List.prefix_refl _,HJx.out.1 _ _ _ _ trivial H6.out.2.2 (Stir.putObj _ (by omega) hkj rfl)⟩⟩
  ·have hfd:¬ posAt s f<s.size:=fun h=>hfl (hpl.1 h)
   have H9m:=Lib.hid H9n.out
   rw[if_neg hfl,List.append_nil] at H9m
   clear hpl hpf
   gi_wp2
   refine⟨by simp,.inl ⟨_,_,rfl,run_takeDeferred HK.out,?_⟩⟩
   obtain⟨It,xs,X0,h1,h2,h3,h4,h5,h6,h7,h8⟩:=HMid.out.ex
   exact⟨.tuple #[],by simp[results,Tryz.results58,go_sem],⟨_,rfl⟩,Or.inl ⟨It,xs,trivial,fun k hk=>(h1 k hk).1,by rw[h5];exact H9m.out,HJ.out.1 _ _ _ _ trivial h2 (h3.trans (Stir.putObj _ (by omega) HK.out rfl))⟩⟩
 case stop=>
  rintro D cc Ie pre W4 hA hD hpre ⟨rfl,It,xs,hx1,hx2,hx3⟩ hK
  gi_wp2
  refine⟨by simp,.inl ⟨_,_,rfl,run_takeDeferred hK,?_⟩⟩
  exact⟨.tuple #[],by simp[results,Tryz.results58,go_sem],⟨_,rfl⟩,Or.inr ⟨It,xs,trivial,hx1,hx2,HJx.out.1 _ _ _ _ trivial hx3 (Stir.putObj _ (by omega) hK rfl)⟩⟩
end Go.Proofs.YtioehfhdoohdmaaGreatDoor
