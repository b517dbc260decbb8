/- ScrA: ScrOf, ScrStop, HouseF. -/
import Derived.Test.YtioehfhdoohdmaaGreatDoorBkAB
import Derived.Test.YtioehfhdoohdmaaGreatDoorSpotA
import Derived.Sort.CutIn
import Derived.Test.YtioehfhdoohdmaaGreatDoorHouseTab
import Derived.Test.YtioehfhdoohdmaaGreatDoorChkA
set_option linter.unusedVariables false
set_option linter.unusedSimpArgs false
namespace Go.Proofs.YtioehfhdoohdmaaGreatDoor
open Go.RowKit Go.Shelf
attribute [local go_sem] Oper.semAt_some
theorem spots_any (s:ByteArray) (w:World) :
 Calls Tryz.prog 50 #[.string s] w fun e w'=>e=.returned (.func (.func 84) #[] #[.pointer (some ⟨w.heap.size,0,none⟩)])∧w.alloc (.cells #[.string s] 9)=w':=by
 go_enter Tryz.func50,Tryz.ntmps50
 go_wp2
 go_ret
 exact⟨rfl,rfl⟩
theorem spots_stops (n:Nat) (hn:1≤n) (nb:Nat) (s:ByteArray) (hs:s.size≤140737488351232) (w:World) (hb:w.cell? ⟨nb,0,none⟩=some (.string s)) :
 SeqStopsK Fence.wide n Tryz.prog 84 #[.pointer (some ⟨nb,0,none⟩)] (encS s) (KpS nb s) (fun ys=>ys=places s) (fun pre=>pre <+: places s) s.size w:=fun l J Jx W hW hJ hJx hY h0=>by
 have hlt:=World.block_lt_of_cell? w _ hb
 exact spots1_in n hn l nb s hs J Jx W hJ (fun pre x W1 h _ hl=>hY pre x W1 h hl) ((hW.cell (p:=⟨nb,0,none⟩) hlt).trans hb) h0
theorem kps_t {nb:Nat}{s:ByteArray}{A B C:World}(h:KpS nb s A B) (k:KpS nb s B C):KpS nb s A C:=⟨fun e=>k.1 (h.1 e),h.2.trans k.2⟩
theorem kps_b {nb:Nat}{s:ByteArray}(W:World) (l:Nat) (o o':Obj) (h:W.heap[l]?=some o) (hc:o.isCells=false) (hw:o.isWalk=false):KpS nb s W (W.putObj l o'):=
 ⟨fun e=>cell_kept e (grownBy_putObj' W l o') (fun r er=>by cases er;exact⟨o,h,hc⟩),KeepsWalks.putObj _ h hw⟩
theorem ko_below {W W':World}(h:Below W.heap.size W W'):KeepsOthers W W':=⟨h.size,fun k o hk _=>(h.block k (Array.getElem?_eq_some_iff.1 hk).1).trans hk⟩
theorem kps_below {nb:Nat}{s:ByteArray}{W W':World}(h:Below W.heap.size W W'):KpS nb s W W':=⟨fun e=>cell_bel h e,(ko_below h).walks⟩
theorem kps_set {nb:Nat}{s:ByteArray}{W:World}{a:Addr}(v:Value) (h:nb≠a.block):KpS nb s W (W.setCell a v):=⟨fun e=>(World.cell?_of_block (Below.heap_setCell _ _ _ _ h)).trans e,KeepsWalks.setCell _ _ _⟩
theorem grown_blk {W W':World}{row:Option Nat}{b:Nat}{vs:List Value}{ty:TypeId}(h:Blk W b vs ty) (hg:W.grownBy W' row) (hr:∀r,row=some r→∃o:Obj,W.heap[r]?=some o∧o.isCells=false):Blk W' b vs ty:=
 (hg.block b h.lt (fun e'=>by obtain⟨o,ho,hc⟩:=hr b e'.symm;rw[show W.heap[b]?=_ from h] at ho;cases ho;cases hc)).trans h
theorem grown_own {W W':World}{row:Option Nat}{base n size:Nat}{e:TypeId}{v:Value}{xs:List Value}(h:W.ownsRow base e size v n xs) (hg:W.grownBy W' row) (hr:∀r,row=some r→∃o:Obj,W.heap[r]?=some o∧o.isCells=false):W'.ownsRow base e size v n xs:=by
 obtain⟨hl,h⟩:=h
 rcases h with h | ⟨g,cap,cur,hv,h0,hb,h1⟩
 ·exact⟨hl,Or.inl h⟩
 ·exact⟨hl,Or.inr ⟨g,cap,cur,hv,h0,(hg.block g (lt_of_block hb) (fun e'=>by obtain⟨o,ho,hc⟩:=hr g e'.symm;rw[hb] at ho;cases ho;cases hc)).trans hb,h1⟩⟩
theorem own_rd' {W:World}{base:Nat}{e:TypeId}{g n c:Nat}{xs:List Int}(h:W.ownsRow base e 1 (.slice (some ⟨g,0,none⟩) n c) n (iV xs)):Rd W (some ⟨g,0,none⟩) (iV xs):=by
 obtain⟨o,d,hv,_,_,hr,_⟩:=own_rd h
 simp only[Value.slice.injEq] at hv
 rw[hv.1]
 exact hr
def spB (s:ByteArray) (x:Pl s):Bool:=!goodAt s x.1
def spR (s:ByteArray) (x:Pl s):Int:=((Utf8.decode s x.1).1:Nat)
def stepO (T:Tab) (s:ByteArray) (L:List Int) (x:Pl s):List Int:=if freeR T (spR s x) (spB s x) then L else L.filter fun n=>(bdL T (spR s x) (spB s x)).contains n
def foldO (T:Tab) (s:ByteArray) (pre:List (Pl s)):List Int:=pre.foldl (stepO T s) (allL T.scripts.length)
theorem foldO_snoc (T:Tab) (s:ByteArray) (pre:List (Pl s)) (x:Pl s):foldO T s (pre++[x])=stepO T s (foldO T s pre) x:=by simp[foldO]
theorem stepO_len (T:Tab) (s:ByteArray) (L:List Int) (x:Pl s):(stepO T s L x).length≤L.length:=by
 unfold stepO
 split
 ·exact Nat.le_refl _
 ·exact List.length_filter_le _ _
theorem foldO_len (T:Tab) (s:ByteArray):∀pre:List (Pl s),(foldO T s pre).length≤T.scripts.length:=by
 intro pre
 unfold foldO
 suffices h:∀(pre:List (Pl s)) (L:List Int),(pre.foldl (stepO T s) L).length≤L.length by
  exact Nat.le_trans (h _ _) (by rw[allL_len];exact Nat.le_refl _)
 intro pre
 induction pre with
 | nil=>intro L;exact Nat.le_refl _
 | cons x t ih=>intro L;exact Nat.le_trans (ih _) (stepO_len T s L x)
structure OfSt (w:World) (b2 b5 nb base bb:Nat) (s:ByteArray) (L:List Int) (W:World):Prop where
 B:Below w.heap.size w W
 k2:Blk W b2 [.pointer (some ⟨bb,0,none⟩)] 29
 kn:Blk W nb [.string s] 9
 l:∃g c,Blk W b5 [.slice (some ⟨g,0,none⟩) L.length c] 40∧W.ownsRow base 3 1 (.slice (some ⟨g,0,none⟩) L.length c) L.length (iV L)
theorem OfSt.own (w:World) (b2 b5 nb base bb:Nat) (s:ByteArray) {BB:Nat}(hw:w.heap.size≤BB) {β:Type}(f:β→List Int):OwnFrom BB (fun (x:β) W=>OfSt w b2 b5 nb base bb s (f x) W):=fun x W W' row h hg hr=>by
 have hr':∀r,row=some r→∃o:Obj,W.heap[r]?=some o∧o.isCells=false:=fun r e=>(hr r e).2
 obtain⟨g,c,h1,h2⟩:=h.l
 exact⟨h.B.grown hg h.B.size (fun k e=>Nat.le_trans hw (hr k e).1),grown_blk h.k2 hg hr',grown_blk h.kn hg hr',g,c,grown_blk h1 hg hr',grown_own h2 hg hr'⟩
theorem OfSt.below {w:World}{b2 b5 nb base bb:Nat}{s:ByteArray}{L:List Int}{W W':World}(h:OfSt w b2 b5 nb base bb s L W) (hB:Below W.heap.size W W'):OfSt w b2 b5 nb base bb s L W':=by
 obtain⟨g,c,h1,h2⟩:=h.l
 exact⟨h.B.trans (hB.mono h.B.size),h.k2.keep (Keep.of_below hB (fun _=>False)) (by simp),h.kn.keep (Keep.of_below hB (fun _=>False)) (by simp),g,c,h1.keep (Keep.of_below hB (fun _=>False)) (by simp),own_later h2 hB⟩
theorem OfSt.set {w:World}{b2 b5 nb base bb:Nat}{s:ByteArray}{L L':List Int}{W W':World}(h:OfSt w b2 b5 nb base bb s L W) {g' c':Nat}(hB:Below W.heap.size W W') (ho:W'.ownsRow W.heap.size 3 1 (.slice (some ⟨g',0,none⟩) L'.length c') L'.length (iV L')) (h25:b2≠b5) (h5n:nb≠b5) (hw:w.heap.size≤b5) (hb:base≤W.heap.size):OfSt w b2 b5 nb base bb s L' (W'.setCell ⟨b5,0,none⟩ (.slice (some ⟨g',0,none⟩) L'.length c')):=by
 have h':=h.below hB
 obtain⟨g,c,h1,_⟩:=h'.l
 obtain⟨g0,c0,h10,_⟩:=h.l
 have hl:=h10.lt
 refine⟨h'.B.setCell (by exact hw) _,h'.k2.other (by exact h25) _,h'.kn.other (by exact h5n) _,g',c',h1.set 0 _,?_⟩
 obtain⟨hlen,ho⟩:=ho
 rcases ho with ⟨hv,_⟩ | ⟨q,cap,cur,hv,q0,hq,q1⟩
 ·simp at hv
 ·exact⟨hlen,Or.inr ⟨q,cap,cur,hv,Nat.le_trans hb q0,(Below.heap_setCell _ _ _ _ (by simp only;omega)).trans hq,q1⟩⟩
def NoX {β:Type}(_:Code) (_:List β) (_:World):Prop:=False
set_option maxRecDepth 100000 in
set_option maxHeartbeats 4000000 in
theorem sof_any (T:Tab) (bb:Nat) (Bk:BAddr) (s:ByteArray) (w:World) (h:BookAt w bb Bk T) (hf:TabFit T) (hs:s.size≤1048576) :
 Calls Tryz.prog 15 #[.pointer (some ⟨bb,0,none⟩),.string s] w (OwnPost w (foldO T s (places s))):=by
 refine (callsIn_wide (n:=5)).1 ?_
 have hE:Below w.heap.size w (w.alloc (.cells #[.pointer (some ⟨bb,0,none⟩)] 29)):=(Below.refl _ _).alloc (Nat.le_refl _) _
 have b2:=Blk.new' w #[.pointer (some ⟨bb,0,none⟩)] 29
 obtain⟨W0,hW0⟩:∃W0,w.alloc (.cells #[.pointer (some ⟨bb,0,none⟩)] 29)=W0:=⟨_,rfl⟩
 rw[hW0] at hE b2
 have HAll:=Lib.hid (all_any T bb Bk W0 (h.below hE) hf)
 have HW0:=Lib.hid hW0
 have HE:=Lib.hid hE
 have HB2:=Lib.hid b2
 have HBk:=Lib.hid h
 have HF:=Lib.hid hf
 clear hW0 hE b2 h hf
 refine callsIn_of_wp_marks Tryz.func15 rfl trivial ?_ rfl
 simp only[Tryz.ntmps15,List.size_toArray,List.length_cons,List.length_nil,Nat.reduceAdd,Nat.reduceSub,Array.replicate_succ,Array.replicate_zero,List.push_toArray,List.append_toArray,List.nil_append,List.cons_append]
 gi_wp2_with fail
 rw[HW0.out]
 refine⟨trivial,?_⟩
 gi_at_call 49
 refine (callsIn_wide.2 HAll.out).mono ?_
 rintro e w1 ⟨g,c,rfl,ho,hB1⟩
 obtain⟨L0,hL0⟩:∃L,allL T.scripts.length=L:=⟨_,rfl⟩
 rw[hL0] at ho ⊢
 have HL0:=Lib.hid hL0
 have HO:=Lib.hid ho
 have HB1:=Lib.hid hB1
 clear hL0 ho hB1 HAll
 gi_wp2_with (refine⟨trivial,?_⟩;gi_at_call 50;refine (callsIn_wide.2 (spots_any s _)).mono ?_;rintro e w' ⟨rfl,rfl⟩)
 have hz1:W0.heap.size≤w1.heap.size:=HB1.out.size
 have hz0:w.heap.size<W0.heap.size:=HB2.out.lt
 have hB3:Below w1.heap.size w1 ((w1.alloc (.cells #[.slice (some ⟨g,0,none⟩) L0.length c] 40)).alloc (.cells #[.string s] 9)):=((Below.refl _ w1).alloc (Nat.le_refl _) _).alloc (by simp) _
 have k5:=(Blk.new' w1 #[.slice (some ⟨g,0,none⟩) L0.length c] 40).alloc (.cells #[.string s] 9)
 have kn:=Blk.new' (w1.alloc (.cells #[.slice (some ⟨g,0,none⟩) L0.length c] 40)) #[.string s] 9
 simp only[World.size_alloc] at kn
 have hsz:((w1.alloc (.cells #[.slice (some ⟨g,0,none⟩) L0.length c] 40)).alloc (.cells #[.string s] 9)).heap.size=w1.heap.size+2:=by simp
 generalize hW3:(w1.alloc (.cells #[.slice (some ⟨g,0,none⟩) L0.length c] 40)).alloc (.cells #[.string s] 9)=W3 at *
 have hst:OfSt w w.heap.size w1.heap.size (w1.heap.size+1) w.heap.size bb s L0 W3:=
  ⟨HE.out.trans ((HB1.out.trans (hB3.mono HB1.out.size)).mono HE.out.size),HB2.out.keep (Keep.of_below (HB1.out.trans (hB3.mono HB1.out.size)) (fun _=>False)) (by simp),kn,g,c,k5,own_base (own_later HO.out hB3) (by omega)⟩
 clear hW3 k5 kn hB3
 refine wpIn_rangeFunc_ownH rfl (by omega) (gf:=84) (lb:=#[.pointer (some ⟨w1.heap.size+1,0,none⟩)]) rfl trivial (enters_of Tryz.func84 (by kernel_rfl) rfl)
  (spots_stops 4 (by omega) (w1.heap.size+1) s (by omega) W3 (hst.kn.cell 0)) kps_t (fun W l o o' _ h hc hw=>kps_b W l o o' h hc hw) (Below.refl _ _) (fun _=>rfl)
  (fun pre W=>OfSt w w.heap.size w1.heap.size (w1.heap.size+1) w.heap.size bb s (foldO T s pre) W) NoX
  (OfSt.own w _ _ _ _ _ s (by omega) (foldO T s)) (fun c s W W' row h _ _=>h.elim)
  (by rw[show foldO T s []=L0 from HL0.out];exact hst)
  (fun x a' W=>∃Bx,w1.heap.size+1<Bx∧Blk W Bx [.int .i32 (Utf8.decode s x.1).1,.int .i64 (Utf8.decode s x.1).2,.bool (!goodAt s x.1)] 77∧a'={ tmps:=#[Value.pointer (some { block:=bb,off:=0 }),Value.string s,Value.pointer (some { block:=w.heap.size,off:=0 }),undef,Value.slice none 0 0,Value.pointer (some { block:=w1.heap.size,off:=0 }),undef,Value.pointer (some { block:=Bx,off:=0 }),undef,undef,Value.pointer (some { block:=bb,off:=0 }),Value.bool false,Value.pointer (some { block:=bb,off:=0 }),Value.slice (some { block:=g,off:=0 }) L0.length c,Value.string s,Value.func (Fn.func 84) #[] #[Value.pointer (some { block:=w1.heap.size+1,off:=0 })],Value.int IntKind.i64 x.1,.agg #[.int .i32 (Utf8.decode s x.1).1,.int .i64 (Utf8.decode s x.1).2,.bool (!goodAt s x.1)],undef,undef,undef,undef,undef,undef,undef,undef,undef,undef,undef],defers:=[] })
  (fun x a' _ X Y row hs hg hr=>by obtain⟨Bx,h1,h2,h3⟩:=hs;exact⟨Bx,h1,grown_blk h2 hg (fun r e=>(hr r e).2),h3⟩)
  ?assign ?body ?done ?stop
 case assign=>
  rintro l pre x W K hI hK
  unfold encS
  gi_wp2
  have hA:Below W.heap.size W (W.alloc (.cells #[.int .i32 (Utf8.decode s x.1).1,.int .i64 (Utf8.decode s x.1).2,.bool (!goodAt s x.1)] 77)):=(Below.refl _ _).alloc (Nat.le_refl _) _
  exact hK _ _ ((ko_below hA).from _) (kps_below hA) (hI.below hA) ⟨W.heap.size,by have:=hI.kn.lt;omega,Blk.new W _ _,rfl⟩
 case body=>
  rintro l pre x a' W hl ⟨r,hr⟩ hI ⟨Bx,hBx,bX,rfl⟩ hlt
  have hrb:=dec_rune s x.1
  have HBd:=Lib.hid (bound_any T bb Bk (spR s x) (by unfold spR I32;omega) ((Utf8.decode s x.1).2:Nat) (spB s x) W (HBk.out.below hI.B) HF.out)
  have hsn:=foldO_snoc T s pre x
  have hln:=foldO_len T s pre
  have hn0:=HF.out.l0
  obtain⟨g',c',h5,ho⟩:=hI.l
  generalize foldO T s pre=L at *
  have HI:=Lib.hid hI
  have HOw:=Lib.hid ho
  have H5:=Lib.hid h5
  have HSn:=Lib.hid hsn
  have HLn:=Lib.hid (Nat.le_trans hln hn0)
  have c2:=hI.k2.cell 0
  have x0:=bX.cell 0
  have x1:=bX.cell 1
  have x2:=bX.cell 2
  dsimp only[List.getElem?_cons_zero,List.getElem?_cons_succ] at c2 x0 x1 x2
  have HR:Hid (((Utf8.decode s x.1).1:Int)=spR s x):=Lib.hid rfl
  have HBB:Hid ((!goodAt s x.1)=spB s x):=Lib.hid rfl
  rw[HR.out] at x0 ⊢
  rw[HBB.out] at x2 ⊢
  generalize (Utf8.decode s x.1).2=K at *
  clear hI bX ho h5 hsn hln hn0 HR HBB hrb hst
  have HStep:Hid (stepO T s L x=if freeR T (spR s x) (spB s x) then L else L.filter fun n=>(bdL T (spR s x) (spB s x)).contains n):=Lib.hid rfl
  have HBl:Hid ((bdL T (spR s x) (spB s x)).length≤T.scripts.length):=Lib.hid (by
   unfold bdL
   split
   ·simp
   ·split
    ·simp
    ·exact scrL_len _ _ _)
  generalize spR s x=R at *
  generalize spB s x=bad at *
  have HFl:=Lib.hid HF.out.l0
  obtain⟨D,hD⟩:∃D,bdL T R bad=D:=⟨_,rfl⟩
  have hbd:=HBd.out
  unfold BoundPost at hbd
  rw[hD] at hbd HStep HBl
  obtain⟨fr,hfr⟩:∃b,freeR T R bad=b:=⟨_,rfl⟩
  rw[hfr] at hbd HStep
  have HBd2:=Lib.hid hbd
  clear hbd HBd hD hfr
  gi_wp2_with fail
  refine⟨trivial,?_⟩
  gi_at_call 51
  refine (callsIn_wide.2 HBd2.out).mono ?_
  rintro e W1 ⟨o,d,rfl,hrd,hnew,hB⟩
  have HQ:=Lib.hid (And.intro hrd (And.intro hnew hB))
  clear hrd hnew hB HBd2
  cases fr with
  | true=>
   gi_wp2
   refine⟨(ko_below HQ.out.2.2).from _,kps_below HQ.out.2.2,?_⟩
   show OfSt w w.heap.size w1.heap.size (w1.heap.size+1) w.heap.size bb s (foldO T s (pre++[x])) W1
   rw[HSn.out,show stepO T s L x=L from HStep.out]
   exact HI.out.below HQ.out.2.2
  | false=>
   have c5:=(H5.out.keep (Keep.of_below HQ.out.2.2 (fun _=>False)) (by simp)).cell 0
   dsimp only[List.getElem?_cons_zero] at c5
   have HOw1:=Lib.hid (own_later HOw.out HQ.out.2.2)
   obtain⟨L2,hL2⟩:∃L2,(L.filter fun n=>D.contains n)=L2:=⟨_,rfl⟩
   have hm:=meet_any (some ⟨g',0,none⟩) o c' d L D W1 (own_rd' HOw1.out) (by simp) (fun a ha=>by cases ha;rfl) HQ.out.1 HLn.out (Nat.le_trans HBl.out HFl.out) (fun a ha=>(HQ.out.2.1 a ha).2.1)
   rw[hL2] at hm HStep
   have HM:=Lib.hid hm
   clear hm hL2
   gi_wp2_with fail
   refine⟨trivial,?_⟩
   gi_at_call 52
   refine (callsIn_wide.2 HM.out).mono ?_
   rintro e W2 ⟨g2,q2,rfl,ho2,hB2⟩
   have hB02:=HQ.out.2.2.trans (hB2.mono HQ.out.2.2.size)
   have b52:=H5.out.keep (Keep.of_below hB02 (fun _=>False)) (by simp)
   have c52:=b52.cell 0
   have f52:=b52.frozen 0
   dsimp only[List.getElem?_cons_zero] at c52
   have HB02:=Lib.hid hB02
   have HO2:=Lib.hid (own_base ho2 HQ.out.2.2.size)
   clear hB02 b52 ho2 hB2 c5 HM
   gi_wp2
   refine⟨((ko_below HB02.out).trans (KeepsOthers.setCell _ _ _)).from _,kps_t (kps_below HB02.out) (kps_set _ (by simp)),?_⟩
   show OfSt w w.heap.size w1.heap.size (w1.heap.size+1) w.heap.size bb s (foldO T s (pre++[x])) _
   rw[HSn.out,show stepO T s L x=L2 from HStep.out]
   exact HI.out.set HB02.out HO2.out (by omega) (by omega) (by omega) (by have:=HI.out.B.size;exact this)
 case done=>
  rintro D xs W hD rfl hI hK
  obtain⟨g',c',h5,ho⟩:=hI.l
  have HI:=Lib.hid hI
  have HOw:=Lib.hid ho
  clear hI ho hst
  generalize foldO T s (places s)=L at *
  have c5:=h5.cell 0
  dsimp only[List.getElem?_cons_zero] at c5
  clear h5
  gi_wp2
  refine⟨by simp,.inl ⟨_,_,rfl,run_takeDeferred hK,?_⟩⟩
  refine⟨.slice (some ⟨g',0,none⟩) L.length c',?_,g',c',rfl,grown_own HOw.out (grownBy_putObj' _ D (.deferred none)) (fun r e=>by cases e;exact⟨_,hK,rfl⟩),HI.out.B.trans (belowK_b (w:=w) (Nat.le_refl _) _ D _ _ (by omega) hK rfl rfl)⟩
  simp[results,Tryz.results15,go_sem]
 case stop=>
  rintro D c pre W hD hpre hx hK
  exact hx.elim
end Go.Proofs.YtioehfhdoohdmaaGreatDoor
namespace Go.Proofs.YtioehfhdoohdmaaGreatDoor
open Go.RowKit Go.Shelf
attribute [local go_sem] Oper.semAt_some
def stopGo (T:Tab) (s:ByteArray):List (Pl s)→List Int→Nat→Option (Nat×Nat)
 | [],_,_=>none
 | x::t,L,n=>if freeR T (spR s x) (spB s x) then stopGo T s t L (n+1) else if (stepO T s L x).isEmpty then some (x.1,n) else stopGo T s t (stepO T s L x) (n+1)
theorem stopGo_cons (T:Tab) (s:ByteArray) (x:Pl s) (t:List (Pl s)) (L:List Int) (n:Nat):stopGo T s (x::t) L n=if freeR T (spR s x) (spB s x) then stopGo T s t L (n+1) else if (stepO T s L x).isEmpty then some (x.1,n) else stopGo T s t (stepO T s L x) (n+1):=rfl
theorem stopGo_append (T:Tab) (s:ByteArray):∀(pre r:List (Pl s)) (L:List Int) (n:Nat),stopGo T s pre L n=none→stopGo T s (pre++r) L n=stopGo T s r (pre.foldl (stepO T s) L) (n+pre.length):=by
 intro pre
 induction pre with
 | nil=>intro r L n _;rfl
 | cons x t ih=>
  intro r L n h
  show stopGo T s (x::(t++r)) L n=_
  rw[stopGo_cons] at h ⊢
  cases hf:freeR T (spR s x) (spB s x) with
  | true=>
   simp only[hf,if_true] at h ⊢
   have hs:stepO T s L x=L:=by unfold stepO;rw[hf];rfl
   rw[ih r L (n+1) h,List.foldl_cons,hs,List.length_cons,show n+1+t.length=n+(t.length+1) by omega]
  | false=>
   simp only[hf,Bool.false_eq_true,if_false] at h ⊢
   cases he:(stepO T s L x).isEmpty with
   | true=>simp[he] at h
   | false=>
    simp only[he,Bool.false_eq_true,if_false] at h ⊢
    rw[ih r _ (n+1) h,List.foldl_cons,List.length_cons,show n+1+t.length=n+(t.length+1) by omega]
def stopN (T:Tab) (s:ByteArray):Option (Nat×Nat):=stopGo T s (places s) (allL T.scripts.length) 0
def stopV (v:Option (Nat×Nat)):Value:=.tuple #[.agg #[.int .i64 ((v.getD (0,0)).1:Nat),.int .i64 ((v.getD (0,0)).2:Nat)],.bool v.isSome]
def StopPost (w:World) (v:Option (Nat×Nat)) (e:Ending) (w':World):Prop:=e=.returned (stopV v)∧Below w.heap.size w w'
def NoStop (T:Tab) (s:ByteArray) (pre:List (Pl s)):Prop:=stopGo T s pre (allL T.scripts.length) 0=none
theorem noStop_snoc (T:Tab) (s:ByteArray) (pre:List (Pl s)) (x:Pl s) (h:NoStop T s pre):stopGo T s (pre++[x]) (allL T.scripts.length) 0=if freeR T (spR s x) (spB s x) then none else if (stepO T s (foldO T s pre) x).isEmpty then some (x.1,pre.length) else none:=by
 rw[stopGo_append T s pre [x] _ 0 h]
 show stopGo T s [x] (foldO T s pre) (0+pre.length)=_
 rw[Nat.zero_add]
 rfl
theorem stop_at (T:Tab) (s:ByteArray) (pre r:List (Pl s)) (x:Pl s) (h:NoStop T s pre) (hp:places s=pre++x::r) (hf:freeR T (spR s x) (spB s x)=false) (he:(stepO T s (foldO T s pre) x).isEmpty=true):stopN T s=some (x.1,pre.length):=by
 unfold stopN
 rw[hp,stopGo_append T s pre (x::r) _ 0 h]
 rw[stopGo_cons,hf,if_neg (by decide)]
 show (if (stepO T s (foldO T s pre) x).isEmpty=true then _ else _)=_
 rw[he,if_pos rfl,Nat.zero_add]
theorem scan_any_len {s:ByteArray}:(places s).length≤s.size:=by
 suffices h:∀d i,s.size - i≤d→(placesFrom s i).length≤s.size - i from Nat.le_trans (h _ 0 (Nat.le_refl _)) (by omega)
 intro d
 induction d with
 | zero=>intro i hi;rw[places_end (by omega)];exact Nat.zero_le _
 | succ d ih=>
  intro i hi
  by_cases h:i<s.size
  ·rw[places_step h,List.length_cons]
   have hw:=dec_width s i
   have:=ih (i+(Utf8.decode s i).2) (by omega)
   omega
  ·rw[places_end (by omega)];exact Nat.zero_le _
theorem bdL_len (T:Tab) (r:Int) (bad:Bool):(bdL T r bad).length≤T.scripts.length:=by
 unfold bdL
 split
 ·simp
 ·split
  ·simp
  ·exact scrL_len _ _ _
theorem scan14_any (T:Tab) (bb:Nat) (Bk:BAddr) (s:ByteArray) (n:Int) (w:World) (h:BookAt w bb Bk T) (hf:TabFit T) (hs:s.size≤1048576):Calls Tryz.prog 21 #[.pointer (some ⟨bb,0,none⟩),.string s,.int .i64 n] w fun e w'=>e=.returned (.bool ((foldO T s (places s)).contains n))∧Below w.heap.size w w':=by
 have HO:=Lib.hid (sof_any T bb Bk s w h hf hs)
 have hl:=Nat.le_trans (foldO_len T s (places s)) hf.l0
 generalize foldO T s (places s)=L at *
 have HL:=Lib.hid hl
 clear hl h hf hs
 obtain⟨B,hB⟩:∃b,L.contains n=b:=⟨_,rfl⟩
 rw[hB]
 have HB:=Lib.hid hB
 clear hB
 go_enter Tryz.func21,Tryz.ntmps21
 go_wp2_with fail
 (with_reducible refine Calls.mono HO.out ?_)
 rintro e w1 ⟨g,c,rfl,ho,hB1⟩
 have hc:=containsI_any (some ⟨g,0,none⟩) c L n w1 (own_rd' ho) HL.out
 rw[HB.out] at hc
 have HC:=Lib.hid hc
 have HB1:=Lib.hid hB1
 clear hc ho hB1 HO
 go_wp2_with fail
 (with_reducible refine Calls.mono HC.out ?_)
 rintro e w2 ⟨rfl,rfl⟩
 go_wp2_with fail
 try go_ret
 exact⟨rfl,HB1.out⟩
theorem blk_eq {W:World}{b:Nat}{vs us:List Value}{ty:TypeId}(h:Blk W b vs ty) (k:Blk W b us ty):vs=us:=by
 have e:=h.symm.trans k
 simpa using e
structure StSt (w:World) (b2 b4 b5 b6 b7 nb base bb:Nat) (s:ByteArray) (L:List Int) (n:Nat) (W:World):Prop where
 o:OfSt w b2 b6 nb base bb s L W
 k4:Blk W b4 [.int .i64 0,.int .i64 0] 46
 k5:Blk W b5 [.bool false] 4
 k7:Blk W b7 [.int .i64 n] 3
 ne:∀g c,Blk W b6 [.slice (some ⟨g,0,none⟩) L.length c] 40→g≠b7
theorem StSt.move {w:World}{b2 b4 b5 b6 b7 nb base bb:Nat}{s:ByteArray}{L:List Int}{n:Nat}{W W':World}(h:StSt w b2 b4 b5 b6 b7 nb base bb s L n W) (ho:OfSt w b2 b6 nb base bb s L W') (hm:∀b vs ty,Blk W b vs ty→Blk W' b vs ty):StSt w b2 b4 b5 b6 b7 nb base bb s L n W':=
 ⟨ho,hm _ _ _ h.k4,hm _ _ _ h.k5,hm _ _ _ h.k7,fun g c hb=>by
  obtain⟨g0,c0,h1,_⟩:=h.o.l
  have e:=blk_eq hb (hm _ _ _ h1)
  simp only[List.cons.injEq,Value.slice.injEq,Option.some.injEq,Addr.mk.injEq,and_true,true_and] at e
  rw[e.1]
  exact h.ne g0 c0 h1⟩
theorem StSt.below {w:World}{b2 b4 b5 b6 b7 nb base bb:Nat}{s:ByteArray}{L:List Int}{n:Nat}{W W':World}(h:StSt w b2 b4 b5 b6 b7 nb base bb s L n W) (hB:Below W.heap.size W W'):StSt w b2 b4 b5 b6 b7 nb base bb s L n W':=
 h.move (h.o.below hB) (fun b vs ty hb=>hb.keep (Keep.of_below hB (fun _=>False)) (by simp))
theorem StSt.own {w:World}(b2 b4 b5 b6 b7 nb base bb:Nat) (s:ByteArray) {BB:Nat}(hw:w.heap.size≤BB) {β:Type}(f:β→List Int) (k:β→Nat):OwnFrom BB (fun (x:β) W=>StSt w b2 b4 b5 b6 b7 nb base bb s (f x) (k x) W):=fun x W W' row h hg hr=>
 h.move (OfSt.own w b2 b6 nb base bb s hw f x W W' row h.o hg hr) (fun b vs ty hb=>grown_blk hb hg (fun r e=>(hr r e).2))
theorem StSt.set {w:World}{b2 b4 b5 b6 b7 nb base bb:Nat}{s:ByteArray}{L L':List Int}{n:Nat}{W W':World}(h:StSt w b2 b4 b5 b6 b7 nb base bb s L n W) {g' c':Nat}(hB:Below W.heap.size W W') (ho:W'.ownsRow W.heap.size 3 1 (.slice (some ⟨g',0,none⟩) L'.length c') L'.length (iV L')) (h26:b2≠b6) (h6n:nb≠b6) (h46:b4≠b6) (h56:b5≠b6) (h76:b7≠b6) (hw:w.heap.size≤b6) (hb:base≤W.heap.size):StSt w b2 b4 b5 b6 b7 nb base bb s L' n (W'.setCell ⟨b6,0,none⟩ (.slice (some ⟨g',0,none⟩) L'.length c')):=by
 have h':=h.below hB
 refine⟨h.o.set hB ho h26 h6n hw hb,h'.k4.other (by exact h46) _,h'.k5.other (by exact h56) _,h'.k7.other (by exact h76) _,fun g c hb2=>?_⟩
 obtain⟨g0,c0,h1,_⟩:=h'.o.l
 have e:=blk_eq hb2 (h1.set 0 (.slice (some ⟨g',0,none⟩) L'.length c'))
 simp only[List.set_cons_zero,List.cons.injEq,Value.slice.injEq,Option.some.injEq,Addr.mk.injEq,and_true,true_and] at e
 rcases ho.2 with ⟨hv,_⟩ | ⟨q,cap,cur,hv,q0,hq,q1⟩
 ·simp at hv
 ·simp only[Value.slice.injEq,Option.some.injEq,Addr.mk.injEq,and_true,true_and] at hv
  have:=h.k7.lt
  omega
theorem StSt.count {w:World}{b2 b4 b5 b6 b7 nb base bb:Nat}{s:ByteArray}{L:List Int}{n:Nat}{W:World}(h:StSt w b2 b4 b5 b6 b7 nb base bb s L n W) (h2:b2≠b7) (h4:b4≠b7) (h5:b5≠b7) (h6:b6≠b7) (hn:nb≠b7) (hw:w.heap.size≤b7) (m:Nat):StSt w b2 b4 b5 b6 b7 nb base bb s L m (W.setCell ⟨b7,0,none⟩ (.int .i64 m)):=by
 obtain⟨g,c,h5',ho⟩:=h.o.l
 have hg:=h.ne g c h5'
 refine⟨⟨h.o.B.setCell (by exact hw) _,h.o.k2.other (by exact h2) _,h.o.kn.other (by exact hn) _,g,c,h5'.other (by exact h6) _,?_⟩,h.k4.other (by exact h4) _,h.k5.other (by exact h5) _,h.k7.set 0 _,fun g1 c1 hb=>?_⟩
 ·obtain⟨hlen,ho⟩:=ho
  rcases ho with ⟨hv,_⟩ | ⟨q,cap,cur,hv,q0,hq,q1⟩
  ·simp at hv
  ·have e:q=g:=by simp only[Value.slice.injEq,Option.some.injEq,Addr.mk.injEq,and_true,true_and] at hv;exact hv.1.symm
   subst e
   exact⟨hlen,Or.inr ⟨q,cap,cur,hv,q0,(Below.heap_setCell _ _ _ _ (by exact hg)).trans hq,q1⟩⟩
 ·have e:=blk_eq hb (h5'.other (p:=⟨b7,0,none⟩) (by exact h6) (.int .i64 m))
  simp only[List.cons.injEq,Value.slice.injEq,Option.some.injEq,Addr.mk.injEq,and_true,true_and] at e
  rw[e.1]
  exact hg
set_option maxRecDepth 100000 in
set_option maxHeartbeats 4000000 in
theorem sstop_any (T:Tab) (bb:Nat) (Bk:BAddr) (s:ByteArray) (w:World) (h:BookAt w bb Bk T) (hf:TabFit T) (hs:s.size≤1048576):Calls Tryz.prog 19 #[.pointer (some ⟨bb,0,none⟩),.string s] w (StopPost w (stopN T s)):=by
 refine (callsIn_wide (n:=5)).1 ?_
 obtain⟨V1,hV1⟩:∃V,w.alloc (.cells #[.pointer (some ⟨bb,0,none⟩)] 29)=V:=⟨_,rfl⟩
 have s1:V1.heap.size=w.heap.size+1:=by rw[←hV1];simp
 have B1:Below w.heap.size w V1:=by rw[←hV1];exact (Below.refl _ _).alloc (Nat.le_refl _) _
 have k0:Blk V1 (w.heap.size+0) [.pointer (some ⟨bb,0,none⟩)] 29:=by rw[←hV1];have:=Blk.new' w #[.pointer (some ⟨bb,0,none⟩)] 29;exact this
 obtain⟨V2,hV2⟩:∃V,V1.alloc (.cells #[.int .i64 0,.int .i64 0] 46)=V:=⟨_,rfl⟩
 have s2:V2.heap.size=w.heap.size+2:=by rw[←hV2];simp[s1]
 have B2:Below V1.heap.size V1 V2:=by rw[←hV2];exact (Below.refl _ _).alloc (Nat.le_refl _) _
 have k1:Blk V2 (w.heap.size+1) [.int .i64 0,.int .i64 0] 46:=by rw[←hV2];have:=Blk.new' V1 #[.int .i64 0,.int .i64 0] 46;rw[s1] at this;exact this
 obtain⟨V3,hV3⟩:∃V,V2.alloc (.cells #[.bool false] 4)=V:=⟨_,rfl⟩
 have s3:V3.heap.size=w.heap.size+3:=by rw[←hV3];simp[s2]
 have B3:Below V2.heap.size V2 V3:=by rw[←hV3];exact (Below.refl _ _).alloc (Nat.le_refl _) _
 have k2:Blk V3 (w.heap.size+2) [.bool false] 4:=by rw[←hV3];have:=Blk.new' V2 #[.bool false] 4;rw[s2] at this;exact this
 replace k0:=k0.keep (Keep.of_below B2 (fun _=>False)) (by simp)
 replace k0:=k0.keep (Keep.of_below B3 (fun _=>False)) (by simp)
 replace k1:=k1.keep (Keep.of_below B3 (fun _=>False)) (by simp)
 have C3:=(B1.trans (B2.mono B1.size)).trans (B3.mono (B1.trans (B2.mono B1.size)).size)
 have HAll:=Lib.hid (all_any T bb Bk V3 (h.below C3) hf)
 have HE:=Lib.hid C3
 have HK0:=Lib.hid k0
 have HK1:=Lib.hid k1
 have HK2:=Lib.hid k2
 have HS3:=Lib.hid s3
 have HBk:=Lib.hid h
 have HF:=Lib.hid hf
 have HV1:=Lib.hid hV1
 have HV2:=Lib.hid hV2
 have HV3:=Lib.hid hV3
 clear h hf C3 k0 k1 k2 hV1 s1 B1 hV2 s2 B2 hV3 s3 B3
 refine callsIn_of_wp_marks Tryz.func19 rfl trivial ?_ rfl
 simp only[Tryz.ntmps19,List.size_toArray,List.length_cons,List.length_nil,Nat.reduceAdd,Nat.reduceSub,Array.replicate_succ,Array.replicate_zero,List.push_toArray,List.append_toArray,List.nil_append,List.cons_append]
 gi_wp2_with fail
 simp only[Nat.add_assoc,Nat.reduceAdd]
 rw[HV1.out,HV2.out,HV3.out]
 refine⟨trivial,?_⟩
 gi_at_call 49
 refine (callsIn_wide.2 HAll.out).mono ?_
 rintro e w1 ⟨g,c,rfl,ho,hB1⟩
 obtain⟨L0,hL0⟩:∃L,allL T.scripts.length=L:=⟨_,rfl⟩
 rw[hL0] at ho ⊢
 have HL0:=Lib.hid hL0
 have HO:=Lib.hid ho
 have HB1:=Lib.hid hB1
 clear hL0 ho hB1 HAll
 gi_wp2_with (refine⟨trivial,?_⟩;gi_at_call 50;refine (callsIn_wide.2 (spots_any s _)).mono ?_;rintro e w' ⟨rfl,rfl⟩)
 have hz1:w.heap.size+3≤w1.heap.size:=by have h1:=HB1.out.size;have h2:=HS3.out;omega
 have hB3:Below w1.heap.size w1 (((w1.alloc (.cells #[.slice (some ⟨g,0,none⟩) L0.length c] 40)).alloc (.cells #[.int .i64 0] 3)).alloc (.cells #[.string s] 9)):=(((Below.refl _ w1).alloc (Nat.le_refl _) _).alloc (by simp) _).alloc (by simp;omega) _
 have k6:=((Blk.new' w1 #[.slice (some ⟨g,0,none⟩) L0.length c] 40).alloc (.cells #[.int .i64 0] 3)).alloc (.cells #[.string s] 9)
 have k7:=(Blk.new' (w1.alloc (.cells #[.slice (some ⟨g,0,none⟩) L0.length c] 40)) #[.int .i64 0] 3).alloc (.cells #[.string s] 9)
 have kn:=Blk.new' ((w1.alloc (.cells #[.slice (some ⟨g,0,none⟩) L0.length c] 40)).alloc (.cells #[.int .i64 0] 3)) #[.string s] 9
 simp only[World.size_alloc,Nat.add_assoc,Nat.reduceAdd] at k7 kn
 have hsz:(((w1.alloc (.cells #[.slice (some ⟨g,0,none⟩) L0.length c] 40)).alloc (.cells #[.int .i64 0] 3)).alloc (.cells #[.string s] 9)).heap.size=w1.heap.size+3:=by simp
 simp only[Nat.add_assoc,Nat.reduceAdd]
 generalize hW3:((w1.alloc (.cells #[.slice (some ⟨g,0,none⟩) L0.length c] 40)).alloc (.cells #[.int .i64 0] 3)).alloc (.cells #[.string s] 9)=W3 at *
 have hst:StSt w w.heap.size (w.heap.size+1) (w.heap.size+2) w1.heap.size (w1.heap.size+1) (w1.heap.size+2) w.heap.size bb s L0 0 W3:=by
  have hbb:=HB1.out.trans (hB3.mono HB1.out.size)
  refine⟨⟨HE.out.trans (hbb.mono HE.out.size),HK0.out.keep (Keep.of_below hbb (fun _=>False)) (by simp),kn,g,c,k6,own_base (own_later HO.out hB3) (by have:=HE.out.size;omega)⟩,HK1.out.keep (Keep.of_below hbb (fun _=>False)) (by simp),HK2.out.keep (Keep.of_below hbb (fun _=>False)) (by simp),k7,fun g1 c1 hb=>?_⟩
  have e:=blk_eq hb k6
  simp only[List.cons.injEq,Value.slice.injEq,Option.some.injEq,Addr.mk.injEq,and_true,true_and] at e
  rw[e.1]
  rcases HO.out.2 with ⟨hv,_⟩ | ⟨q,cap,cur,hv,q0,hq,q1⟩
  ·simp at hv
  ·simp only[Value.slice.injEq,Option.some.injEq,Addr.mk.injEq,and_true,true_and] at hv
   have:=lt_of_block hq
   omega
 clear hW3 k6 k7 kn hB3
 refine wpIn_rangeFunc_ownH rfl (by omega) (gf:=84) (lb:=#[.pointer (some ⟨w1.heap.size+2,0,none⟩)]) rfl trivial (enters_of Tryz.func84 (by kernel_rfl) rfl)
  (spots_stops 4 (by omega) (w1.heap.size+2) s (by omega) W3 (hst.o.kn.cell 0)) kps_t (fun W l o o' _ h hc hw=>kps_b W l o o' h hc hw) (Below.refl _ _) (fun _=>rfl)
  (fun pre W=>NoStop T s pre∧StSt w w.heap.size (w.heap.size+1) (w.heap.size+2) w1.heap.size (w1.heap.size+1) (w1.heap.size+2) w.heap.size bb s (foldO T s pre) pre.length W)
  (fun cc pre W=>(cc=.ret∧∃pre0 x,pre=pre0++[x]∧NoStop T s pre0∧freeR T (spR s x) (spB s x)=false∧(stepO T s (foldO T s pre0) x).isEmpty=true)∧Blk W (w.heap.size+1) [.int .i64 ((pre.getLast?.map (fun x:Pl s=>x.1)).getD 0:Nat),.int .i64 ((pre.length - 1:Nat):Int)] 46∧Blk W (w.heap.size+2) [.bool true] 4∧Below w.heap.size w W)
  (OwnFrom.and (ownFrom_pure _ _) (StSt.own _ _ _ _ _ _ _ _ s (by omega) (foldO T s) List.length))
  (fun cc=>OwnFrom.and (ownFrom_pure _ _) (OwnFrom.and (fun pre W W' row h hg hr=>grown_blk h hg (fun r e=>(hr r e).2)) (OwnFrom.and (fun pre W W' row h hg hr=>grown_blk h hg (fun r e=>(hr r e).2)) (ownFrom_below (Nat.le_refl _) (by omega)))))
  ⟨rfl,by rw[show foldO T s []=L0 from HL0.out];exact hst⟩
  (fun x a' W=>∃Bx,w1.heap.size+2<Bx∧Blk W Bx [.int .i32 (Utf8.decode s x.1).1,.int .i64 (Utf8.decode s x.1).2,.bool (!goodAt s x.1)] 77∧a'={ tmps:=#[Value.pointer (some { block:=bb,off:=0 }),Value.string s,Value.pointer (some { block:=w.heap.size,off:=0 }),undef,Value.pointer (some { block:=w.heap.size+1,off:=0 }),Value.pointer (some { block:=w.heap.size+2,off:=0 }),Value.pointer (some { block:=w1.heap.size,off:=0 }),Value.pointer (some { block:=w1.heap.size+1,off:=0 }),Value.int IntKind.i64 x.1,Value.pointer (some { block:=Bx,off:=0 }),undef,undef,Value.pointer (some { block:=bb,off:=0 }),Value.bool false,undef,Value.pointer (some { block:=bb,off:=0 }),Value.slice (some { block:=g,off:=0 }) L0.length c,Value.string s,Value.func (Fn.func 84) #[] #[Value.pointer (some { block:=w1.heap.size+2,off:=0 })],Value.int IntKind.i64 x.1,.agg #[.int .i32 (Utf8.decode s x.1).1,.int .i64 (Utf8.decode s x.1).2,.bool (!goodAt s x.1)],undef,undef,undef,undef,undef,undef,undef,undef,undef,undef,undef,undef,undef,undef,undef,undef,undef,undef,undef],defers:=[] })
  (fun x a' _ X Y row hs hg hr=>by obtain⟨Bx,h1,h2,h3⟩:=hs;exact⟨Bx,h1,grown_blk h2 hg (fun r e=>(hr r e).2),h3⟩)
  ?assign ?body ?done ?stop
 case assign=>
  rintro l pre x W K ⟨hno,hI⟩ hK
  unfold encS
  gi_wp2
  have hA:Below W.heap.size W (W.alloc (.cells #[.int .i32 (Utf8.decode s x.1).1,.int .i64 (Utf8.decode s x.1).2,.bool (!goodAt s x.1)] 77)):=(Below.refl _ _).alloc (Nat.le_refl _) _
  exact hK _ _ ((ko_below hA).from _) (kps_below hA) ⟨hno,hI.below hA⟩ ⟨W.heap.size,by have:=hI.o.kn.lt;omega,Blk.new W _ _,rfl⟩
 case body=>
  rintro l pre x a' W hl ⟨r,hr⟩ ⟨hno,hI⟩ ⟨Bx,hBx,bX,rfl⟩ hlt
  have hrb:=dec_rune s x.1
  have HBd:=Lib.hid (bound_any T bb Bk (spR s x) (by unfold spR I32;omega) ((Utf8.decode s x.1).2:Nat) (spB s x) W (HBk.out.below hI.o.B) HF.out)
  have HNo:=Lib.hid hno
  have hsn:=foldO_snoc T s pre x
  have hns:=noStop_snoc T s pre x hno
  have hln:=foldO_len T s pre
  have hn0:=HF.out.l0
  obtain⟨g',c',h5,ho⟩:=hI.o.l
  have hfold:Hid (foldO T s pre=foldO T s pre):=Lib.hid rfl
  obtain⟨L,hL⟩:∃L,foldO T s pre=L:=⟨_,rfl⟩
  have HLf:=Lib.hid hL
  rw[hL] at hI h5 ho hsn hns hln
  clear hL hfold hno
  have HI:=Lib.hid hI
  have HOw:=Lib.hid ho
  have H5:=Lib.hid h5
  have HSn:=Lib.hid hsn
  have HNs:=Lib.hid hns
  have HLn:=Lib.hid (Nat.le_trans hln hn0)
  have c2:=hI.o.k2.cell 0
  have x0:=bX.cell 0
  have x1:=bX.cell 1
  have x2:=bX.cell 2
  dsimp only[List.getElem?_cons_zero,List.getElem?_cons_succ] at c2 x0 x1 x2
  have HRR:Hid (((Utf8.decode s x.1).1:Int)=spR s x):=Lib.hid rfl
  have HBB:Hid ((!goodAt s x.1)=spB s x):=Lib.hid rfl
  rw[HRR.out] at x0 ⊢
  rw[HBB.out] at x2 ⊢
  generalize (Utf8.decode s x.1).2=K at *
  clear hI bX ho h5 hsn hns hln hn0 HRR HBB hrb hst
  have HStep:Hid (stepO T s L x=if freeR T (spR s x) (spB s x) then L else L.filter fun n=>(bdL T (spR s x) (spB s x)).contains n):=Lib.hid rfl
  have HBl:Hid ((bdL T (spR s x) (spB s x)).length≤T.scripts.length):=Lib.hid (bdL_len _ _ _)
  have HFr:Hid (∀b,freeR T (spR s x) (spB s x)=b→freeR T (spR s x) (spB s x)=b):=Lib.hid (fun _ h=>h)
  obtain⟨D,hD⟩:∃D,bdL T (spR s x) (spB s x)=D:=⟨_,rfl⟩
  have hbd:=HBd.out
  unfold BoundPost at hbd
  rw[hD] at hbd HStep HBl
  obtain⟨fr,hfr⟩:∃b,freeR T (spR s x) (spB s x)=b:=⟨_,rfl⟩
  have HFr2:=Lib.hid hfr
  rw[hfr] at hbd HStep HNs
  have HBd2:=Lib.hid hbd
  clear hbd HBd hD hfr HFr
  have HFl:=Lib.hid HF.out.l0
  gi_wp2_with fail
  refine⟨trivial,?_⟩
  gi_at_call 51
  refine (callsIn_wide.2 HBd2.out).mono ?_
  rintro e W1 ⟨o,d,rfl,hrd,hnew,hB⟩
  have HQ:=Lib.hid (And.intro hrd (And.intro hnew hB))
  clear hrd hnew hB HBd2
  cases fr with
  | true=>
   have hst2:=HI.out.below HQ.out.2.2
   have c7:=hst2.k7.cell 0
   have f7:=hst2.k7.frozen 0
   dsimp only[List.getElem?_cons_zero] at c7
   have HSt2:=Lib.hid hst2
   have hpl:(pre.length:Int)<2000000:=by omega
   have hp0:(0:Int)≤(pre.length:Int):=Int.natCast_nonneg _
   clear hst2
   gi_wp2
   refine⟨((ko_below HQ.out.2.2).trans (KeepsOthers.setCell _ _ _)).from _,kps_t (kps_below HQ.out.2.2) (kps_set _ (by simp)),⟨HNs.out,?_⟩⟩
   rw[HSn.out,show stepO T s L x=L from HStep.out,List.length_append,List.length_singleton]
   have hc:=HSt2.out.count (by omega) (by omega) (by omega) (by omega) (by omega) (by omega) (pre.length+1)
   exact hc
  | false=>
   have c5:=(H5.out.keep (Keep.of_below HQ.out.2.2 (fun _=>False)) (by simp)).cell 0
   dsimp only[List.getElem?_cons_zero] at c5
   have HOw1:=Lib.hid (own_later HOw.out HQ.out.2.2)
   obtain⟨L2,hL2⟩:∃L2,(L.filter fun n=>D.contains n)=L2:=⟨_,rfl⟩
   have hm:=meet_any (some ⟨g',0,none⟩) o c' d L D W1 (own_rd' HOw1.out) (by simp) (fun a ha=>by cases ha;rfl) HQ.out.1 HLn.out (Nat.le_trans HBl.out HFl.out) (fun a ha=>(HQ.out.2.1 a ha).2.1)
   rw[hL2] at hm HStep
   have HM:=Lib.hid hm
   clear hm hL2
   have HE2:Hid (stepO T s L x=L2):=Lib.hid HStep.out
   clear HStep
   gi_wp2_with fail
   refine⟨trivial,?_⟩
   gi_at_call 52
   refine (callsIn_wide.2 HM.out).mono ?_
   rintro e W2 ⟨g2,q2,rfl,ho2,hB2⟩
   have hB02:=HQ.out.2.2.trans (hB2.mono HQ.out.2.2.size)
   have b52:=H5.out.keep (Keep.of_below hB02 (fun _=>False)) (by simp)
   have c52:=b52.cell 0
   have f52:=b52.frozen 0
   dsimp only[List.getElem?_cons_zero] at c52
   have HB02:=Lib.hid hB02
   have HO2:=Lib.hid (own_base ho2 HQ.out.2.2.size)
   have hset:=HI.out.set HB02.out HO2.out (by omega) (by omega) (by omega) (by omega) (by omega) (by omega) (by have:=HI.out.o.B.size;exact this)
   have HSet:=Lib.hid hset
   have hnb:W2.heap.size=W2.heap.size:=rfl
   clear hB02 ho2 hB2 c5 HM hnb
   have hlow:w1.heap.size<W2.heap.size:=b52.lt
   have HLow:=Lib.hid hlow
   clear b52 hlow
   obtain⟨W4,hW4⟩:∃W4,W2.setCell ⟨w1.heap.size,0,none⟩ (.slice (some ⟨g2,0,none⟩) L2.length q2)=W4:=⟨_,rfl⟩
   have HW4:=Lib.hid hW4
   rw[hW4] at hset
   have HS4:=Lib.hid hset
   clear HSet
   have HKp:Hid (KeepsOthers W W4∧KpS (w1.heap.size+2) s W W4):=Lib.hid ⟨by rw[←hW4];exact (ko_below HB02.out).trans (KeepsOthers.setCell _ _ _),by rw[←hW4];exact kps_t (kps_below HB02.out) (kps_set _ (by simp))⟩
   have c64:W4.cell? ⟨w1.heap.size,0,none⟩=some (.slice (some ⟨g2,0,none⟩) L2.length q2):=by rw[←hW4];exact World.cell?_setCell_same _ _ _ c52
   have c7:=hset.k7.cell 0
   have f7:=hset.k7.frozen 0
   have k40:=hset.k4.cell 0
   have k41:=hset.k4.cell 1
   have f40:=hset.k4.frozen 0
   have f41:=hset.k4.frozen 1
   have k50:=hset.k5.cell 0
   have f50:=hset.k5.frozen 0
   dsimp only[List.getElem?_cons_zero,List.getElem?_cons_succ] at c7 k40 k41 k50
   have hpl:(pre.length:Int)<2000000:=by omega
   have hp0:(0:Int)≤(pre.length:Int):=Int.natCast_nonneg _
   clear hset hW4
   have HNs2:=Lib.hid (by have h:=HNs.out;rw[HE2.out] at h;exact h)
   obtain⟨n2,hn2⟩:∃n,L2.length=n:=⟨_,rfl⟩
   rw[hn2] at c64 ⊢
   have HN2:=Lib.hid hn2
   have HW5:=Lib.hid (by have h:=HW4.out;rw[hn2] at h;exact h)
   clear hn2
   gi_upto_region 11 with fail
   rw[HW5.out]
   clear c52 f52
   by_cases hz:n2=0
   ·subst hz
    gi_wp2_with fail
    clear c64 c7 f7 k40 k41 f40 f41 k50 f50
    have he:(stepO T s (foldO T s pre) x).isEmpty=true:=by rw[HLf.out,HE2.out,List.isEmpty_iff];exact List.eq_nil_of_length_eq_zero HN2.out
    have bb4:=((HS4.out.k4.set 0 (.int .i64 (x.1:Nat))).set 1 (.int .i64 (pre.length:Nat))).other (p:=⟨w.heap.size+2,0,none⟩) (by simp) (.bool true)
    have bb5:=((HS4.out.k5.other (p:=⟨w.heap.size+1,0,none⟩) (by simp) (.int .i64 (x.1:Nat))).other (p:=⟨w.heap.size+1,1,none⟩) (by simp) (.int .i64 (pre.length:Nat))).set 0 (.bool true)
    exact⟨(HKp.out.1.trans ((KeepsOthers.setCell _ _ _).trans ((KeepsOthers.setCell _ _ _).trans (KeepsOthers.setCell _ _ _)))).from _,⟨rfl,pre,x,rfl,HNo.out,HFr2.out,he⟩,bb4.of_eq (by simp),bb5.of_eq (by simp),((HS4.out.o.B.setCell (p:=⟨w.heap.size+1,0,none⟩) (by simp) _).setCell (p:=⟨w.heap.size+1,1,none⟩) (by simp) _).setCell (p:=⟨w.heap.size+2,0,none⟩) (by simp) _⟩
   ·have hd:((n2:Int) == 0)=false:=by simp;omega
    gi_wp2_with fail
    clear c64 c7 f7 k40 k41 f40 f41 k50 f50
    have hne:L2.isEmpty=false:=by
     cases hL:L2 with
     | nil=>rw[hL] at HN2;exact absurd HN2.out.symm hz
     | cons y t=>rfl
    refine⟨(HKp.out.1.trans (KeepsOthers.setCell _ _ _)).from _,kps_t HKp.out.2 (kps_set _ (by simp)),?_,?_⟩
    ·show stopGo T s (pre++[x]) (allL T.scripts.length) 0=none
     rw[HNs2.out,hne]
     rfl
    ·show StSt w w.heap.size (w.heap.size+1) (w.heap.size+2) w1.heap.size (w1.heap.size+1) (w1.heap.size+2) w.heap.size bb s (foldO T s (pre++[x])) (pre++[x]).length _
     rw[HSn.out,HE2.out,List.length_append,List.length_singleton]
     exact HS4.out.count (by omega) (by omega) (by omega) (by omega) (by omega) (by omega) (pre.length+1)
 case done=>
  rintro D zs W hD rfl ⟨hno,hI⟩ hK
  have HI:=Lib.hid hI
  have k40:=hI.k4.cell 0
  have k41:=hI.k4.cell 1
  have f40:=hI.k4.frozen 0
  have f41:=hI.k4.frozen 1
  have k50:=hI.k5.cell 0
  have f50:=hI.k5.frozen 0
  dsimp only[List.getElem?_cons_zero,List.getElem?_cons_succ] at k40 k41 k50
  clear hI hst
  gi_wp2
  have bb4:=((HI.out.k4.set 0 (.int .i64 0)).set 1 (.int .i64 0)).other (p:=⟨w.heap.size+2,0,none⟩) (by simp) (.bool false)
  have bb5:=((HI.out.k5.other (p:=⟨w.heap.size+1,0,none⟩) (by simp) (.int .i64 0)).other (p:=⟨w.heap.size+1,1,none⟩) (by simp) (.int .i64 0)).set 0 (.bool false)
  have hB3:=((HI.out.o.B.setCell (p:=⟨w.heap.size+1,0,none⟩) (by simp) (.int .i64 0)).setCell (p:=⟨w.heap.size+1,1,none⟩) (by simp) (.int .i64 0)).setCell (p:=⟨w.heap.size+2,0,none⟩) (by simp) (.bool false)
  have hK':=((KeepsOthers.setCell W ⟨w.heap.size+1,0,none⟩ (.int .i64 0)).trans ((KeepsOthers.setCell _ ⟨w.heap.size+1,1,none⟩ (.int .i64 0)).trans (KeepsOthers.setCell _ ⟨w.heap.size+2,0,none⟩ (.bool false)))).same D _ hK rfl
  refine⟨by simp,.inl ⟨_,_,rfl,run_takeDeferred hK',?_⟩⟩
  have r0:=cell_kept (bb4.cell 0) (grownBy_putObj' _ D (.deferred none)) (fun r e=>by cases e;exact⟨_,hK',rfl⟩)
  have r1:=cell_kept (bb4.cell 1) (grownBy_putObj' _ D (.deferred none)) (fun r e=>by cases e;exact⟨_,hK',rfl⟩)
  have r2:=cell_kept (bb5.cell 0) (grownBy_putObj' _ D (.deferred none)) (fun r e=>by cases e;exact⟨_,hK',rfl⟩)
  refine⟨.tuple #[.agg #[.int .i64 0,.int .i64 0],.bool false],?_,?_,hB3.trans (belowK_b (w:=w) (Nat.le_refl _) _ D _ _ (by omega) hK' rfl rfl)⟩
  ·simp[results,Tryz.results19,go_sem,r0,r1,r2]
  ·rw[show stopN T s=none from hno];rfl
 case stop=>
  rintro D cc pre W hD hpre ⟨⟨rfl,pre0,x,rfl,hno,hfr,he⟩,b4,b5,hB1⟩ hK
  obtain⟨rest,hrest⟩:=hpre
  have HSt:=Lib.hid (stop_at T s pre0 rest x hno (by rw[←hrest];simp) hfr he)
  have b4:=b4.of_eq (vs':=[.int .i64 (x.1:Nat),.int .i64 (pre0.length:Nat)]) (by simp)
  clear hno hfr he hrest hst
  gi_wp2
  refine⟨by simp,.inl ⟨_,_,rfl,run_takeDeferred hK,?_⟩⟩
  have r0:=cell_kept (b4.cell 0) (grownBy_putObj' _ D (.deferred none)) (fun r e=>by cases e;exact⟨_,hK,rfl⟩)
  have r1:=cell_kept (b4.cell 1) (grownBy_putObj' _ D (.deferred none)) (fun r e=>by cases e;exact⟨_,hK,rfl⟩)
  have r2:=cell_kept (b5.cell 0) (grownBy_putObj' _ D (.deferred none)) (fun r e=>by cases e;exact⟨_,hK,rfl⟩)
  refine⟨.tuple #[.agg #[.int .i64 (x.1:Nat),.int .i64 (pre0.length:Nat)],.bool true],?_,?_,hB1.trans (belowK_b (w:=w) (Nat.le_refl _) _ D _ _ (by omega) hK rfl rfl)⟩
  ·simp[results,Tryz.results19,go_sem,r0,r1,r2]
  ·rw[HSt.out];rfl
end Go.Proofs.YtioehfhdoohdmaaGreatDoor
namespace Go.Proofs.YtioehfhdoohdmaaGreatDoor
set_option maxRecDepth 100000
theorem house_large:largeB houseT=false:=by decide +kernel
theorem house_check:(checkW houseT).1=0:=by decide +kernel
theorem known_stop:stopN houseT ⟨#[97,49,208,176]⟩=some (2,2):=by decide +kernel
theorem known_of:foldO houseT ⟨#[97,98,49]⟩ (places ⟨#[97,98,49]⟩)=[0]:=by decide +kernel
theorem known_can:(foldO houseT ⟨#[49]⟩ (places ⟨#[49]⟩)).contains 2=true:=by decide +kernel
theorem house_room:TabRoom houseT:=by constructor <;> decide +kernel
theorem house_fit:TabFit houseT:=house_room.fit house_large
end Go.Proofs.YtioehfhdoohdmaaGreatDoor
