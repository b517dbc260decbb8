/- KnownA: KeepOf, KnownS. -/
import Derived.Test.YtioehfhdoohdmaaGreatDoorNew
import Derived.Test.YtioehfhdoohdmaaGreatDoorT6m
import Derived.Test.YtioehfhdoohdmaaGreatDoorChkA
import Derived.Test.YtioehfhdoohdmaaGreatDoorScrA
import Derived.Test.YtioehfhdoohdmaaGreatDoorMeetA
set_option linter.unusedVariables false
set_option linter.unusedSimpArgs false
namespace Go.Proofs.YtioehfhdoohdmaaGreatDoor
open Go.RowKit Go.Shelf BigFrame
def upB (T:Tab):Bool:=!largeB T && decide ((checkW T).1=0)
def OfPost (W:World) (T:Tab) (e:Ending) (w':World):Prop:=Below W.heap.size W w'∧((upB T=false∧e=.returned (.tuple #[.pointer none,.bool false,.bool true])) ∨
 (upB T=true∧∃(bb:Nat) (B:BAddr),e=.returned (.tuple #[.pointer (some ⟨bb,0,none⟩),.bool true,.bool true])∧BookAt w' bb B T∧TabNew W.heap.size w' T B.a∧W.heap.size≤bb∧W.heap.size≤B.m1∧W.heap.size≤B.m2∧W.heap.size≤B.m3∧W.heap.size≤B.m4∧W.heap.size≤B.m5))
set_option maxRecDepth 100000 in
set_option maxHeartbeats 40000000 in
theorem keepOf_any (T:Tab) (a:TAddr) (W:World) (h:TabAt W T a) (hz:Lib.Utf8Tabs 0 1 W) (hf:TabRoom T):Calls Tryz.prog 11 #[.agg (tabCells T a)] W (OfPost W T):=by
 obtain⟨hT,HTb,hB,hz0⟩:=box1 h
 have HPo:Hid (∀(W1:World),Below W.heap.size W W1→Calls Tryz.prog 45 #[.agg (tabCells T a)] W1 (fun e w'=>e=.returned (.bool (largeB T))∧Below W1.heap.size W1 w')):=Lib.hid (fun W1 h1=>large_any T a W1 (h.below h1) hf)
 have HNw:Hid (largeB T=false→∀(W1:World),Below W.heap.size W W1→Calls Tryz.prog 46 #[.agg (tabCells T a)] W1 (NewPost W1 T)):=Lib.hid (fun hl W1 h1=>new_any T a W1 (h.below h1) (tabs_below hz h1) (hf.fit hl))
 have HCk:Hid (largeB T=false→∀(W1:World),Below W.heap.size W W1→Calls Tryz.prog 47 #[.agg (tabCells T a)] W1 (fun e w'=>e=.returned (wV (checkW T))∧Below W1.heap.size W1 w')):=Lib.hid (fun hl W1 h1=>Check_any T a W1 (h.below h1) (hf.fit hl).small)
 obtain⟨UP,hUP⟩:∃b,upB T=b:=⟨_,rfl⟩
 have HUP:=Lib.hid hUP
 clear hUP
 obtain⟨x1,x2,x3,hx⟩:∃x1 x2 x3:Int,checkW T=(x1,x2,x3):=⟨_,_,_,rfl⟩
 have HX:=Lib.hid hx
 rw[hx] at HCk
 clear hx
 obtain⟨LB,hLB⟩:∃b,largeB T=b:=⟨_,rfl⟩
 rw[hLB] at HPo HNw HCk
 have HLB:=Lib.hid hLB
 clear hLB
 obtain⟨TT,hTT⟩:∃TT:Tab,TT=T:=⟨_,rfl⟩
 have HTT:=Lib.hid hTT
 clear hTT
 obtain⟨l0,l1,l2,l3,l4,l5,l6,l7⟩:=T
 obtain⟨o0,o1,o2,o3,o4,o5,o6,o7,c0,c1,c2,c3,c4,c5,c6,c7⟩:=a
 simp only[tabCells,wV] at hT HTb hB hz0 HPo HNw HCk ⊢
 obtain⟨W0,hW0⟩:∃W0,(W.alloc (.cells #[.slice o0 l0.length c0,.slice o1 l1.length c1,.slice o2 l2.length c2,.slice o3 l3.length c3,.slice o4 l4.length c4,.slice o5 l5.length c5,.slice o6 l6.length c6,.slice o7 l7.length c7] 28))=W0:=⟨_,rfl⟩
 rw[hW0] at hT HTb hB hz0
 have HW0:=Lib.hid hW0
 have HB:=Lib.hid hB
 have HT0:=Lib.hid (HTb 0 (.slice o0 l0.length c0) rfl)
 have t0:=HT0.out
 have HT1:=Lib.hid (HTb 1 (.slice o1 l1.length c1) rfl)
 have t1:=HT1.out
 have HT2:=Lib.hid (HTb 2 (.slice o2 l2.length c2) rfl)
 have t2:=HT2.out
 have HT3:=Lib.hid (HTb 3 (.slice o3 l3.length c3) rfl)
 have t3:=HT3.out
 have HT4:=Lib.hid (HTb 4 (.slice o4 l4.length c4) rfl)
 have t4:=HT4.out
 have HT5:=Lib.hid (HTb 5 (.slice o5 l5.length c5) rfl)
 have t5:=HT5.out
 have HT6:=Lib.hid (HTb 6 (.slice o6 l6.length c6) rfl)
 have t6:=HT6.out
 have HT7:=Lib.hid (HTb 7 (.slice o7 l7.length c7) rfl)
 have t7:=HT7.out
 clear hT HTb hB hz0 h hW0 hz hf
 go_enter Tryz.func11,Tryz.ntmps11
 go_wp2_with fail
 rw[HW0.out]
 clear HW0
 (with_reducible refine Calls.mono (HPo.out _ HB.out) ?_)
 rintro e w1 ⟨rfl,hB1⟩
 have HB1:=Lib.hid hB1
 clear hB1 HPo t0 t1 t2 t3 t4 t5 t6 t7
 cases LB with
 | true=>
  go_wp2_with fail
  go_ret3
  exact⟨HB.out.trans (HB1.out.mono HB.out.size),Or.inl ⟨by unfold upB;rw[HLB.out];rfl,rfl⟩⟩
 | false=>
  have HNv:=Lib.hid (HNw.out rfl)
  have HCv:=Lib.hid (HCk.out rfl)
  clear HNw HCk
  have HNw:=HNv
  have HCk:=HCv
  clear HNv HCv
  have HB2:=Lib.hid (HB.out.trans (HB1.out.mono HB.out.size))
  have t0:=cell_bel HB1.out HT0.out
  have t1:=cell_bel HB1.out HT1.out
  have t2:=cell_bel HB1.out HT2.out
  have t3:=cell_bel HB1.out HT3.out
  have t4:=cell_bel HB1.out HT4.out
  have t5:=cell_bel HB1.out HT5.out
  have t6:=cell_bel HB1.out HT6.out
  have t7:=cell_bel HB1.out HT7.out
  go_wp2_with fail
  (with_reducible refine Calls.mono (HNw.out _ HB2.out) ?_)
  rintro e w2 ⟨hB3,hN⟩
  have HB3:=Lib.hid hB3
  clear hB3 HNw t0 t1 t2 t3 t4 t5 t6 t7
  rcases hN with ⟨hne,rfl⟩ | ⟨bb,B,rfl,hbk,hrest⟩
  ·skip
   try simp only[HX.out,wV]
   rw[HX.out] at hne
   have Hne:=Lib.hid hne
   clear hne
   have HB4:=Lib.hid (HB2.out.trans (HB3.out.mono HB2.out.size))
   go_upto_region 4 with fail
   have b6:=Blk.new' w2 #[.int .i64 x1,.int .i64 x2,.int .i64 x3] 100
   have hal:Below w2.heap.size w2 (w2.alloc (.cells #[.int .i64 x1,.int .i64 x2,.int .i64 x3] 100)):=(Below.refl _ _).alloc (Nat.le_refl _) _
   have HB5:=Lib.hid (HB4.out.trans (hal.mono HB4.out.size))
   have HAl:=Lib.hid hal
   obtain⟨z2,hz2⟩:∃z,w2.alloc (.cells #[.int .i64 x1,.int .i64 x2,.int .i64 x3] 100)=z:=⟨_,rfl⟩
   rw[hz2] at b6 HB5 HAl ⊢
   obtain⟨g6,hg6⟩:∃g,w2.heap.size=g:=⟨_,rfl⟩
   rw[hg6] at b6 ⊢
   have HB6:=Lib.hid b6
   clear hz2 hg6 b6 hal
   have t0:z2.cell? ⟨W.heap.size,0,none⟩=some (.slice o0 l0.length c0):=cell_bel (HB1.out.trans ((HB3.out.mono HB1.out.size).trans (HAl.out.mono (Nat.le_trans HB1.out.size HB3.out.size)))) HT0.out
   have t1:z2.cell? ⟨W.heap.size,1,none⟩=some (.slice o1 l1.length c1):=cell_bel (HB1.out.trans ((HB3.out.mono HB1.out.size).trans (HAl.out.mono (Nat.le_trans HB1.out.size HB3.out.size)))) HT1.out
   have t2:z2.cell? ⟨W.heap.size,2,none⟩=some (.slice o2 l2.length c2):=cell_bel (HB1.out.trans ((HB3.out.mono HB1.out.size).trans (HAl.out.mono (Nat.le_trans HB1.out.size HB3.out.size)))) HT2.out
   have t3:z2.cell? ⟨W.heap.size,3,none⟩=some (.slice o3 l3.length c3):=cell_bel (HB1.out.trans ((HB3.out.mono HB1.out.size).trans (HAl.out.mono (Nat.le_trans HB1.out.size HB3.out.size)))) HT3.out
   have t4:z2.cell? ⟨W.heap.size,4,none⟩=some (.slice o4 l4.length c4):=cell_bel (HB1.out.trans ((HB3.out.mono HB1.out.size).trans (HAl.out.mono (Nat.le_trans HB1.out.size HB3.out.size)))) HT4.out
   have t5:z2.cell? ⟨W.heap.size,5,none⟩=some (.slice o5 l5.length c5):=cell_bel (HB1.out.trans ((HB3.out.mono HB1.out.size).trans (HAl.out.mono (Nat.le_trans HB1.out.size HB3.out.size)))) HT5.out
   have t6:z2.cell? ⟨W.heap.size,6,none⟩=some (.slice o6 l6.length c6):=cell_bel (HB1.out.trans ((HB3.out.mono HB1.out.size).trans (HAl.out.mono (Nat.le_trans HB1.out.size HB3.out.size)))) HT6.out
   have t7:z2.cell? ⟨W.heap.size,7,none⟩=some (.slice o7 l7.length c7):=cell_bel (HB1.out.trans ((HB3.out.mono HB1.out.size).trans (HAl.out.mono (Nat.le_trans HB1.out.size HB3.out.size)))) HT7.out
   go_wp2_with fail
   (with_reducible refine Calls.mono (HCk.out _ HB5.out) ?_)
   rintro e w3 ⟨rfl,hB7⟩
   have HB7:=Lib.hid hB7
   clear hB7 HCk t0 t1 t2 t3 t4 t5 t6 t7
   have hd:(x1 != 0)=true:=by have:=Hne.out;simpa using this
   go_upto_region 6 with fail
   have b7:=Blk.new' w3 #[.int .i64 x1,.int .i64 x2,.int .i64 x3] 100
   have hal:Below w3.heap.size w3 (w3.alloc (.cells #[.int .i64 x1,.int .i64 x2,.int .i64 x3] 100)):=(Below.refl _ _).alloc (Nat.le_refl _) _
   have b6:=HB6.out.keep ((Keep.of_below HB7.out (fun _=>False)).trans (Keep.of_below hal _)) (by simp)
   have HB8:=Lib.hid (HB5.out.trans ((HB7.out.trans (hal.mono HB7.out.size)).mono HB5.out.size))
   have HB9:=Lib.hid (HB7.out.trans (hal.mono HB7.out.size))
   obtain⟨z3,hz3⟩:∃z,w3.alloc (.cells #[.int .i64 x1,.int .i64 x2,.int .i64 x3] 100)=z:=⟨_,rfl⟩
   rw[hz3] at b6 b7 HB8 HB9 ⊢
   obtain⟨g7,hg7⟩:∃g,w3.heap.size=g:=⟨_,rfl⟩
   rw[hg7] at b7 ⊢
   clear hz3 hg7 hal
   have c60:=b6.cell 0
   have c70:=b7.cell 0
   have c61:=b6.cell 1
   have c71:=b7.cell 1
   have c62:=b6.cell 2
   have c72:=b7.cell 2
   dsimp only[List.getElem?_cons_zero,List.getElem?_cons_succ] at c60 c70 c61 c71 c62 c72
   clear b6 b7
   go_big_region
   all_goals (refine ?hA)
   clear c60 c70 c61 c71 c62 c72
   try go_wp2_with fail
   go_ret3
   exact⟨HB8.out.drew,Or.inl ⟨by unfold upB;rw[HX.out];simp[Hne.out],rfl⟩⟩
  ·skip
   have Hbk:=Lib.hid hbk
   have Hrest:=Lib.hid hrest
   clear hbk hrest
   have HB4:=Lib.hid (HB2.out.trans (HB3.out.mono HB2.out.size))
   go_upto_region 4 with fail
   have b6:=Blk.new' w2 #[.int .i64 0,.int .i64 0,.int .i64 0] 100
   have hal:Below w2.heap.size w2 (w2.alloc (.cells #[.int .i64 0,.int .i64 0,.int .i64 0] 100)):=(Below.refl _ _).alloc (Nat.le_refl _) _
   have HB5:=Lib.hid (HB4.out.trans (hal.mono HB4.out.size))
   have HAl:=Lib.hid hal
   obtain⟨z2,hz2⟩:∃z,w2.alloc (.cells #[.int .i64 0,.int .i64 0,.int .i64 0] 100)=z:=⟨_,rfl⟩
   rw[hz2] at b6 HB5 HAl ⊢
   obtain⟨g6,hg6⟩:∃g,w2.heap.size=g:=⟨_,rfl⟩
   rw[hg6] at b6 ⊢
   have HB6:=Lib.hid b6
   clear hz2 hg6 b6 hal
   have t0:z2.cell? ⟨W.heap.size,0,none⟩=some (.slice o0 l0.length c0):=cell_bel (HB1.out.trans ((HB3.out.mono HB1.out.size).trans (HAl.out.mono (Nat.le_trans HB1.out.size HB3.out.size)))) HT0.out
   have t1:z2.cell? ⟨W.heap.size,1,none⟩=some (.slice o1 l1.length c1):=cell_bel (HB1.out.trans ((HB3.out.mono HB1.out.size).trans (HAl.out.mono (Nat.le_trans HB1.out.size HB3.out.size)))) HT1.out
   have t2:z2.cell? ⟨W.heap.size,2,none⟩=some (.slice o2 l2.length c2):=cell_bel (HB1.out.trans ((HB3.out.mono HB1.out.size).trans (HAl.out.mono (Nat.le_trans HB1.out.size HB3.out.size)))) HT2.out
   have t3:z2.cell? ⟨W.heap.size,3,none⟩=some (.slice o3 l3.length c3):=cell_bel (HB1.out.trans ((HB3.out.mono HB1.out.size).trans (HAl.out.mono (Nat.le_trans HB1.out.size HB3.out.size)))) HT3.out
   have t4:z2.cell? ⟨W.heap.size,4,none⟩=some (.slice o4 l4.length c4):=cell_bel (HB1.out.trans ((HB3.out.mono HB1.out.size).trans (HAl.out.mono (Nat.le_trans HB1.out.size HB3.out.size)))) HT4.out
   have t5:z2.cell? ⟨W.heap.size,5,none⟩=some (.slice o5 l5.length c5):=cell_bel (HB1.out.trans ((HB3.out.mono HB1.out.size).trans (HAl.out.mono (Nat.le_trans HB1.out.size HB3.out.size)))) HT5.out
   have t6:z2.cell? ⟨W.heap.size,6,none⟩=some (.slice o6 l6.length c6):=cell_bel (HB1.out.trans ((HB3.out.mono HB1.out.size).trans (HAl.out.mono (Nat.le_trans HB1.out.size HB3.out.size)))) HT6.out
   have t7:z2.cell? ⟨W.heap.size,7,none⟩=some (.slice o7 l7.length c7):=cell_bel (HB1.out.trans ((HB3.out.mono HB1.out.size).trans (HAl.out.mono (Nat.le_trans HB1.out.size HB3.out.size)))) HT7.out
   go_wp2_with fail
   (with_reducible refine Calls.mono (HCk.out _ HB5.out) ?_)
   rintro e w3 ⟨rfl,hB7⟩
   have HB7:=Lib.hid hB7
   clear hB7 HCk t0 t1 t2 t3 t4 t5 t6 t7
   obtain rfl:x1=0:=by have h1:=Hbk.out.right;rw[HX.out] at h1;exact h1
   go_upto_region 7 with fail
   have b7:=Blk.new' w3 #[.int .i64 0,.int .i64 x2,.int .i64 x3] 100
   have hal:Below w3.heap.size w3 (w3.alloc (.cells #[.int .i64 0,.int .i64 x2,.int .i64 x3] 100)):=(Below.refl _ _).alloc (Nat.le_refl _) _
   have b6:=HB6.out.keep ((Keep.of_below HB7.out (fun _=>False)).trans (Keep.of_below hal _)) (by simp)
   have HB8:=Lib.hid (HB5.out.trans ((HB7.out.trans (hal.mono HB7.out.size)).mono HB5.out.size))
   have HB9:=Lib.hid (HB7.out.trans (hal.mono HB7.out.size))
   obtain⟨z3,hz3⟩:∃z,w3.alloc (.cells #[.int .i64 0,.int .i64 x2,.int .i64 x3] 100)=z:=⟨_,rfl⟩
   rw[hz3] at b6 b7 HB8 HB9 ⊢
   obtain⟨g7,hg7⟩:∃g,w3.heap.size=g:=⟨_,rfl⟩
   rw[hg7] at b7 ⊢
   clear hz3 hg7 hal
   have c60:=b6.cell 0
   have c70:=b7.cell 0
   have c61:=b6.cell 1
   have c71:=b7.cell 1
   have c62:=b6.cell 2
   have c72:=b7.cell 2
   dsimp only[List.getElem?_cons_zero,List.getElem?_cons_succ] at c60 c70 c61 c71 c62 c72
   clear b6 b7
   go_wp2_with fail
   go_ret3
   have hup:upB ⟨l0,l1,l2,l3,l4,l5,l6,l7⟩=true:=by unfold upB;rw[HX.out,HLB.out];rfl
   exact⟨HB8.out,Or.inr ⟨hup,bb,B,rfl,(Hbk.out.below HAl.out).below HB9.out,((Hrest.out.1.below HAl.out).below HB9.out).mono HB2.out.size,by have h1:=Hrest.out;have h2:=HB2.out.size;omega,by have h1:=Hrest.out;have h2:=HB2.out.size;omega,by have h1:=Hrest.out;have h2:=HB2.out.size;omega,by have h1:=Hrest.out;have h2:=HB2.out.size;omega,by have h1:=Hrest.out;have h2:=HB2.out.size;omega,by have h1:=Hrest.out;have h2:=HB2.out.size;omega⟩⟩
end Go.Proofs.YtioehfhdoohdmaaGreatDoor
namespace Go.Proofs.YtioehfhdoohdmaaGreatDoor
open Go.RowKit Go.Shelf
theorem house_up:upB houseT=true:=by unfold upB;rw[house_large,house_check];rfl
set_option maxRecDepth 100000 in
set_option maxHeartbeats 4000000 in
theorem known_any (W:World) (hz:Lib.Utf8Tabs 0 1 W):Calls Tryz.prog 12 #[] W fun e w'=>e=.returned (.bool true)∧Below W.heap.size W w':=by
 have HZ:=Lib.hid hz
 clear hz
 go_enter Tryz.func12,Tryz.ntmps12
 go_wp2_with fail
 refine Calls.mono (house_table W) ?_
 rintro e w1 ⟨a,rfl,ha,hB1⟩
 have HB1:=Lib.hid hB1
 have hk:=keepOf_any houseT a w1 ha (tabs_below HZ.out hB1) house_room
 have HK:=Lib.hid hk
 clear ha hB1 hk
 go_wp2_with fail
 refine Calls.mono HK.out ?_
 rintro e w2 ⟨hB2,hrest⟩
 rcases hrest with ⟨hu,_⟩ | ⟨_,bb,B,rfl,hbk,_⟩
 ·rw[house_up] at hu;cases hu
 have HB2:=Lib.hid (HB1.out.trans (hB2.mono HB1.out.size))
 have HBk:=Lib.hid hbk
 have hst:=sstop_any houseT bb B ⟨#[97,49,208,176]⟩ w2 hbk house_fit (by decide)
 rw[known_stop] at hst
 have HS:=Lib.hid hst
 clear hB2 hbk HK hst
 go_wp2_with fail
 refine Calls.mono HS.out ?_
 rintro e w3 ⟨rfl,hB3⟩
 have HB3:=Lib.hid hB3
 clear hB3 HS
 simp only[stopV,Option.getD_some,Option.isSome_some]
 go_wp2_with fail
 have hal:Below w3.heap.size w3 (w3.alloc (.cells #[.int .i64 2,.int .i64 2] 46)):=(Below.refl _ _).alloc (Nat.le_refl _) _
 have HBk4:=Lib.hid ((HBk.out.below HB3.out).below hal)
 have HB4:=Lib.hid (HB2.out.trans ((HB3.out.trans (hal.mono HB3.out.size)).mono HB2.out.size))
 generalize w3.alloc (.cells #[.int .i64 2,.int .i64 2] 46)=w4 at *
 have hof:=sof_any houseT bb B ⟨#[97,98,49]⟩ w4 HBk4.out house_fit (by decide)
 rw[known_of] at hof
 have HO:=Lib.hid hof
 clear hof hal HB3 HBk HB2
 refine Calls.mono HO.out ?_
 rintro e w5 ⟨g,c,rfl,ho,hB5⟩
 have HB5:=Lib.hid (HB4.out.trans (hB5.mono HB4.out.size))
 have HBk5:=Lib.hid (HBk4.out.below hB5)
 have HRd:=Lib.hid (own_rd' ho)
 clear HO ho hB5 HB4 HBk4
 go_wp2_with fail
 have hal:Below w5.heap.size w5 (w5.alloc (.cells #[.int .i64 0] 3)):=(Below.refl _ _).alloc (Nat.le_refl _) _
 have hr2:Rd (w5.alloc (.cells #[.int .i64 0] 3)) (some ⟨w5.heap.size,0,none⟩) (iV [0]):=(Blk.new' w5 #[.int .i64 0] 3).rd
 have HBk6:=Lib.hid (HBk5.out.below hal)
 have HB6:=Lib.hid (HB5.out.trans (hal.mono HB5.out.size))
 have hsm:=sameI_any (some ⟨g,0,none⟩) (some ⟨w5.heap.size,0,none⟩) c 1 [0] [0] _ (HRd.out.below hal) hr2 (by simp) (by simp)
 have HS:=Lib.hid hsm
 generalize w5.alloc (.cells #[.int .i64 0] 3)=w6 at *
 clear hal hr2 hsm HB5 HBk5
 refine Calls.mono HS.out ?_
 rintro e w7 ⟨rfl,k,rfl⟩
 have hcn:=scan14_any houseT bb B ⟨#[49]⟩ 2 (w6.drewN k) (HBk6.out.below (drewN_below w6 k)) house_fit (by decide)
 rw[known_can] at hcn
 have HC:=Lib.hid hcn
 have HB7:=Lib.hid (HB6.out.trans ((drewN_below w6 k).mono HB6.out.size))
 clear hcn HS HB6
 generalize w6.drewN k=w7 at *
 go_wp2_with fail
 refine Calls.mono HC.out ?_
 rintro e w8 ⟨rfl,hB8⟩
 have HB8:=Lib.hid (HB7.out.trans (hB8.mono HB7.out.size))
 clear hB8 HC
 go_wp2_with fail
 go_ret
 exact⟨rfl,HB8.out⟩
end Go.Proofs.YtioehfhdoohdmaaGreatDoor
