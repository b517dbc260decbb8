/- BookA: Copied, Book0. -/
import Derived.Test.YtioehfhdoohdmaaGreatDoorCloneA
import Derived.Test.YtioehfhdoohdmaaGreatDoorChkA
set_option linter.unusedVariables false
set_option linter.unusedSimpArgs false
namespace Go.Proofs.YtioehfhdoohdmaaGreatDoor
open Go.RowKit Go.Shelf BigFrame
def CopiedPost (W:World) (T:Tab) (e:Ending) (w':World):Prop:=∃a':TAddr,e=.returned (.agg (tabCells T a'))∧TabAt w' T a'∧TabNew W.heap.size w' T a'∧Below W.heap.size W w'
set_option maxRecDepth 100000 in
set_option maxHeartbeats 40000000 in
theorem copied_any (T:Tab) (a:TAddr) (W:World) (h:TabAt W T a) (hf:TabFit T):Calls Tryz.prog 75 #[.agg (tabCells T a)] W (CopiedPost W T):=by
 obtain⟨l0,l1,l2,l3,l4,l5,l6,l7⟩:=T
 obtain⟨o0,o1,o2,o3,o4,o5,o6,o7,c0,c1,c2,c3,c4,c5,c6,c7⟩:=a
 have hB1:Below W.heap.size W (W.alloc (.cells #[.slice o0 l0.length c0,.slice o1 l1.length c1,.slice o2 l2.length c2,.slice o3 l3.length c3,.slice o4 l4.length c4,.slice o5 l5.length c5,.slice o6 l6.length c6,.slice o7 l7.length c7] 28)):=(Below.refl _ W).alloc (Nat.le_refl _) _
 have hB:Below W.heap.size W ((W.alloc (.cells #[.slice o0 l0.length c0,.slice o1 l1.length c1,.slice o2 l2.length c2,.slice o3 l3.length c3,.slice o4 l4.length c4,.slice o5 l5.length c5,.slice o6 l6.length c6,.slice o7 l7.length c7] 28)).alloc (.cells #[.slice none 0 0,.slice none 0 0,.slice none 0 0,.slice none 0 0,.slice none 0 0,.slice none 0 0,.slice none 0 0,.slice none 0 0] 28)):=hB1.alloc hB1.size _
 have bA:=Blk.new' (W.alloc (.cells #[.slice o0 l0.length c0,.slice o1 l1.length c1,.slice o2 l2.length c2,.slice o3 l3.length c3,.slice o4 l4.length c4,.slice o5 l5.length c5,.slice o6 l6.length c6,.slice o7 l7.length c7] 28)) #[.slice none 0 0,.slice none 0 0,.slice none 0 0,.slice none 0 0,.slice none 0 0,.slice none 0 0,.slice none 0 0,.slice none 0 0] 28
 rw[show (W.alloc (.cells #[.slice o0 l0.length c0,.slice o1 l1.length c1,.slice o2 l2.length c2,.slice o3 l3.length c3,.slice o4 l4.length c4,.slice o5 l5.length c5,.slice o6 l6.length c6,.slice o7 l7.length c7] 28)).heap.size=W.heap.size+1 by simp] at bA
 have bP:=(Blk.new' W #[.slice o0 l0.length c0,.slice o1 l1.length c1,.slice o2 l2.length c2,.slice o3 l3.length c3,.slice o4 l4.length c4,.slice o5 l5.length c5,.slice o6 l6.length c6,.slice o7 l7.length c7] 28).alloc (.cells #[.slice none 0 0,.slice none 0 0,.slice none 0 0,.slice none 0 0,.slice none 0 0,.slice none 0 0,.slice none 0 0,.slice none 0 0] 28)
 have hT:=h.below hB
 simp only[tabCells] at hT ⊢
 obtain⟨W0,hW0⟩:∃W0,(W.alloc (.cells #[.slice o0 l0.length c0,.slice o1 l1.length c1,.slice o2 l2.length c2,.slice o3 l3.length c3,.slice o4 l4.length c4,.slice o5 l5.length c5,.slice o6 l6.length c6,.slice o7 l7.length c7] 28)).alloc (.cells #[.slice none 0 0,.slice none 0 0,.slice none 0 0,.slice none 0 0,.slice none 0 0,.slice none 0 0,.slice none 0 0,.slice none 0 0] 28)=W0:=⟨_,rfl⟩
 rw[hW0] at hB bA bP hT
 have HW0:=Lib.hid hW0
 have HB:=Lib.hid hB
 have HA:=Lib.hid bA
 have HP:=Lib.hid bP
 have HT:=Lib.hid hT
 have HF:=Lib.hid hf
 have n0:l0.length≤1048576:=hf.l0
 have n1:l1.length≤1048576:=hf.l1
 have n2:l2.length≤1048576:=hf.l2
 have n3:l3.length≤1048576:=hf.l3
 have n4:l4.length≤1048576:=hf.l4
 have n5:l5.length≤1048576:=hf.l5
 have n6:l6.length≤1048576:=hf.l6
 have n7:l7.length≤1048576:=hf.l7
 have t0:=bP.cell 0
 have HC0:=Lib.hid (copyScript_any o0 c0 l0 W0 hT.scripts n0)
 have HL0:Hid (∀(p:Option Addr) (n d:Nat) (U:World),n≤d→d≤maxLen→Calls Tryz.prog 112 #[.slice p n d] U fun e w'=>e=.returned (.slice p n n)∧U=w'):=Lib.hid (fun p n d U h1 h2=>clipScript2_any p n d U h1 h2)
 have HL1:Hid (∀(p:Option Addr) (n d:Nat) (U:World),n≤d→d≤maxLen→Calls Tryz.prog 114 #[.slice p n d] U fun e w'=>e=.returned (.slice p n n)∧U=w'):=Lib.hid (fun p n d U h1 h2=>clipSpan2_any p n d U h1 h2)
 have HL2:Hid (∀(p:Option Addr) (n d:Nat) (U:World),n≤d→d≤maxLen→Calls Tryz.prog 116 #[.slice p n d] U fun e w'=>e=.returned (.slice p n n)∧U=w'):=Lib.hid (fun p n d U h1 h2=>clipMark2_any p n d U h1 h2)
 have HL3:Hid (∀(p:Option Addr) (n d:Nat) (U:World),n≤d→d≤maxLen→Calls Tryz.prog 118 #[.slice p n d] U fun e w'=>e=.returned (.slice p n n)∧U=w'):=Lib.hid (fun p n d U h1 h2=>clipPair2_any p n d U h1 h2)
 have HL4:Hid (∀(p:Option Addr) (n d:Nat) (U:World),n≤d→d≤maxLen→Calls Tryz.prog 120 #[.slice p n d] U fun e w'=>e=.returned (.slice p n n)∧U=w'):=Lib.hid (fun p n d U h1 h2=>clipMap2_any p n d U h1 h2)
 clear hT hB hB1 h bA bP hW0 hf
 obtain⟨fn,hfn,Hres⟩:∃fn,Tryz.f75=fn∧Hid (fn.results=#[.cell 2 28]):=⟨_,rfl,Lib.hid Tryz.results75⟩
 go_enter Tryz.func75,Tryz.ntmps75
 rw[hfn]
 clear hfn
 go_upto_region 1 with fail
 try dsimp only
 rw[HW0.out]
 clear HW0
 go_wp2_with fail
 (with_reducible refine Calls.mono HC0.out ?_)
 rintro e w1 ⟨p0,d0,rfl,K0⟩
 clear HC0 t0
 go_wp2_with fail
 (with_reducible refine Calls.mono (HL0.out _ _ _ _ K0.out.1 K0.out.2.1) ?_)
 rintro e w' ⟨rfl,rfl⟩
 have HS:Hid (CSt W0.heap.size w1 p0 l0 0 w1):=Lib.hid ⟨K0.out.2.2.2.1,⟨K0.out.2.2.2.2.1,fun i hi h0=>absurd h0 (by omega)⟩,Keep.refl _ _,fun a ha=>⟨(K0.out.2.2.2.2.2 a ha).2.2.1,(K0.out.2.2.2.2.2 a ha).2.2.2⟩⟩
 go_wp2_with fail
 go_loopw [11] (fun v11 wr=>∃i:Nat,v11=.int .i64 i∧i≤l0.length∧Hid (CSt W0.heap.size w1 p0 l0 i wr)) (fun v11 _=>l0.length - (intOf v11).toNat)
 case atStart=>exact⟨0,rfl,Nat.zero_le _,HS⟩
 case round=>
  clear HS
  obtain⟨i,rfl,hi,HS⟩:=hrel
  have i0:(0:Int)≤(i:Int):=Int.natCast_nonneg _
  by_cases hlt:i<l0.length
  ·have i1:(i:Int)<(l0.length:Int):=by omega
   obtain⟨g,off,so,sc,ho,hg,e0,e1,cs,cz,cy⟩:=HS.out.at_ i hlt
   have Hho:=Lib.hid ho
   have He1:=Lib.hid e1
   have Hnm:=Lib.hid (HF.out.names _ (List.getElem_mem hlt)).2
   have KC:=Lib.hid (copySpan_any so sc l0[i].2 wr cs Hnm.out)
   have HLt:=Lib.hid hlt
   have H6:=Lib.hid ((HS.out.fr _ ho).2 (off+i*2+1))
   subst ho
   clear e0 cs cz cy hg
   generalize hx:l0[i].2.length=xn at *
   have HX:=Lib.hid hx
   clear hx
   go_wp2_with fail
   (with_reducible refine Calls.mono KC.out ?_)
   rintro e w2 ⟨p,d,rfl,K⟩
   clear e1
   have e2:=cell_bel K.out.2.2.1 He1.out
   have f2:=(K.out.2.2.1.frozen (p:=⟨g,off+i*2+1,none⟩) (cell_lt He1.out)).trans H6.out
   go_wp2_with fail
   (with_reducible refine Calls.mono (HL1.out _ _ _ _ K.out.1 K.out.2.1) ?_)
   rintro e w' ⟨rfl,rfl⟩
   have HN:Hid (CSt W0.heap.size w1 (some ⟨g,off,none⟩) l0 (i+1) (w2.setCell ⟨g,off+i*2+1,none⟩ (.slice p xn xn))):=Lib.hid (by have h1:=He1.out;rw[←HX.out] at h1 ⊢;exact HS.out.next HLt.out rfl h1 K.out.2.2.1 K.out.2.2.2.1 (fun a ha=>Nat.le_trans (Nat.le_trans K0.out.2.2.1.size HS.out.keep.size) (K.out.2.2.2.2.1 a ha)))
   go_wp2_with fail
   exact⟨⟨i+1,by go_num,by omega,HN⟩,by simp[intOf];omega⟩
  ·obtain rfl:i=l0.length:=by omega
   clear hi hlt i0
   go_upto_region 7 with fail
   have hk0:Keep (fun k=>∃a,p0=some a∧k=a.block) W0 wr:=(Keep.of_below K0.out.2.2.1 _).trans HS.out.keep
   have hap:∀k,k<W0.heap.size→¬ (fun k=>∃a,p0=some a∧k=a.block) k:=fun k hk ⟨a,ha,e⟩=>by have:=K0.out.2.2.2.2.1 a ha;omega
   have hB0:Below W0.heap.size W0 wr:=hk0.below (fun k hk=>⟨hk,hap k hk⟩)
   have HB0:=Lib.hid hB0
   have hP:=HP.out.keep (Keep.of_below hB0 (fun _=>False)) (by simp)
   have hA:=HA.out.keep (Keep.of_below hB0 (fun _=>False)) (by simp)
   have hT:=HT.out.below hB0
   have HC1:Hid (∀U:World,Below wr.heap.size wr U→Calls Tryz.prog 115 #[.slice o1 l1.length c1] U (CpPost U l1.length (fun w p=>SpansAt w p l1))):=Lib.hid (fun U hU=>copySpan_any o1 c1 l1 U ((hT.common).below hU) n1)
   have HC2:Hid (∀U:World,Below wr.heap.size wr U→Calls Tryz.prog 117 #[.slice o2 l2.length c2] U (CpPost U l2.length (fun w p=>MarksAt w p l2))):=Lib.hid (fun U hU=>copyMark_any o2 c2 l2 U ((hT.marks).below hU) n2)
   have HC3:Hid (∀U:World,Below wr.heap.size wr U→Calls Tryz.prog 119 #[.slice o3 l3.length c3] U (CpPost U l3.length (fun w p=>PairsAt w p l3))):=Lib.hid (fun U hU=>copyPair_any o3 c3 l3 U ((hT.pairs).below hU) n3)
   have HC4:Hid (∀U:World,Below wr.heap.size wr U→Calls Tryz.prog 121 #[.slice o4 l4.length c4] U (CpPost U l4.length (fun w p=>MapsAt w p l4))):=Lib.hid (fun U hU=>copyMap_any o4 c4 l4 U ((hT.folds).below hU) n4)
   have HC5:Hid (∀U:World,Below wr.heap.size wr U→Calls Tryz.prog 121 #[.slice o5 l5.length c5] U (CpPost U l5.length (fun w p=>MapsAt w p l5))):=Lib.hid (fun U hU=>copyMap_any o5 c5 l5 U ((hT.looks).below hU) n5)
   have HC6:Hid (∀U:World,Below wr.heap.size wr U→Calls Tryz.prog 115 #[.slice o6 l6.length c6] U (CpPost U l6.length (fun w p=>SpansAt w p l6))):=Lib.hid (fun U hU=>copySpan_any o6 c6 l6 U ((hT.drops).below hU) n6)
   have HC7:Hid (∀U:World,Below wr.heap.size wr U→Calls Tryz.prog 115 #[.slice o7 l7.length c7] U (CpPost U l7.length (fun w p=>SpansAt w p l7))):=Lib.hid (fun U hU=>copySpan_any o7 c7 l7 U ((hT.allowed).below hU) n7)
   have HS2:Hid (∀w',Keep (fun k=>k=W.heap.size+1) wr w'→w'.cell? ⟨W.heap.size,1,none⟩=some (.slice o1 l1.length c1)∧w'.cell? ⟨W.heap.size,2,none⟩=some (.slice o2 l2.length c2)∧w'.cell? ⟨W.heap.size,3,none⟩=some (.slice o3 l3.length c3)∧w'.cell? ⟨W.heap.size,4,none⟩=some (.slice o4 l4.length c4)∧w'.cell? ⟨W.heap.size,5,none⟩=some (.slice o5 l5.length c5)∧w'.cell? ⟨W.heap.size,6,none⟩=some (.slice o6 l6.length c6)∧w'.cell? ⟨W.heap.size,7,none⟩=some (.slice o7 l7.length c7)):=Lib.hid (fun w' hk=>⟨(hk.cell (cell_lt (hP.cell 1)) (by simp)).trans (hP.cell 1),(hk.cell (cell_lt (hP.cell 2)) (by simp)).trans (hP.cell 2),(hk.cell (cell_lt (hP.cell 3)) (by simp)).trans (hP.cell 3),(hk.cell (cell_lt (hP.cell 4)) (by simp)).trans (hP.cell 4),(hk.cell (cell_lt (hP.cell 5)) (by simp)).trans (hP.cell 5),(hk.cell (cell_lt (hP.cell 6)) (by simp)).trans (hP.cell 6),(hk.cell (cell_lt (hP.cell 7)) (by simp)).trans (hP.cell 7)⟩)
   have HAr:=Lib.hid hA
   have HTr:=Lib.hid hT
   clear hk0 hap hB0 hP hA hT HP HT
   have hy0:=(Below.refl wr.heap.size wr).drew
   go_region_held3 (fun w'=>w'.cell? ⟨W.heap.size,1,none⟩=some (.slice o1 l1.length c1)∧w'.cell? ⟨W.heap.size,2,none⟩=some (.slice o2 l2.length c2)∧w'.cell? ⟨W.heap.size,3,none⟩=some (.slice o3 l3.length c3)∧w'.cell? ⟨W.heap.size,4,none⟩=some (.slice o4 l4.length c4)∧w'.cell? ⟨W.heap.size,5,none⟩=some (.slice o5 l5.length c5)∧w'.cell? ⟨W.heap.size,6,none⟩=some (.slice o6 l6.length c6)∧w'.cell? ⟨W.heap.size,7,none⟩=some (.slice o7 l7.length c7)) (first | (with_reducible exact HS2.out _ (keep_set8 (Keep.of_below hz7 _) (fun _=>rfl))) | (with_reducible exact HS2.out _ (Keep.of_below hz7 _)) | (with_reducible exact HS2.out _ (Keep.of_below hz6 _)) | (with_reducible exact HS2.out _ (Keep.of_below hz5 _)) | (with_reducible exact HS2.out _ (Keep.of_below hz4 _)) | (with_reducible exact HS2.out _ (Keep.of_below hz3 _)) | (with_reducible exact HS2.out _ (Keep.of_below hz2 _)) | (with_reducible exact HS2.out _ (Keep.of_below hz1 _)) | (with_reducible exact HS2.out _ (Keep.of_below hy0 _))) (first | (go_at_call 115;(with_reducible refine Calls.mono (HC1.out _ hy0) ?_);rintro e w' ⟨p1,d1,rfl,K1⟩;have hz1:=hy0.trans (K1.out.2.2.1.mono hy0.size)) | (go_at_call 114;(with_reducible refine Calls.mono (HL1.out _ _ _ _ K1.out.1 K1.out.2.1) ?_);rintro e w' ⟨rfl,rfl⟩) | (go_at_call 117;(with_reducible refine Calls.mono (HC2.out _ hz1) ?_);rintro e w' ⟨p2,d2,rfl,K2⟩;have hz2:=hz1.trans (K2.out.2.2.1.mono hz1.size)) | (go_at_call 116;(with_reducible refine Calls.mono (HL2.out _ _ _ _ K2.out.1 K2.out.2.1) ?_);rintro e w' ⟨rfl,rfl⟩) | (go_at_call 119;(with_reducible refine Calls.mono (HC3.out _ hz2) ?_);rintro e w' ⟨p3,d3,rfl,K3⟩;have hz3:=hz2.trans (K3.out.2.2.1.mono hz2.size)) | (go_at_call 118;(with_reducible refine Calls.mono (HL3.out _ _ _ _ K3.out.1 K3.out.2.1) ?_);rintro e w' ⟨rfl,rfl⟩) | (go_at_call 121;(with_reducible refine Calls.mono (HC4.out _ hz3) ?_);rintro e w' ⟨p4,d4,rfl,K4⟩;have hz4:=hz3.trans (K4.out.2.2.1.mono hz3.size)) | (go_at_call 120;(with_reducible refine Calls.mono (HL4.out _ _ _ _ K4.out.1 K4.out.2.1) ?_);rintro e w' ⟨rfl,rfl⟩) | (go_at_call 121;(with_reducible refine Calls.mono (HC5.out _ hz4) ?_);rintro e w' ⟨p5,d5,rfl,K5⟩;have hz5:=hz4.trans (K5.out.2.2.1.mono hz4.size)) | (go_at_call 120;(with_reducible refine Calls.mono (HL4.out _ _ _ _ K5.out.1 K5.out.2.1) ?_);rintro e w' ⟨rfl,rfl⟩) | (go_at_call 115;(with_reducible refine Calls.mono (HC6.out _ hz5) ?_);rintro e w' ⟨p6,d6,rfl,K6⟩;have hz6:=hz5.trans (K6.out.2.2.1.mono hz5.size)) | (go_at_call 114;(with_reducible refine Calls.mono (HL1.out _ _ _ _ K6.out.1 K6.out.2.1) ?_);rintro e w' ⟨rfl,rfl⟩) | (go_at_call 115;(with_reducible refine Calls.mono (HC7.out _ hz6) ?_);rintro e w' ⟨p7,d7,rfl,K7⟩;have hz7:=hz6.trans (K7.out.2.2.1.mono hz6.size);have g0:=cell_bel hz7 (HAr.out.cell 0);have f0:=(hz7.frozen (cell_lt (HAr.out.cell 0))).trans (HAr.out.frozen 0);have g1:=cell_bel hz7 (HAr.out.cell 1);have f1:=(hz7.frozen (cell_lt (HAr.out.cell 1))).trans (HAr.out.frozen 1);have g2:=cell_bel hz7 (HAr.out.cell 2);have f2:=(hz7.frozen (cell_lt (HAr.out.cell 2))).trans (HAr.out.frozen 2);have g3:=cell_bel hz7 (HAr.out.cell 3);have f3:=(hz7.frozen (cell_lt (HAr.out.cell 3))).trans (HAr.out.frozen 3);have g4:=cell_bel hz7 (HAr.out.cell 4);have f4:=(hz7.frozen (cell_lt (HAr.out.cell 4))).trans (HAr.out.frozen 4);have g5:=cell_bel hz7 (HAr.out.cell 5);have f5:=(hz7.frozen (cell_lt (HAr.out.cell 5))).trans (HAr.out.frozen 5);have g6:=cell_bel hz7 (HAr.out.cell 6);have f6:=(hz7.frozen (cell_lt (HAr.out.cell 6))).trans (HAr.out.frozen 6);have g7:=cell_bel hz7 (HAr.out.cell 7);have f7:=(hz7.frozen (cell_lt (HAr.out.cell 7))).trans (HAr.out.frozen 7)) | (go_at_call 114;(with_reducible refine Calls.mono (HL1.out _ _ _ _ K7.out.1 K7.out.2.1) ?_);rintro e w' ⟨rfl,rfl⟩))
   all_goals (refine ?hJ)
   go_wp2_with fail
   have b8:=(((((((((HAr.out.keep (Keep.of_below hz7 (fun _=>False)) (by simp)).set 0 (.slice p0 l0.length l0.length)).set 1 (.slice p1 l1.length l1.length)).set 2 (.slice p2 l2.length l2.length)).set 3 (.slice p3 l3.length l3.length)).set 4 (.slice p4 l4.length l4.length)).set 5 (.slice p5 l5.length l5.length)).set 6 (.slice p6 l6.length l6.length)).set 7 (.slice p7 l7.length l7.length))
   have r0:=b8.cell 0
   have r1:=b8.cell 1
   have r2:=b8.cell 2
   have r3:=b8.cell 3
   have r4:=b8.cell 4
   have r5:=b8.cell 5
   have r6:=b8.cell 6
   have r7:=b8.cell 7
   refine bodyPost_ret (v:=.agg #[.slice p0 l0.length l0.length,.slice p1 l1.length l1.length,.slice p2 l2.length l2.length,.slice p3 l3.length l3.length,.slice p4 l4.length l4.length,.slice p5 l5.length l5.length,.slice p6 l6.length l6.length,.slice p7 l7.length l7.length]) (res_tab Hres.out (by rfl) r0 r1 r2 r3 r4 r5 r6 r7) rfl ?_
   clear r0 r1 r2 r3 r4 r5 r6 r7 b8 f0 f1 f2 f3 f4 f5 f6 f7 g0 g1 g2 g3 g4 g5 g6 g7
   have hb2:W.heap.size+1<W0.heap.size:=HA.out.lt
   have hw0:W0.heap.size≤wr.heap.size:=HB0.out.size
   have j7:=Below.refl w'.heap.size w'
   have j6:=K7.out.2.2.1.trans (j7.mono K7.out.2.2.1.size)
   have j5:=K6.out.2.2.1.trans (j6.mono K6.out.2.2.1.size)
   have j4:=K5.out.2.2.1.trans (j5.mono K5.out.2.2.1.size)
   have j3:=K4.out.2.2.1.trans (j4.mono K4.out.2.2.1.size)
   have j2:=K3.out.2.2.1.trans (j3.mono K3.out.2.2.1.size)
   have j1:=K2.out.2.2.1.trans (j2.mono K2.out.2.2.1.size)
   have u1:NewAt W0.heap.size p1:=K1.out.2.2.2.2.1.mono (by have:=K1.out.2.2.1.size;  have:=hy0.size;omega)
   have u2:NewAt W0.heap.size p2:=K2.out.2.2.2.2.1.mono (by have:=K2.out.2.2.1.size;have:=K1.out.2.2.1.size;have:=hy0.size;omega)
   have u3:NewAt W0.heap.size p3:=K3.out.2.2.2.2.1.mono (by have:=K3.out.2.2.1.size;have:=K1.out.2.2.1.size;have:=K2.out.2.2.1.size;have:=hy0.size;omega)
   have u4:NewAt W0.heap.size p4:=K4.out.2.2.2.2.1.mono (by have:=K4.out.2.2.1.size;have:=K1.out.2.2.1.size;have:=K2.out.2.2.1.size;have:=K3.out.2.2.1.size;have:=hy0.size;omega)
   have u5:NewAt W0.heap.size p5:=K5.out.2.2.2.2.1.mono (by have:=K5.out.2.2.1.size;have:=K1.out.2.2.1.size;have:=K2.out.2.2.1.size;have:=K3.out.2.2.1.size;have:=K4.out.2.2.1.size;have:=hy0.size;omega)
   have u6:NewAt W0.heap.size p6:=K6.out.2.2.2.2.1.mono (by have:=K6.out.2.2.1.size;have:=K1.out.2.2.1.size;have:=K2.out.2.2.1.size;have:=K3.out.2.2.1.size;have:=K4.out.2.2.1.size;have:=K5.out.2.2.1.size;have:=hy0.size;omega)
   have u7:NewAt W0.heap.size p7:=K7.out.2.2.2.2.1.mono (by have:=K7.out.2.2.1.size;have:=K1.out.2.2.1.size;have:=K2.out.2.2.1.size;have:=K3.out.2.2.1.size;have:=K4.out.2.2.1.size;have:=K5.out.2.2.1.size;have:=K6.out.2.2.1.size;have:=hy0.size;omega)
   have hta:TabAt w' ⟨l0,l1,l2,l3,l4,l5,l6,l7⟩ ⟨p0,p1,p2,p3,p4,p5,p6,p7,l0.length,l1.length,l2.length,l3.length,l4.length,l5.length,l6.length,l7.length⟩:=⟨HS.out.at_.below hz7,K1.out.2.2.2.1.below j1,K2.out.2.2.2.1.below j2,K3.out.2.2.2.1.below j3,K4.out.2.2.2.1.below j4,K5.out.2.2.2.1.below j5,K6.out.2.2.2.1.below j6,K7.out.2.2.2.1.below j7,Nat.le_trans n0 (by unfold maxLen;omega),Nat.le_trans n1 (by unfold maxLen;omega),Nat.le_trans n2 (by unfold maxLen;omega),Nat.le_trans n3 (by unfold maxLen;omega),Nat.le_trans n4 (by unfold maxLen;omega),Nat.le_trans n5 (by unfold maxLen;omega),Nat.le_trans n6 (by unfold maxLen;omega),Nat.le_trans n7 (by unfold maxLen;omega)⟩
   have htn:TabNew W0.heap.size w' ⟨l0,l1,l2,l3,l4,l5,l6,l7⟩ ⟨p0,p1,p2,p3,p4,p5,p6,p7,l0.length,l1.length,l2.length,l3.length,l4.length,l5.length,l6.length,l7.length⟩:=⟨HS.out.new.below hz7,u1,u2,u3,u4,u5,u6,u7⟩
   obtain⟨h1,h2⟩:=hta.of_keep htn hb2 (keep_set8 (Keep.refl _ _) (fun _=>rfl))
   exact⟨⟨p0,p1,p2,p3,p4,p5,p6,p7,l0.length,l1.length,l2.length,l3.length,l4.length,l5.length,l6.length,l7.length⟩,rfl,h1,h2.mono (by omega),(HB.out.trans ((HB0.out.trans (hz7.mono hw0)).mono HB.out.size)).trans ((keep_set8 (Keep.refl (fun i=>i=W.heap.size+1) _) (fun _=>rfl)).below (fun k hk=>⟨by have:=hz7.size;omega,by omega⟩))⟩
end Go.Proofs.YtioehfhdoohdmaaGreatDoor
namespace Go.Proofs.YtioehfhdoohdmaaGreatDoor
open Go.RowKit Go.Shelf
theorem scan_zero {α:Type}{f:α→Nat→Option W3}(hf:∀x i w,f x i=some w→w.1≠0):∀(l:List α) (i:Nat) (k:W3),(scan f l i k).1=0→(∀x∈l,∃j,f x j=none)∧k.1=0:=by
 intro l
 induction l with
 | nil=>intro i k h;exact⟨(fun x hx=>by cases hx),h⟩
 | cons x t ih=>
  intro i k h
  cases e:f x i with
  | some w=>rw[scan_hit e] at h;exact absurd h (hf x i w e)
  | none=>
   rw[scan_miss e] at h
   obtain⟨h1,h2⟩:=ih (i+1) k h
   refine⟨fun y hy=>?_,h2⟩
   rcases List.mem_cons.1 hy with rfl | hy
   ·exact⟨i,e⟩
   ·exact h1 y hy
theorem orK_zero' {x k:W3}(h:(orK x k).1=0):x.1=0∧k.1=0:=by
 unfold orK at h
 split at h
 ·exact⟨by assumption,h⟩
 ·exact absurd h (by assumption)
theorem orK_assoc (x y k:W3):orK (orK x y) k=orK x (orK y k):=by
 unfold orK
 by_cases h:x.1=0 <;> by_cases g:y.1=0 <;> simp[h,g]
structure FormsOk (T:Tab):Prop where
 sc:∀x∈T.scripts,scriptE x=0
 mks:∀m∈T.marks,runeB m.1=true∧1≤m.2∧m.2≤254
 pr:∀x∈T.pairs,runeB x.1=true∧runeB x.2.1=true∧runeB x.2.2=true
 fo:∀x∈T.folds,runeB x.1=true∧(runesO x.2).isSome=true∧1≤(rnL x.2).length∧(rnL x.2).length≤4
 lo:∀x∈T.looks,runeB x.1=true∧(runesO x.2).isSome=true∧1≤(rnL x.2).length∧(rnL x.2).length≤4
 com:SpOk T.common
 dr:SpOk T.drops
 al:SpOk T.allowed
theorem spansW_zero {n:Int}{l:List Span}(h:(spansW n l).1=0):SpOk l:=by
 apply spOk_of
 unfold spansW at h
 split at h
 ·assumption
 ·exact absurd h (by assumption)
theorem some_ne {c:Bool}{a b d:Int}{w:W3}{r:Option W3}(ha:a≠0) (hr:r=some w→w.1≠0) (h:(if c=true then some (a,b,d) else r)=some w):w.1≠0:=by
 cases c with
 | true=>simp only[if_true,Option.some.injEq] at h;subst h;exact ha
 | false=>exact hr (by simpa using h)
theorem mapsW_ok {n:Int}{l:List (Int×ByteArray)}(h:(mapsW n l).1=0):∀x∈l,runeB x.1=true∧(runesO x.2).isSome=true∧1≤(rnL x.2).length∧(rnL x.2).length≤4:=by
 intro x hx
 obtain⟨j,hj⟩:=(scan_zero (fun x i w hw=>by
  unfold mapM at hw
  exact some_ne (by decide) (some_ne (by decide) (some_ne (by decide) (some_ne (by decide) (fun e=>by cases e)))) hw) l 0 (0,0,0) h).1 x hx
 unfold mapM at hj
 cases h1:runeB x.1
 ·simp[h1] at hj
 cases h2:(runesO x.2).isSome
 ·simp[h1,h2] at hj
 simp only[h1,h2,Bool.not_true,Bool.false_eq_true,if_false] at hj
 by_cases h3:((rnL x.2).length:Int)<1
 ·simp[h3] at hj
 by_cases h4:(4:Int)<((rnL x.2).length:Int)
 ·simp[h3,h4] at hj
 exact⟨rfl,rfl,by omega,by omega⟩
theorem forms_ok {T:Tab}(h:(formsW T).1=0):FormsOk T:=by
 unfold formsW at h
 obtain⟨h1,h⟩:=scan_zero (fun x i w hw=>by
  unfold scriptM at hw
  by_cases c:(scriptE x != 0)=true
  ·rw[if_pos c] at hw;simp only[Option.some.injEq] at hw;subst hw;simpa using c
  ·rw[if_neg c] at hw;cases hw) _ _ _ h
 obtain⟨h2,h⟩:=orK_zero' h
 obtain⟨h3,h⟩:=scan_zero (fun x i w hw=>by unfold markM at hw;exact some_ne (by decide) (some_ne (by decide) (some_ne (by decide) (fun e=>by cases e))) hw) _ _ _ h
 obtain⟨h4,h⟩:=scan_zero (fun x i w hw=>by unfold pairF at hw;exact some_ne (by decide) (some_ne (by decide) (some_ne (by decide) (fun e=>by cases e))) hw) _ _ _ h
 obtain⟨h5,h⟩:=orK_zero' h
 obtain⟨h6,h⟩:=orK_zero' h
 obtain⟨h7,h8⟩:=orK_zero' h
 refine⟨fun x hx=>?_,fun x hx=>?_,fun x hx=>?_,mapsW_ok h5,mapsW_ok h6,spansW_zero h2,spansW_zero h7,spansW_zero h8⟩
 ·obtain⟨j,hj⟩:=h1 x hx
  unfold scriptM at hj
  by_cases c:(scriptE x != 0)=true
  ·rw[if_pos c] at hj;cases hj
  ·simpa using c
 ·obtain⟨j,hj⟩:=h3 x hx
  unfold markM at hj
  cases e:runeB x.1
  ·simp[e] at hj
  by_cases c1:x.2<1
  ·simp[e,c1] at hj
  by_cases c2:254<x.2
  ·simp[e,c1,c2] at hj
  exact⟨rfl,by omega,by omega⟩
 ·obtain⟨j,hj⟩:=h4 x hx
  unfold pairF at hj
  cases e1:runeB x.1
  ·simp[e1] at hj
  cases e2:runeB x.2.1
  ·simp[e1,e2] at hj
  cases e3:runeB x.2.2
  ·simp[e1,e2,e3] at hj
  exact⟨rfl,rfl,rfl⟩
def pairs9 (T:Tab):W3:=scan (pairM T) T.pairs 0 (0,0,0)
def chains9 (T:Tab):W3:=scan (chainM T) T.pairs 0 (0,0,0)
def froms9 (T:Tab):W3:=scan (fromM 5 T) T.folds 0 (scan (fromM 6 T) T.looks 0 (0,0,0))
def tos9 (T:Tab):W3:=toGo (toF T) T.folds 0 (toGo (toL T T.looks) T.looks 0 (0,0,0))
theorem nine (T:Tab):orK (longW T) (orK (formsW T) (orK (twiceW T) (orK (pairs9 T) (orK (chains9 T) (orK (dropsW T) (orK (froms9 T) (orK (tos9 T) (houseW T))))))))=checkW T:=by
 have hp:pairsW T=orK (pairs9 T) (chains9 T):=scan_orK (fun x i w hw=>by unfold pairM at hw;exact some_ne (by decide) (some_ne (by decide) (some_ne (by decide) (fun e=>by cases e))) hw) _ _ _
 have hfm:∀n,∀x i w,fromM n T x i=some w→w.1≠0:=fun n x i w hw=>by unfold fromM at hw;exact some_ne (by decide) (some_ne (by decide) (fun e=>by cases e)) hw
 have ht:tosW T=orK (froms9 T) (tos9 T):=by
  unfold tosW froms9
  rw[scan_orK (hfm 5),scan_orK (hfm 6),scan_orK (hfm 5) _ _ (scan (fromM 6 T) T.looks 0 (0,0,0)),orK_assoc]
  rfl
 unfold checkW
 rw[hp,ht,orK_assoc,orK_assoc]
structure BAddr where
 a:TAddr
 m1:Nat
 m2:Nat
 m3:Nat
 m4:Nat
 m5:Nat
structure BookAt (W:World) (bb:Nat) (B:BAddr) (T:Tab):Prop where
 tab:TabAt W T B.a
 c:∀k v,(tabCells T B.a)[k]?=some v→W.cell? ⟨bb,k,none⟩=some v
 q1:W.cell? ⟨bb,8,none⟩=some (.map (some B.m1))
 q2:W.cell? ⟨bb,9,none⟩=some (.map (some B.m2))
 q3:W.cell? ⟨bb,10,none⟩=some (.map (some B.m3))
 q4:W.cell? ⟨bb,11,none⟩=some (.map (some B.m4))
 q5:W.cell? ⟨bb,12,none⟩=some (.map (some B.m5))
 maps:MapsAt5 W ⟨bb,bb,B.m1,B.m2,B.m3,B.m4,B.m5⟩ T
 right:(checkW T).1=0
 forms:FormsOk T
theorem BookAt.below {W W':World}{bb:Nat}{B:BAddr}{T:Tab}(h:BookAt W bb B T) (hB:Below W.heap.size W W'):BookAt W' bb B T:=
 ⟨h.tab.below hB,fun k v hv=>cell_bel hB (h.c k v hv),cell_bel hB h.q1,cell_bel hB h.q2,cell_bel hB h.q3,cell_bel hB h.q4,cell_bel hB h.q5,h.maps.below hB,h.right,h.forms⟩
def NewPost (W:World) (T:Tab) (e:Ending) (w':World):Prop:=Below W.heap.size W w'∧((¬ (checkW T).1=0∧e=.returned (.tuple #[.pointer none,wV (checkW T)])) ∨
 ∃(bb:Nat) (B:BAddr),e=.returned (.tuple #[.pointer (some ⟨bb,0,none⟩),.agg #[.int .i64 0,.int .i64 0,.int .i64 0]])∧BookAt w' bb B T∧TabNew W.heap.size w' T B.a∧W.heap.size≤bb∧W.heap.size≤B.m1∧W.heap.size≤B.m2∧W.heap.size≤B.m3∧W.heap.size≤B.m4∧W.heap.size≤B.m5)
structure NewSt (W y:World) (T:Tab) (a:TAddr) (bv fv:List Value) (tb tc tf:TypeId):Prop where
 B:Below W.heap.size W y
 k0:Blk y W.heap.size (tabCells T a).toList 28
 k1:Blk y (W.heap.size+1) [.int .i64 0,.int .i64 0,.int .i64 0] 100
 kb:Blk y (W.heap.size+7) (bv++[.map (some (W.heap.size+2)),.map (some (W.heap.size+3)),.map (some (W.heap.size+4)),.map (some (W.heap.size+5)),.map (some (W.heap.size+6))]) tb
 kc:Blk y (W.heap.size+8) ((tabCells T a).toList++[.pointer (some ⟨W.heap.size+7,0,none⟩)]) tc
 kf:Blk y (W.heap.size+9) fv tf
 l8:bv.length=8
def newM (W:World):MAddr:=⟨W.heap.size+8,W.heap.size+7,W.heap.size+2,W.heap.size+3,W.heap.size+4,W.heap.size+5,W.heap.size+6⟩
theorem NewSt.step {W y z:World}{T:Tab}{a:TAddr}{bv fv:List Value}{tb tc tf:TypeId}(h:NewSt W y T a bv fv tb tc tf) (k:Keep (InM (newM W) (newM W).m1) y z):NewSt W z T a bv fv tb tc tf:=by
 have hn:∀i,(i<W.heap.size+2∨W.heap.size+6<i)→¬ InM (newM W) (newM W).m1 i:=fun i hi hs=>by
  unfold InM newM at hs
  simp only at hs
  omega
 exact⟨h.B.trans (k.below (fun i hi=>⟨Nat.lt_of_lt_of_le hi h.B.size,hn i (by omega)⟩)),h.k0.keep k (hn _ (by omega)),h.k1.keep k (hn _ (by omega)),h.kb.keep k (hn _ (by omega)),h.kc.keep k (hn _ (by omega)),h.kf.keep k (hn _ (by omega)),h.l8⟩
theorem NewSt.below {W y z:World}{T:Tab}{a:TAddr}{bv fv:List Value}{tb tc tf:TypeId}(h:NewSt W y T a bv fv tb tc tf) (k:Below y.heap.size y z):NewSt W z T a bv fv tb tc tf:=h.step (Keep.of_below k _)
theorem tab9 (T:Tab) (a:TAddr) {k:Nat}{v:Value}(hv:(tabCells T a)[k]?=some v) (r:List Value):((tabCells T a).toList++r)[k]?=some v:=by
 have hk:k<(tabCells T a).toList.length:=by
  rw[Array.length_toList]
  exact (Array.getElem?_eq_some_iff.1 hv).1
 rw[List.getElem?_append_left hk,←hv]
 simp
theorem NewSt.chk {W y:World}{T:Tab}{a:TAddr}{bv fv:List Value}{tb tc tf:TypeId}(h:NewSt W y T a bv fv tb tc tf) (ht:TabAt W T a):ChkAt y (newM W) T a:=by
 have hb:∀j,(bv++[.map (some (W.heap.size+2)),.map (some (W.heap.size+3)),.map (some (W.heap.size+4)),.map (some (W.heap.size+5)),.map (some (W.heap.size+6))])[8+j]?=([.map (some (W.heap.size+2)),.map (some (W.heap.size+3)),.map (some (W.heap.size+4)),.map (some (W.heap.size+5)),.map (some (W.heap.size+6))]:List Value)[j]?:=fun j=>by
  rw[List.getElem?_append_right (by rw[h.l8];omega),h.l8]
  congr 1
  omega
 exact⟨ht.below h.B,fun k v hv=>(h.kc.cell k).trans (tab9 T a hv _),(h.kc.cell 8).trans (by simp[tabCells,newM]),(h.kb.cell 8).trans (hb 0),(h.kb.cell 9).trans (hb 1),(h.kb.cell 10).trans (hb 2),(h.kb.cell 11).trans (hb 3),(h.kb.cell 12).trans (hb 4)⟩
theorem NewSt.set6 {W y z:World}{T:Tab}{a:TAddr}{bv fv:List Value}{tb tc tf:TypeId}(h:NewSt W y T a bv fv tb tc tf) (v:Value) (k:Below y.heap.size (y.setCell ⟨W.heap.size+7,6,none⟩ v) z):NewSt W z T a (bv.set 6 v) fv tb tc tf:=by
 have hz:(y.setCell ⟨W.heap.size+7,6,none⟩ v).heap.size=y.heap.size:=by simp
 have hs:NewSt W (y.setCell ⟨W.heap.size+7,6,none⟩ v) T a (bv.set 6 v) fv tb tc tf:=
  ⟨h.B.setCell (by simp) _,h.k0.other (by simp) _,h.k1.other (by simp) _,(h.kb.set 6 v).of_eq (by rw[List.set_append_left _ _ (by rw[h.l8];omega)]),h.kc.other (by simp) _,h.kf.other (by simp) _,by rw[List.length_set];exact h.l8⟩
 exact hs.below (by rw[hz];exact k)
theorem Maps0.below {W W':World}{M:MAddr}(h:Maps0 W M) (hB:Below W.heap.size W W'):Maps0 W' M:=⟨h.m1.keep hB,h.m2.keep hB,h.m3.keep hB,h.m4.keep hB,h.m5.keep hB,h.d12,h.d13,h.d14,h.d15,h.d23,h.d24,h.d25,h.d34,h.d35,h.d45⟩
theorem MapsAt5.of_set {W W':World}{M:MAddr}{T:Tab}(h:MapsAt5 W M T) {p:Addr}{u v:Value}(hc:W.cell? p=some u) (hB:Below W.heap.size (W.setCell p v) W'):MapsAt5 W' M T:=by
 have hs:∀b,p.block≠b→b<W.heap.size→W'.heap[b]?=W.heap[b]?:=fun b hb hlt=>(hB.block b hlt).trans (Below.heap_setCell _ _ _ _ (fun e=>hb e.symm))
 exact⟨h.m1.of_block (hs _ (h.m1.cell_ne hc) h.m1.lt),h.m2.of_block (hs _ (h.m2.cell_ne hc) h.m2.lt),h.m3.of_block (hs _ (h.m3.cell_ne hc) h.m3.lt),h.m4.of_block (hs _ (h.m4.cell_ne hc) h.m4.lt),h.m5.of_block (hs _ (h.m5.cell_ne hc) h.m5.lt)⟩
theorem MapsAt5.of_keep {W W':World}{M:MAddr}{T:Tab}{S:Nat→Prop}(h:MapsAt5 W M T) (k:Keep S W W') (h1:¬ S M.m1) (h2:¬ S M.m2) (h3:¬ S M.m3) (h4:¬ S M.m4) (h5:¬ S M.m5):MapsAt5 W' M T:=
 ⟨h.m1.of_block (k.block _ h.m1.lt h1),h.m2.of_block (k.block _ h.m2.lt h2),h.m3.of_block (k.block _ h.m3.lt h3),h.m4.of_block (k.block _ h.m4.lt h4),h.m5.of_block (k.block _ h.m5.lt h5)⟩
theorem new_fin {W y w' z9 zf:World}{T:Tab}{a a':TAddr}{bv fv:List Value}{tb tc tf:TypeId}(HN:NewSt W y T a bv fv tb tc tf) (HM:MapsAt5 y (newM W) T) (hr:(checkW T).1=0) (ho:FormsOk T) (hB:Below y.heap.size y w') (ht:TabAt w' T a') (hn:TabNew y.heap.size w' T a')
 (k7:Keep (fun i=>i=W.heap.size+7) w' z9) (k1:Keep (fun i=>i=W.heap.size+1) z9 zf) (hb:Blk zf (W.heap.size+7) ((tabCells T a').toList++[.map (some (W.heap.size+2)),.map (some (W.heap.size+3)),.map (some (W.heap.size+4)),.map (some (W.heap.size+5)),.map (some (W.heap.size+6))]) tb):NewPost W T (.returned (.tuple #[.pointer (some ⟨W.heap.size+7,0,none⟩),.agg #[.int .i64 0,.int .i64 0,.int .i64 0]])) zf:=by
 have l7:=HN.kb.lt
 have l1:=HN.k1.lt
 have hy:=HN.B.size
 obtain⟨t1,n1⟩:=ht.of_keep hn l7 k7
 obtain⟨t2,n2⟩:=t1.of_keep n1 l1 k1
 have hm:=((HM.below hB).of_keep k7 (by simp[newM]) (by simp[newM]) (by simp[newM]) (by simp[newM]) (by simp[newM])).of_keep k1 (by simp[newM]) (by simp[newM]) (by simp[newM]) (by simp[newM]) (by simp[newM])
 have hbel:Below W.heap.size W zf:=((HN.B.trans (hB.mono hy)).trans (k7.below (fun i hi=>⟨by have:=hB.size;omega,by omega⟩))).trans (k1.below (fun i hi=>⟨by have:=hB.size;have:=k7.size;omega,by omega⟩))
 refine⟨hbel,Or.inr ⟨_,⟨a',W.heap.size+2,W.heap.size+3,W.heap.size+4,W.heap.size+5,W.heap.size+6⟩,rfl,⟨t2,fun k v hv=>(hb.cell k).trans (tab9 T a' hv _),(hb.cell 8).trans (by simp[tabCells]),(hb.cell 9).trans (by simp[tabCells]),(hb.cell 10).trans (by simp[tabCells]),(hb.cell 11).trans (by simp[tabCells]),(hb.cell 12).trans (by simp[tabCells]),⟨hm.m1,hm.m2,hm.m3,hm.m4,hm.m5⟩,hr,ho⟩,n2.mono hy,by simp,by simp,by simp,by simp,by simp,by simp⟩⟩
theorem res_new {fn:Func}{s a:Tmp}(h:fn.results=#[.tmp s,.cell a 100]) {tmps:Array Value}{b:Nat}{v:Value}(hs:tmps.getD s undef=v) (hb:tmps.getD a undef=.pointer (some ⟨b,0,none⟩)) {W:World}{x y z:Value}(r0:W.cell? ⟨b,0,none⟩=some x) (r1:W.cell? ⟨b,1,none⟩=some y) (r2:W.cell? ⟨b,2,none⟩=some z) :
 (results fn tmps).run Tryz.prog W=.ok (.tuple #[v,.agg #[x,y,z]]) W:=by
 have hb2:tmps[a]?.getD undef=.pointer (some ⟨b,0,none⟩):=by rw[←hb];simp
 have hs2:tmps[s]?.getD undef=v:=by rw[←hs];simp
 simp[results,h,hb2,hs2,go_sem,r0,r1,r2]
end Go.Proofs.YtioehfhdoohdmaaGreatDoor
