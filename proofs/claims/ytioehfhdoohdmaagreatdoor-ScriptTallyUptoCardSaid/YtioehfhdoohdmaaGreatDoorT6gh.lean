/- T6gh: T6g, T6h. -/
import Derived.Test.YtioehfhdoohdmaaGreatDoorTabA
import Derived.Test.YtioehfhdoohdmaaGreatDoorT6P
set_option linter.unusedVariables false
set_option linter.unusedSimpArgs false
namespace Go.Proofs.YtioehfhdoohdmaaGreatDoor
open Go.RowKit Go.Shelf
set_option maxRecDepth 100000 in
set_option maxHeartbeats 4000000 in
theorem chain_any (T:Tab) (a:TAddr) (i:Nat) (W:World) (h:TabAt W T a) (hi:i<T.pairs.length) (hs:T.pairs.length≤10000):Calls Tryz.prog 128 #[.agg (tabCells T a),.int .i64 i] W fun e w'=>e=.returned (.int .i64 (chainN T i))∧Below W.heap.size W w':=by
 obtain⟨R,hR⟩:∃R,chainN T i=R:=⟨_,rfl⟩
 rw[hR]
 unfold chainN at hR
 obtain⟨hT,HTb,hB,hz⟩:=box1 h
 have hwh:=fun r W' (hb:Below (W.alloc (.cells (tabCells T a) 28)).heap.size (W.alloc (.cells (tabCells T a) 28)) W')=>whole_any T a r W' (hT.below hb)
 have hgo:∀k j (n:Int),chainGo T (k+1) j n=if wholeN T (T.pairs.getD j (0,0,0)).2.1<0 then n else chainGo T k (wholeN T (T.pairs.getD j (0,0,0)).2.1).toNat (n+1):=fun _ _ _=>rfl
 have hwl:∀r,wholeN T r<0∨(0≤wholeN T r∧(wholeN T r).toNat<T.pairs.length):=fun r=>by
  rcases firstN_lt (pkey r) T.pairs with e | e
  ·exact Or.inl (by unfold wholeN;omega)
  ·exact Or.inr ⟨e.1,by unfold wholeN;omega⟩
 have hg0:∀j (n:Int),chainGo T 0 j n=-1:=fun _ _=>rfl
 obtain⟨o0,o1,o2,o3,o4,o5,o6,o7,c0,c1,c2,c3,c4,c5,c6,c7⟩:=a
 simp only[tabCells] at hT HTb hB hz hwh ⊢
 obtain⟨W0,hW0⟩:∃W0,W.alloc (.cells #[.slice o0 T.scripts.length c0,.slice o1 T.common.length c1,.slice o2 T.marks.length c2,.slice o3 T.pairs.length c3,.slice o4 T.folds.length c4,.slice o5 T.looks.length c5,.slice o6 T.drops.length c6,.slice o7 T.allowed.length c7] 28)=W0:=⟨_,rfl⟩
 rw[hW0] at hT HTb hB hz hwh
 have HW0:=Lib.hid hW0
 have HB:=Lib.hid hB
 have HT0:=Lib.hid (HTb 0 (.slice o0 T.scripts.length c0) rfl)
 have HT1:=Lib.hid (HTb 1 (.slice o1 T.common.length c1) rfl)
 have HT2:=Lib.hid (HTb 2 (.slice o2 T.marks.length c2) rfl)
 have HT3:=Lib.hid (HTb 3 (.slice o3 T.pairs.length c3) rfl)
 have HT4:=Lib.hid (HTb 4 (.slice o4 T.folds.length c4) rfl)
 have HT5:=Lib.hid (HTb 5 (.slice o5 T.looks.length c5) rfl)
 have HT6:=Lib.hid (HTb 6 (.slice o6 T.drops.length c6) rfl)
 have HT7:=Lib.hid (HTb 7 (.slice o7 T.allowed.length c7) rfl)
 have m3:T.pairs.length≤9223372036854775807:=hT.m3
 have HL3:=Lib.hid hT.pairs
 have HWh:=Lib.hid (fun r W' (hb:Below W0.heap.size W0 W')=>Calls.mono (hwh r W' hb) (fun e w' hh=>(⟨hh.1,hb.trans (hh.2.mono hb.size)⟩:e=.returned (.int .i64 (wholeN T r))∧Below W0.heap.size W0 w')))
 have Hgo:=Lib.hid hgo
 have Hg0:=Lib.hid hg0
 have Hwl:=Lib.hid hwl
 have HF:=Lib.hid hR
 have hBw:Below W0.heap.size W0 W0:=Below.refl _ _
 clear hT HTb hB hz h hW0 hwh hgo hg0 hwl hR
 generalize hP:T.pairs=P at *
 generalize hw1:wholeN T=wh at *
 generalize hc1:chainGo T=ch at *
 generalize T.scripts.length=n0 at *
 generalize T.common.length=n1 at *
 generalize T.marks.length=n2 at *
 generalize T.folds.length=n4 at *
 generalize T.looks.length=n5 at *
 generalize T.drops.length=n6 at *
 generalize T.allowed.length=n7 at *
 clear hP hw1 hc1
 go_enter Tryz.func128,Tryz.ntmps128
 go_wp2_with fail
 rw[HW0.out]
 clear HW0
 go_loopw [1,5] (fun v1 v5 wr=>∃j k:Nat,v1=.int .i64 j∧j<P.length∧k≤P.length∧v5=.int .i64 ((P.length - k:Nat)+1:Int)∧Hid (ch k j ((P.length - k:Nat)+1:Int)=R)∧Below W0.heap.size W0 wr) (fun _ v5 _=>P.length+1 - (intOf v5).toNat)
 case atStart=>exact⟨i,P.length,rfl,hi,Nat.le_refl _,by simp,Lib.hid (by rw[←HF.out];simp),hBw⟩
 case round=>
  clear HF hBw hi
  obtain⟨j,k,rfl,hj,hk,rfl,HF,hB⟩:=hrel
  have i0:(0:Int)≤(j:Int):=Int.natCast_nonneg _
  have i1:(j:Int)<(P.length:Int):=by omega
  have p0:(0:Int)≤((P.length - k:Nat):Int):=Int.natCast_nonneg _
  have p1:((P.length - k:Nat):Int)≤10000:=by omega
  have b0:=cell_bel hB HT0.out
  have b1:=cell_bel hB HT1.out
  have b2:=cell_bel hB HT2.out
  have b3:=cell_bel hB HT3.out
  have b4:=cell_bel hB HT4.out
  have b5:=cell_bel hB HT5.out
  have b6:=cell_bel hB HT6.out
  have b7:=cell_bel hB HT7.out
  cases k with
  | zero=>
   have d1:decide ((((P.length - 0:Nat):Int)+1)≤(P.length:Int))=false:=by rw[decide_eq_false_iff_not];simp only[Nat.sub_zero];omega
   have HR:=Lib.hid ((Hg0.out j _).symm.trans HF.out)
   clear HF
   go_wp2_with fail
   go_ret
   exact⟨by rw[←HR.out];rfl,HB.out.trans (hB.mono HB.out.size)⟩
  | succ k=>
   have d1:decide ((((P.length - (k+1):Nat):Int)+1)≤(P.length:Int))=true:=by rw[decide_eq_true_iff];omega
   obtain⟨g,off,ho,hg,c0,c1,c2⟩:=HL3.out j hj
   subst ho
   have hx:P.getD j (0,0,0)=P[j]:=getD_at hj
   have HF1:=Lib.hid ((Hgo.out k j _).symm.trans HF.out)
   rw[hx] at HF1
   have C1:=Lib.hid c1
   clear c0 c1 c2 HF
   generalize P[j]=x at *
   have K:=Lib.hid (HWh.out x.2.1)
   have Hwx:=Lib.hid (Hwl.out x.2.1)
   clear hx
   generalize wh x.2.1=y at *
   by_cases hy:y<0
   ·have d2:decide (y<0)=true:=by simpa using hy
    have HR:=Lib.hid ((if_pos hy).symm.trans HF1.out)
    clear HF1
    have HS:=Lib.hid (fun w' (hb:Below W0.heap.size W0 w')=>(⟨hb,cell_bel hb HT0.out,cell_bel hb HT1.out,cell_bel hb HT2.out,cell_bel hb HT3.out,cell_bel hb HT4.out,cell_bel hb HT5.out,cell_bel hb HT6.out,cell_bel hb HT7.out,cell_bel hb C1.out⟩:Below W0.heap.size W0 w'∧w'.cell? ⟨W.heap.size,0,none⟩=some (.slice o0 n0 c0)∧w'.cell? ⟨W.heap.size,1,none⟩=some (.slice o1 n1 c1)∧w'.cell? ⟨W.heap.size,2,none⟩=some (.slice o2 n2 c2)∧w'.cell? ⟨W.heap.size,3,none⟩=some (.slice (some ⟨g,off,none⟩) P.length c3)∧w'.cell? ⟨W.heap.size,4,none⟩=some (.slice o4 n4 c4)∧w'.cell? ⟨W.heap.size,5,none⟩=some (.slice o5 n5 c5)∧w'.cell? ⟨W.heap.size,6,none⟩=some (.slice o6 n6 c6)∧w'.cell? ⟨W.heap.size,7,none⟩=some (.slice o7 n7 c7)∧w'.cell? ⟨g,off+j*3+1,none⟩=some (.int .i32 x.2.1)))
    clear b0 b1 b2 b4 b5 b6 b7
    go_wp2_with fail
    go_region_held3 (fun w'=>Below W0.heap.size W0 w'∧w'.cell? ⟨W.heap.size,0,none⟩=some (.slice o0 n0 c0)∧w'.cell? ⟨W.heap.size,1,none⟩=some (.slice o1 n1 c1)∧w'.cell? ⟨W.heap.size,2,none⟩=some (.slice o2 n2 c2)∧w'.cell? ⟨W.heap.size,3,none⟩=some (.slice (some ⟨g,off,none⟩) P.length c3)∧w'.cell? ⟨W.heap.size,4,none⟩=some (.slice o4 n4 c4)∧w'.cell? ⟨W.heap.size,5,none⟩=some (.slice o5 n5 c5)∧w'.cell? ⟨W.heap.size,6,none⟩=some (.slice o6 n6 c6)∧w'.cell? ⟨W.heap.size,7,none⟩=some (.slice o7 n7 c7)∧w'.cell? ⟨g,off+j*3+1,none⟩=some (.int .i32 x.2.1)) (first | exact HS.out _ (by assumption) | exact HS.out _ (Below.drew (by assumption))) (first | (go_at_call 129;refine Calls.mono (K.out _ (by first | assumption | exact Below.drew (by assumption))) ?_;rintro e w' ⟨rfl,hBw⟩))
    clear HS
    go_wp2_with fail
    go_ret
    exact⟨by rw[←HR.out];rfl,HB.out.trans (hBw.mono HB.out.size)⟩
   ·have d2:decide (y<0)=false:=by simpa using hy
    have HF2:=Lib.hid ((if_neg hy).symm.trans HF1.out)
    obtain⟨hy0,hy1⟩:=Hwx.out.resolve_left hy
    clear HF1
    have HS:=Lib.hid (fun w' (hb:Below W0.heap.size W0 w')=>(⟨hb,cell_bel hb HT0.out,cell_bel hb HT1.out,cell_bel hb HT2.out,cell_bel hb HT3.out,cell_bel hb HT4.out,cell_bel hb HT5.out,cell_bel hb HT6.out,cell_bel hb HT7.out,cell_bel hb C1.out⟩:Below W0.heap.size W0 w'∧w'.cell? ⟨W.heap.size,0,none⟩=some (.slice o0 n0 c0)∧w'.cell? ⟨W.heap.size,1,none⟩=some (.slice o1 n1 c1)∧w'.cell? ⟨W.heap.size,2,none⟩=some (.slice o2 n2 c2)∧w'.cell? ⟨W.heap.size,3,none⟩=some (.slice (some ⟨g,off,none⟩) P.length c3)∧w'.cell? ⟨W.heap.size,4,none⟩=some (.slice o4 n4 c4)∧w'.cell? ⟨W.heap.size,5,none⟩=some (.slice o5 n5 c5)∧w'.cell? ⟨W.heap.size,6,none⟩=some (.slice o6 n6 c6)∧w'.cell? ⟨W.heap.size,7,none⟩=some (.slice o7 n7 c7)∧w'.cell? ⟨g,off+j*3+1,none⟩=some (.int .i32 x.2.1)))
    clear b0 b1 b2 b4 b5 b6 b7
    go_wp2_with fail
    go_region_held3 (fun w'=>Below W0.heap.size W0 w'∧w'.cell? ⟨W.heap.size,0,none⟩=some (.slice o0 n0 c0)∧w'.cell? ⟨W.heap.size,1,none⟩=some (.slice o1 n1 c1)∧w'.cell? ⟨W.heap.size,2,none⟩=some (.slice o2 n2 c2)∧w'.cell? ⟨W.heap.size,3,none⟩=some (.slice (some ⟨g,off,none⟩) P.length c3)∧w'.cell? ⟨W.heap.size,4,none⟩=some (.slice o4 n4 c4)∧w'.cell? ⟨W.heap.size,5,none⟩=some (.slice o5 n5 c5)∧w'.cell? ⟨W.heap.size,6,none⟩=some (.slice o6 n6 c6)∧w'.cell? ⟨W.heap.size,7,none⟩=some (.slice o7 n7 c7)∧w'.cell? ⟨g,off+j*3+1,none⟩=some (.int .i32 x.2.1)) (first | exact HS.out _ (by assumption) | exact HS.out _ (Below.drew (by assumption))) (first | (go_at_call 129;refine Calls.mono (K.out _ (by first | assumption | exact Below.drew (by assumption))) ?_;rintro e w' ⟨rfl,hBw⟩))
    clear HS
    go_wp2_with fail
    obtain⟨z,rfl⟩:=Int.eq_ofNat_of_zero_le hy0
    exact⟨⟨z,k,rfl,by simpa using hy1,by omega,by go_num,Lib.hid (by rw[←HF2.out];congr 1;omega),hBw⟩,by simp[intOf];omega⟩
end Go.Proofs.YtioehfhdoohdmaaGreatDoor
namespace Go.Proofs.YtioehfhdoohdmaaGreatDoor
open Go.RowKit Go.Shelf BigFrame
set_option maxRecDepth 100000 in
set_option maxHeartbeats 40000000 in
theorem pairs_any (T:Tab) (a:TAddr) (W:World) (h:TabAt W T a) (hs:T.pairs.length≤10000):Calls Tryz.prog 79 #[.agg (tabCells T a)] W fun e w'=>e=.returned (wV (pairsW T))∧Below W.heap.size W w':=by
 obtain⟨l0,l1,l2,l3,l4,l5,l6,l7⟩:=T
 obtain⟨o0,o1,o2,o3,o4,o5,o6,o7,c0,c1,c2,c3,c4,c5,c6,c7⟩:=a
 obtain⟨hT,HTb,bA,hB,hz⟩:=box2 h
 obtain⟨W0,hW0⟩:∃W0,(W.alloc (.cells #[.slice o0 l0.length c0,.slice o1 l1.length c1,.slice o2 l2.length c2,.slice o3 l3.length c3,.slice o4 l4.length c4,.slice o5 l5.length c5,.slice o6 l6.length c6,.slice o7 l7.length c7] 28)).alloc (.cells #[.int .i64 0,.int .i64 0,.int .i64 0] 100)=W0:=⟨_,rfl⟩
 simp only[tabCells] at hT HTb hB hz bA ⊢
 rw[hW0] at hT HTb hB hz bA
 have HW0:=Lib.hid hW0
 have HB:=Lib.hid hB
 have HZ:=Lib.hid hz
 have HA:=Lib.hid bA
 have a0:∀y:WC W0,y.w.cell? ⟨W.heap.size+1,0,none⟩=some (.int .i64 0):=WC.cell (bA.cell 0)
 have f0:∀y:WC W0,y.w.frozen? ⟨W.heap.size+1,0,none⟩=false:=WC.frozen (bA.cell 0) (bA.frozen 0)
 have a1:∀y:WC W0,y.w.cell? ⟨W.heap.size+1,1,none⟩=some (.int .i64 0):=WC.cell (bA.cell 1)
 have f1:∀y:WC W0,y.w.frozen? ⟨W.heap.size+1,1,none⟩=false:=WC.frozen (bA.cell 1) (bA.frozen 1)
 have a2:∀y:WC W0,y.w.cell? ⟨W.heap.size+1,2,none⟩=some (.int .i64 0):=WC.cell (bA.cell 2)
 have f2:∀y:WC W0,y.w.frozen? ⟨W.heap.size+1,2,none⟩=false:=WC.frozen (bA.cell 2) (bA.frozen 2)
 have t0:∀y:WC W0,y.w.cell? ⟨W.heap.size,0,none⟩=some (.slice o0 l0.length c0):=WC.cell (HTb 0 (.slice o0 l0.length c0) rfl)
 have m0:l0.length≤9223372036854775807:=hT.m0
 have HL0:=Lib.hid hT.scripts
 have t1:∀y:WC W0,y.w.cell? ⟨W.heap.size,1,none⟩=some (.slice o1 l1.length c1):=WC.cell (HTb 1 (.slice o1 l1.length c1) rfl)
 have m1:l1.length≤9223372036854775807:=hT.m1
 have HL1:=Lib.hid hT.common
 have t2:∀y:WC W0,y.w.cell? ⟨W.heap.size,2,none⟩=some (.slice o2 l2.length c2):=WC.cell (HTb 2 (.slice o2 l2.length c2) rfl)
 have m2:l2.length≤9223372036854775807:=hT.m2
 have HL2:=Lib.hid hT.marks
 have t3:∀y:WC W0,y.w.cell? ⟨W.heap.size,3,none⟩=some (.slice o3 l3.length c3):=WC.cell (HTb 3 (.slice o3 l3.length c3) rfl)
 have m3:l3.length≤9223372036854775807:=hT.m3
 have HL3:=Lib.hid hT.pairs
 have t4:∀y:WC W0,y.w.cell? ⟨W.heap.size,4,none⟩=some (.slice o4 l4.length c4):=WC.cell (HTb 4 (.slice o4 l4.length c4) rfl)
 have m4:l4.length≤9223372036854775807:=hT.m4
 have HL4:=Lib.hid hT.folds
 have t5:∀y:WC W0,y.w.cell? ⟨W.heap.size,5,none⟩=some (.slice o5 l5.length c5):=WC.cell (HTb 5 (.slice o5 l5.length c5) rfl)
 have m5:l5.length≤9223372036854775807:=hT.m5
 have HL5:=Lib.hid hT.looks
 have t6:∀y:WC W0,y.w.cell? ⟨W.heap.size,6,none⟩=some (.slice o6 l6.length c6):=WC.cell (HTb 6 (.slice o6 l6.length c6) rfl)
 have m6:l6.length≤9223372036854775807:=hT.m6
 have HL6:=Lib.hid hT.drops
 have t7:∀y:WC W0,y.w.cell? ⟨W.heap.size,7,none⟩=some (.slice o7 l7.length c7):=WC.cell (HTb 7 (.slice o7 l7.length c7) rfl)
 have m7:l7.length≤9223372036854775807:=hT.m7
 have HL7:=Lib.hid hT.allowed
 dsimp only at hs
 have HMk:Hid (∀(r:Int) (y:WC W0),Calls Tryz.prog 127 #[.agg #[.slice o0 l0.length c0,.slice o1 l1.length c1,.slice o2 l2.length c2,.slice o3 l3.length c3,.slice o4 l4.length c4,.slice o5 l5.length c5,.slice o6 l6.length c6,.slice o7 l7.length c7],.int .i32 r] y.w fun e w'=>e=.returned (.bool (markB ⟨l0,l1,l2,l3,l4,l5,l6,l7⟩ r))∧∃z:WC W0,w'=z.w):=Lib.hid (fun r y=>WC.call (mark_any ⟨l0,l1,l2,l3,l4,l5,l6,l7⟩ ⟨o0,o1,o2,o3,o4,o5,o6,o7,c0,c1,c2,c3,c4,c5,c6,c7⟩ r y.w (hT.below y.h)))
 have HCh:Hid (∀(i:Nat) (y:WC W0),i<l3.length→Calls Tryz.prog 128 #[.agg #[.slice o0 l0.length c0,.slice o1 l1.length c1,.slice o2 l2.length c2,.slice o3 l3.length c3,.slice o4 l4.length c4,.slice o5 l5.length c5,.slice o6 l6.length c6,.slice o7 l7.length c7],.int .i64 i] y.w fun e w'=>e=.returned (.int .i64 (chainN ⟨l0,l1,l2,l3,l4,l5,l6,l7⟩ i))∧∃z:WC W0,w'=z.w):=Lib.hid (fun i y hi=>WC.call (chain_any ⟨l0,l1,l2,l3,l4,l5,l6,l7⟩ ⟨o0,o1,o2,o3,o4,o5,o6,o7,c0,c1,c2,c3,c4,c5,c6,c7⟩ i y.w (hT.below y.h) hi hs))
 clear hs
 clear hT HTb hB hz h hW0 bA
 obtain⟨R,hR⟩:∃R,pairsW ⟨l0,l1,l2,l3,l4,l5,l6,l7⟩=R:=⟨_,rfl⟩
 rw[hR]
 unfold pairsW at hR
 dsimp only at hR
 have HF:=Lib.hid hR
 clear hR
 obtain⟨TT,hTT⟩:∃TT:Tab,TT=⟨l0,l1,l2,l3,l4,l5,l6,l7⟩:=⟨_,rfl⟩
 rw[←hTT] at HMk HCh HF
 clear hTT
 go_enter Tryz.func79,Tryz.ntmps79
 go_wp2_with fail
 rw[HW0.out]
 clear HW0
 obtain⟨y,hy⟩:∃y:WC W0,y.w=W0:=⟨WC.of W0,rfl⟩
 rw[←hy]
 clear hy
 go_loopw [3] (fun v3 wr=>∃(i:Nat) (y:WC W0),v3=.int .i64 i∧i≤l3.length∧Hid (scan (pairM TT) (l3.drop i) i (scan (chainM TT) l3 0 (0,0,0))=R)∧wr=y.w) (fun v3 _=>l3.length - (intOf v3).toNat)
 case atStart=>exact⟨0,y,rfl,Nat.zero_le _,HF,rfl⟩
 case round=>
  clear HF y
  obtain⟨i,y,rfl,hi,HF,rfl⟩:=hrel
  have i0:(0:Int)≤(i:Int):=Int.natCast_nonneg _
  by_cases hlt:i<l3.length
  ·have i1:(i:Int)<(l3.length:Int):=by omega
   obtain⟨g,off,ho,hg,c0,c1,c2⟩:=HL3.out i hlt
   subst ho
   have HF1:=Lib.hid (scan_step hlt HF.out)
   generalize l3[i]=x at *
   have e0:=fun y:WC W0=>y.cell c0
   have e1:=fun y:WC W0=>y.cell c1
   have e2:=fun y:WC W0=>y.cell c2
   clear HF c0 c1 c2
   have K0:=Lib.hid (HMk.out x.1)
   cases h0:markB TT x.1 with
   | true=>
    rw[h0] at K0
    have HR:=Lib.hid ((scan_hit (f:=pairM TT) (by unfold pairM;simp only[h0];rfl)).symm.trans HF1.out)
    clear HF1
    go_wp2_with fail
    refine wp_region_wc (W0:=W0) (by kernel_rfl) (by kernel_rfl) y.h ?_
    repeat (first | go_big_quiet_step ((first | (go_at_call 127;(with_reducible exact K0.out _)))) | quiet_step ((first | (go_at_call 127;(with_reducible exact K0.out _)))))
    refine wpQuiet_nil ?_
    rintro _ ⟨y1,rfl⟩
    go_wp2_with fail
    have b3:=(((HA.out.keep (Keep.of_below y1.h (fun _=>False)) (by simp)).set 0 (.int .i64 32)).set 1 (.int .i64 4)).set 2 (.int .i64 i)
    have r0:=b3.cell 0
    have r1:=b3.cell 1
    have r2:=b3.cell 2
    refine bodyPost_ret (v:=.agg #[.int .i64 32,.int .i64 4,.int .i64 i]) (by simp[results,Tryz.results79,go_sem,r0,r1,r2]) rfl ?_
    exact⟨by rw[←HR.out];rfl,set3_below (HB.out.trans (y1.h.mono HB.out.size)) (by omega)⟩
   | false=>
    rw[h0] at K0
    have K1:=Lib.hid (HMk.out x.2.1)
    cases h1:markB TT x.2.1 with
    | true=>
     rw[h1] at K1
     have HR:=Lib.hid ((scan_hit (f:=pairM TT) (by unfold pairM;simp only[h0,h1];rfl)).symm.trans HF1.out)
     clear HF1
     go_wp2_with fail
     refine wp_region_wc (W0:=W0) (by kernel_rfl) (by kernel_rfl) y.h ?_
     repeat (first | go_big_quiet_step ((first | (go_at_call 127;(with_reducible exact K0.out _)) | (go_at_call 127;(with_reducible exact K1.out _)))) | quiet_step ((first | (go_at_call 127;(with_reducible exact K0.out _)) | (go_at_call 127;(with_reducible exact K1.out _)))))
     refine wpQuiet_nil ?_
     rintro _ ⟨y1,rfl⟩
     go_wp2_with fail
     have b3:=(((HA.out.keep (Keep.of_below y1.h (fun _=>False)) (by simp)).set 0 (.int .i64 32)).set 1 (.int .i64 4)).set 2 (.int .i64 i)
     have r0:=b3.cell 0
     have r1:=b3.cell 1
     have r2:=b3.cell 2
     refine bodyPost_ret (v:=.agg #[.int .i64 32,.int .i64 4,.int .i64 i]) (by simp[results,Tryz.results79,go_sem,r0,r1,r2]) rfl ?_
     exact⟨by rw[←HR.out];rfl,set3_below (HB.out.trans (y1.h.mono HB.out.size)) (by omega)⟩
    | false=>
     rw[h1] at K1
     have K2:=Lib.hid (HMk.out x.2.2)
     cases h2:markB TT x.2.2 with
     | true=>
      rw[h2] at K2
      have HF2:=Lib.hid ((scan_miss (f:=pairM TT) (by unfold pairM;simp only[h0,h1,h2];rfl)).symm.trans HF1.out)
      clear HF1
      go_wp2_with fail
      refine wp_region_wc (W0:=W0) (by kernel_rfl) (by kernel_rfl) y.h ?_
      repeat (first | go_big_quiet_step ((first | (go_at_call 127;(with_reducible exact K0.out _)) | (go_at_call 127;(with_reducible exact K1.out _)) | (go_at_call 127;(with_reducible exact K2.out _)))) | quiet_step ((first | (go_at_call 127;(with_reducible exact K0.out _)) | (go_at_call 127;(with_reducible exact K1.out _)) | (go_at_call 127;(with_reducible exact K2.out _)))))
      refine wpQuiet_nil ?_
      rintro _ ⟨y1,rfl⟩
      go_wp2_with fail
      exact⟨⟨i+1,y1,by go_num,by omega,HF2,rfl⟩,by simp[intOf];omega⟩
     | false=>
      rw[h2] at K2
      have HR:=Lib.hid ((scan_hit (f:=pairM TT) (by unfold pairM;simp only[h0,h1,h2];rfl)).symm.trans HF1.out)
      clear HF1
      go_wp2_with fail
      refine wp_region_wc (W0:=W0) (by kernel_rfl) (by kernel_rfl) y.h ?_
      repeat (first | go_big_quiet_step ((first | (go_at_call 127;(with_reducible exact K0.out _)) | (go_at_call 127;(with_reducible exact K1.out _)) | (go_at_call 127;(with_reducible exact K2.out _)))) | quiet_step ((first | (go_at_call 127;(with_reducible exact K0.out _)) | (go_at_call 127;(with_reducible exact K1.out _)) | (go_at_call 127;(with_reducible exact K2.out _)))))
      refine wpQuiet_nil ?_
      rintro _ ⟨y1,rfl⟩
      go_wp2_with fail
      have b3:=(((HA.out.keep (Keep.of_below y1.h (fun _=>False)) (by simp)).set 0 (.int .i64 32)).set 1 (.int .i64 4)).set 2 (.int .i64 i)
      have r0:=b3.cell 0
      have r1:=b3.cell 1
      have r2:=b3.cell 2
      refine bodyPost_ret (v:=.agg #[.int .i64 32,.int .i64 4,.int .i64 i]) (by simp[results,Tryz.results79,go_sem,r0,r1,r2]) rfl ?_
      exact⟨by rw[←HR.out];rfl,set3_below (HB.out.trans (y1.h.mono HB.out.size)) (by omega)⟩
  ·obtain rfl:i=l3.length:=by omega
   have HF0:=Lib.hid (scan_end HF.out)
   clear hi hlt i0 HF
   have HF:=Lib.hid HF0.out
   clear HF0
   go_wp2_with fail
   go_loopw [4] (fun v4 wr=>∃(i:Nat) (y:WC W0),v4=.int .i64 i∧i≤l3.length∧Hid (scan (chainM TT) (l3.drop i) i ((0,0,0))=R)∧wr=y.w) (fun v4 _=>l3.length - (intOf v4).toNat)
   case atStart=>exact⟨0,y,rfl,Nat.zero_le _,HF,rfl⟩
   case round=>
    clear HF y
    obtain⟨i,y,rfl,hi,HF,rfl⟩:=hrel
    have i0:(0:Int)≤(i:Int):=Int.natCast_nonneg _
    by_cases hlt:i<l3.length
    ·have i1:(i:Int)<(l3.length:Int):=by omega
     obtain⟨g,off,ho,hg,c0,c1,c2⟩:=HL3.out i hlt
     subst ho
     have HF1:=Lib.hid (scan_step hlt HF.out)
     generalize l3[i]=x at *
     have e0:=fun y:WC W0=>y.cell c0
     have e1:=fun y:WC W0=>y.cell c1
     have e2:=fun y:WC W0=>y.cell c2
     clear HF c0 c1 c2
     have K:=Lib.hid (HCh.out i y hlt)
     cases h0:decide (chainN TT i<0) with
     | true=>
      have HR:=Lib.hid ((scan_hit (f:=chainM TT) (by unfold chainM;simp only[h0];rfl)).symm.trans HF1.out)
      clear HF1
      generalize chainN TT i=n at *
      go_wp2_with fail
      (with_reducible refine Calls.mono (K.out ) ?_)
      rintro e w' ⟨rfl,y1,rfl⟩
      clear K
      go_wp2_with fail
      have b3:=(((HA.out.keep (Keep.of_below y1.h (fun _=>False)) (by simp)).set 0 (.int .i64 33)).set 1 (.int .i64 4)).set 2 (.int .i64 i)
      have r0:=b3.cell 0
      have r1:=b3.cell 1
      have r2:=b3.cell 2
      refine bodyPost_ret (v:=.agg #[.int .i64 33,.int .i64 4,.int .i64 i]) (by simp[results,Tryz.results79,go_sem,r0,r1,r2]) rfl ?_
      exact⟨by rw[←HR.out];rfl,set3_below (HB.out.trans (y1.h.mono HB.out.size)) (by omega)⟩
     | false=>
      cases h1:decide (4<chainN TT i) with
      | true=>
       have HR:=Lib.hid ((scan_hit (f:=chainM TT) (by unfold chainM;simp only[h0,h1];rfl)).symm.trans HF1.out)
       clear HF1
       generalize chainN TT i=n at *
       go_wp2_with fail
       (with_reducible refine Calls.mono (K.out ) ?_)
       rintro e w' ⟨rfl,y1,rfl⟩
       clear K
       go_wp2_with fail
       have b3:=(((HA.out.keep (Keep.of_below y1.h (fun _=>False)) (by simp)).set 0 (.int .i64 34)).set 1 (.int .i64 4)).set 2 (.int .i64 i)
       have r0:=b3.cell 0
       have r1:=b3.cell 1
       have r2:=b3.cell 2
       refine bodyPost_ret (v:=.agg #[.int .i64 34,.int .i64 4,.int .i64 i]) (by simp[results,Tryz.results79,go_sem,r0,r1,r2]) rfl ?_
       exact⟨by rw[←HR.out];rfl,set3_below (HB.out.trans (y1.h.mono HB.out.size)) (by omega)⟩
      | false=>
       have HF2:=Lib.hid ((scan_miss (f:=chainM TT) (by unfold chainM;simp only[h0,h1];rfl)).symm.trans HF1.out)
       clear HF1
       generalize chainN TT i=n at *
       go_wp2_with fail
       (with_reducible refine Calls.mono (K.out ) ?_)
       rintro e w' ⟨rfl,y1,rfl⟩
       clear K
       go_wp2_with fail
       exact⟨⟨i+1,y1,by go_num,by omega,HF2,rfl⟩,by simp[intOf];omega⟩
    ·obtain rfl:i=l3.length:=by omega
     have HF0:=Lib.hid (scan_end HF.out)
     clear hi hlt i0 HF
     have HF:=Lib.hid HF0.out
     clear HF0
     have HR:=Lib.hid HF.out
     go_wp2_with fail
     have b3:=(((HA.out.keep (Keep.of_below y.h (fun _=>False)) (by simp)).set 0 (.int .i64 0)).set 1 (.int .i64 0)).set 2 (.int .i64 0)
     have r0:=b3.cell 0
     have r1:=b3.cell 1
     have r2:=b3.cell 2
     refine bodyPost_ret (v:=.agg #[.int .i64 0,.int .i64 0,.int .i64 0]) (by simp[results,Tryz.results79,go_sem,r0,r1,r2]) rfl ?_
     exact⟨by rw[←HR.out];rfl,set3_below (HB.out.trans (y.h.mono HB.out.size)) (by omega)⟩
set_option maxRecDepth 100000 in
set_option maxHeartbeats 8000000 in
theorem plain_any (T:Tab) (a:TAddr) (r:Int) (W:World) (h:TabAt W T a):Calls Tryz.prog 131 #[.agg (tabCells T a),.int .i32 r] W fun e w'=>e=.returned (.bool (plainB T r))∧Below W.heap.size W w':=by
 obtain⟨l0,l1,l2,l3,l4,l5,l6,l7⟩:=T
 obtain⟨o0,o1,o2,o3,o4,o5,o6,o7,c0,c1,c2,c3,c4,c5,c6,c7⟩:=a
 obtain⟨hT,HTb,hB,hz⟩:=box1 h
 obtain⟨W0,hW0⟩:∃W0,(W.alloc (.cells #[.slice o0 l0.length c0,.slice o1 l1.length c1,.slice o2 l2.length c2,.slice o3 l3.length c3,.slice o4 l4.length c4,.slice o5 l5.length c5,.slice o6 l6.length c6,.slice o7 l7.length c7] 28))=W0:=⟨_,rfl⟩
 simp only[tabCells] at hT HTb hB hz ⊢
 rw[hW0] at hT HTb hB hz
 have HW0:=Lib.hid hW0
 have HB:=Lib.hid hB
 have HZ:=Lib.hid hz
 have t0:∀y:WC W0,y.w.cell? ⟨W.heap.size,0,none⟩=some (.slice o0 l0.length c0):=WC.cell (HTb 0 (.slice o0 l0.length c0) rfl)
 have m0:l0.length≤9223372036854775807:=hT.m0
 have HL0:=Lib.hid hT.scripts
 have t1:∀y:WC W0,y.w.cell? ⟨W.heap.size,1,none⟩=some (.slice o1 l1.length c1):=WC.cell (HTb 1 (.slice o1 l1.length c1) rfl)
 have m1:l1.length≤9223372036854775807:=hT.m1
 have HL1:=Lib.hid hT.common
 have t2:∀y:WC W0,y.w.cell? ⟨W.heap.size,2,none⟩=some (.slice o2 l2.length c2):=WC.cell (HTb 2 (.slice o2 l2.length c2) rfl)
 have m2:l2.length≤9223372036854775807:=hT.m2
 have HL2:=Lib.hid hT.marks
 have t3:∀y:WC W0,y.w.cell? ⟨W.heap.size,3,none⟩=some (.slice o3 l3.length c3):=WC.cell (HTb 3 (.slice o3 l3.length c3) rfl)
 have m3:l3.length≤9223372036854775807:=hT.m3
 have HL3:=Lib.hid hT.pairs
 have t4:∀y:WC W0,y.w.cell? ⟨W.heap.size,4,none⟩=some (.slice o4 l4.length c4):=WC.cell (HTb 4 (.slice o4 l4.length c4) rfl)
 have m4:l4.length≤9223372036854775807:=hT.m4
 have HL4:=Lib.hid hT.folds
 have t5:∀y:WC W0,y.w.cell? ⟨W.heap.size,5,none⟩=some (.slice o5 l5.length c5):=WC.cell (HTb 5 (.slice o5 l5.length c5) rfl)
 have m5:l5.length≤9223372036854775807:=hT.m5
 have HL5:=Lib.hid hT.looks
 have t6:∀y:WC W0,y.w.cell? ⟨W.heap.size,6,none⟩=some (.slice o6 l6.length c6):=WC.cell (HTb 6 (.slice o6 l6.length c6) rfl)
 have m6:l6.length≤9223372036854775807:=hT.m6
 have HL6:=Lib.hid hT.drops
 have t7:∀y:WC W0,y.w.cell? ⟨W.heap.size,7,none⟩=some (.slice o7 l7.length c7):=WC.cell (HTb 7 (.slice o7 l7.length c7) rfl)
 have m7:l7.length≤9223372036854775807:=hT.m7
 have HL7:=Lib.hid hT.allowed
 have HMk:Hid (∀(y:WC W0),Calls Tryz.prog 127 #[.agg #[.slice o0 l0.length c0,.slice o1 l1.length c1,.slice o2 l2.length c2,.slice o3 l3.length c3,.slice o4 l4.length c4,.slice o5 l5.length c5,.slice o6 l6.length c6,.slice o7 l7.length c7],.int .i32 r] y.w fun e w'=>e=.returned (.bool (markB ⟨l0,l1,l2,l3,l4,l5,l6,l7⟩ r))∧∃z:WC W0,w'=z.w):=Lib.hid (fun y=>WC.call (mark_any ⟨l0,l1,l2,l3,l4,l5,l6,l7⟩ ⟨o0,o1,o2,o3,o4,o5,o6,o7,c0,c1,c2,c3,c4,c5,c6,c7⟩ r y.w (hT.below y.h)))
 have HWh:Hid (∀(y:WC W0),Calls Tryz.prog 129 #[.agg #[.slice o0 l0.length c0,.slice o1 l1.length c1,.slice o2 l2.length c2,.slice o3 l3.length c3,.slice o4 l4.length c4,.slice o5 l5.length c5,.slice o6 l6.length c6,.slice o7 l7.length c7],.int .i32 r] y.w fun e w'=>e=.returned (.int .i64 (wholeN ⟨l0,l1,l2,l3,l4,l5,l6,l7⟩ r))∧∃z:WC W0,w'=z.w):=Lib.hid (fun y=>WC.call (whole_any ⟨l0,l1,l2,l3,l4,l5,l6,l7⟩ ⟨o0,o1,o2,o3,o4,o5,o6,o7,c0,c1,c2,c3,c4,c5,c6,c7⟩ r y.w (hT.below y.h)))
 have HO:Hid (∀(y:WC W0),Calls Tryz.prog 93 #[.int .i32 r,.slice o6 l6.length c6] y.w fun e w'=>e=.returned (.bool (ofB r l6))∧∃z:WC W0,w'=z.w):=Lib.hid (fun y=>WC.same (of_any r o6 c6 l6 y.w (hT.drops.below y.h) hT.m6))
 have HFr:Hid (∀(y:WC W0),Calls Tryz.prog 126 #[.slice o4 l4.length c4,.int .i32 r] y.w fun e w'=>e=.returned (.int .i64 (fromN l4 r))∧∃z:WC W0,w'=z.w):=Lib.hid (fun y=>WC.same (from_any l4 o4 c4 r y.w (hT.folds.below y.h) hT.m4))
 have HRu:Hid (∀(y:WC W0),Calls Tryz.prog 124 #[.int .i32 r] y.w fun e w'=>e=.returned (.bool (runeB r))∧∃z:WC W0,w'=z.w):=Lib.hid (fun y=>WC.same (rune_any r y.w))
 have HE:Hid (plainB ⟨l0,l1,l2,l3,l4,l5,l6,l7⟩ r=(runeB r && !markB ⟨l0,l1,l2,l3,l4,l5,l6,l7⟩ r && decide (wholeN ⟨l0,l1,l2,l3,l4,l5,l6,l7⟩ r<0) && !ofB r l6 && decide (fromN l4 r<0))):=Lib.hid rfl
 clear hT HTb hB hz h hW0
 generalize plainB ⟨l0,l1,l2,l3,l4,l5,l6,l7⟩ r=PB at *
 generalize markB ⟨l0,l1,l2,l3,l4,l5,l6,l7⟩ r=mb at *
 generalize wholeN ⟨l0,l1,l2,l3,l4,l5,l6,l7⟩ r=wb at *
 generalize ofB r l6=ob at *
 generalize fromN l4 r=fb at *
 generalize runeB r=rb at *
 have HG:Hid True:=Lib.hid trivial
 go_enter Tryz.func131,Tryz.ntmps131
 go_wp2_with fail
 rw[HW0.out]
 clear HW0
 obtain⟨y,hy⟩:∃y:WC W0,y.w=W0:=⟨WC.of W0,rfl⟩
 rw[←hy]
 clear hy
 cases rb with
 | false=>
  go_wp2_with fail
  (with_reducible refine Calls.mono (HRu.out y) ?_)
  rintro e w' ⟨rfl,y1,rfl⟩
  go_wp2_with fail
  go_ret
  exact⟨by rw[HE.out];first | rfl | (simp only[Bool.false_and];rfl),HB.out.trans (y1.h.mono HB.out.size)⟩
 | true=>
  cases mb with
  | true=>
   go_wp2_with fail
   (with_reducible refine Calls.mono (HRu.out y) ?_)
   rintro e w' ⟨rfl,y1,rfl⟩
   go_wp2_with fail
   (with_reducible refine Calls.mono (HMk.out y1) ?_)
   rintro e w' ⟨rfl,y2,rfl⟩
   go_wp2_with fail
   go_ret
   exact⟨by rw[HE.out];first | rfl | (simp only[Bool.false_and];rfl),HB.out.trans (y2.h.mono HB.out.size)⟩
  | false=>
   cases d1:decide (wb<0) with
   | false=>
    go_wp2_with fail
    (with_reducible refine Calls.mono (HRu.out y) ?_)
    rintro e w' ⟨rfl,y1,rfl⟩
    go_wp2_with fail
    (with_reducible refine Calls.mono (HMk.out y1) ?_)
    rintro e w' ⟨rfl,y2,rfl⟩
    go_wp2_with fail
    (with_reducible refine Calls.mono (HWh.out y2) ?_)
    rintro e w' ⟨rfl,y3,rfl⟩
    go_wp2_with fail
    go_ret
    exact⟨by rw[HE.out];first | rfl | (simp only[d1];rfl),HB.out.trans (y3.h.mono HB.out.size)⟩
   | true=>
    cases ob with
    | true=>
     go_wp2_with fail
     (with_reducible refine Calls.mono (HRu.out y) ?_)
     rintro e w' ⟨rfl,y1,rfl⟩
     go_wp2_with fail
     (with_reducible refine Calls.mono (HMk.out y1) ?_)
     rintro e w' ⟨rfl,y2,rfl⟩
     go_wp2_with fail
     (with_reducible refine Calls.mono (HWh.out y2) ?_)
     rintro e w' ⟨rfl,y3,rfl⟩
     go_wp2_with fail
     (with_reducible refine Calls.mono (HO.out y3) ?_)
     rintro e w' ⟨rfl,y4,rfl⟩
     go_wp2_with fail
     go_ret
     exact⟨by rw[HE.out];first | rfl | (simp only[d1];rfl),HB.out.trans (y4.h.mono HB.out.size)⟩
    | false=>
     cases d2:decide (fb<0) with
     | false=>
      go_wp2_with fail
      (with_reducible refine Calls.mono (HRu.out y) ?_)
      rintro e w' ⟨rfl,y1,rfl⟩
      go_wp2_with fail
      (with_reducible refine Calls.mono (HMk.out y1) ?_)
      rintro e w' ⟨rfl,y2,rfl⟩
      go_wp2_with fail
      (with_reducible refine Calls.mono (HWh.out y2) ?_)
      rintro e w' ⟨rfl,y3,rfl⟩
      go_wp2_with fail
      (with_reducible refine Calls.mono (HO.out y3) ?_)
      rintro e w' ⟨rfl,y4,rfl⟩
      go_wp2_with fail
      (with_reducible refine Calls.mono (HFr.out y4) ?_)
      rintro e w' ⟨rfl,y5,rfl⟩
      go_wp2_with fail
      go_ret
      exact⟨by rw[HE.out];first | rfl | (simp only[d1,d2];rfl),HB.out.trans (y5.h.mono HB.out.size)⟩
     | true=>
      go_wp2_with fail
      (with_reducible refine Calls.mono (HRu.out y) ?_)
      rintro e w' ⟨rfl,y1,rfl⟩
      go_wp2_with fail
      (with_reducible refine Calls.mono (HMk.out y1) ?_)
      rintro e w' ⟨rfl,y2,rfl⟩
      go_wp2_with fail
      (with_reducible refine Calls.mono (HWh.out y2) ?_)
      rintro e w' ⟨rfl,y3,rfl⟩
      go_wp2_with fail
      (with_reducible refine Calls.mono (HO.out y3) ?_)
      rintro e w' ⟨rfl,y4,rfl⟩
      go_wp2_with fail
      (with_reducible refine Calls.mono (HFr.out y4) ?_)
      rintro e w' ⟨rfl,y5,rfl⟩
      go_wp2_with fail
      go_ret
      exact⟨by rw[HE.out];first | rfl | (simp only[d1,d2];rfl),HB.out.trans (y5.h.mono HB.out.size)⟩
end Go.Proofs.YtioehfhdoohdmaaGreatDoor
