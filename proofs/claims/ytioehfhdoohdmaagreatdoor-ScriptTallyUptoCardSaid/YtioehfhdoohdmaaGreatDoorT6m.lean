/- guiseref6.Check, walked. Printed by gen_check6.py. -/
import Derived.Test.YtioehfhdoohdmaaGreatDoorTabA
import Derived.Test.YtioehfhdoohdmaaGreatDoorT6P
import Derived.Test.YtioehfhdoohdmaaGreatDoorT6d
import Derived.Test.YtioehfhdoohdmaaGreatDoorT6ij
import Derived.Test.YtioehfhdoohdmaaGreatDoorT6k1
import Derived.Test.YtioehfhdoohdmaaGreatDoorT6kk
import Derived.Test.YtioehfhdoohdmaaGreatDoorT6gh
import Derived.Test.YtioehfhdoohdmaaGreatDoorT6n
set_option linter.unusedVariables false
set_option linter.unusedSimpArgs false
namespace Go.Proofs.YtioehfhdoohdmaaGreatDoor
open Go.RowKit Go.Shelf BigFrame
set_option maxRecDepth 100000 in
set_option maxHeartbeats 40000000 in
theorem Check_any (T:Tab) (a:TAddr) (W:World) (h:TabAt W T a) (hs:TabSmall T):Calls Tryz.prog 47 #[.agg (tabCells T a)] W fun e w'=>e=.returned (wV (checkW T))∧Below W.heap.size W w':=by
 obtain⟨l0,l1,l2,l3,l4,l5,l6,l7⟩:=T
 obtain⟨o0,o1,o2,o3,o4,o5,o6,o7,c0,c1,c2,c3,c4,c5,c6,c7⟩:=a
 obtain⟨hT,HTb,bA,hB,hz⟩:=box2 h
 obtain⟨W0,hW0⟩:∃W0,(W.alloc (.cells #[.slice o0 l0.length c0,.slice o1 l1.length c1,.slice o2 l2.length c2,.slice o3 l3.length c3,.slice o4 l4.length c4,.slice o5 l5.length c5,.slice o6 l6.length c6,.slice o7 l7.length c7] 28)).alloc (.cells #[.int .i64 0,.int .i64 0,.int .i64 0] 100)=W0:=⟨_,rfl⟩
 simp only[tabCells] at hT HTb hB hz bA ⊢
 rw[hW0] at hT HTb hB hz bA
 have HW0:=Lib.hid hW0
 have HB:=Lib.hid hB
 have HZ:=Lib.hid hz
 have HA:=Lib.hid bA
 have a0:∀y:WC W0,y.w.cell? ⟨W.heap.size+1,0,none⟩=some (.int .i64 0):=WC.cell (bA.cell 0)
 have f0:∀y:WC W0,y.w.frozen? ⟨W.heap.size+1,0,none⟩=false:=WC.frozen (bA.cell 0) (bA.frozen 0)
 have a1:∀y:WC W0,y.w.cell? ⟨W.heap.size+1,1,none⟩=some (.int .i64 0):=WC.cell (bA.cell 1)
 have f1:∀y:WC W0,y.w.frozen? ⟨W.heap.size+1,1,none⟩=false:=WC.frozen (bA.cell 1) (bA.frozen 1)
 have a2:∀y:WC W0,y.w.cell? ⟨W.heap.size+1,2,none⟩=some (.int .i64 0):=WC.cell (bA.cell 2)
 have f2:∀y:WC W0,y.w.frozen? ⟨W.heap.size+1,2,none⟩=false:=WC.frozen (bA.cell 2) (bA.frozen 2)
 have t0:∀y:WC W0,y.w.cell? ⟨W.heap.size,0,none⟩=some (.slice o0 l0.length c0):=WC.cell (HTb 0 (.slice o0 l0.length c0) rfl)
 have m0:l0.length≤9223372036854775807:=hT.m0
 have HL0:=Lib.hid hT.scripts
 have t1:∀y:WC W0,y.w.cell? ⟨W.heap.size,1,none⟩=some (.slice o1 l1.length c1):=WC.cell (HTb 1 (.slice o1 l1.length c1) rfl)
 have m1:l1.length≤9223372036854775807:=hT.m1
 have HL1:=Lib.hid hT.common
 have t2:∀y:WC W0,y.w.cell? ⟨W.heap.size,2,none⟩=some (.slice o2 l2.length c2):=WC.cell (HTb 2 (.slice o2 l2.length c2) rfl)
 have m2:l2.length≤9223372036854775807:=hT.m2
 have HL2:=Lib.hid hT.marks
 have t3:∀y:WC W0,y.w.cell? ⟨W.heap.size,3,none⟩=some (.slice o3 l3.length c3):=WC.cell (HTb 3 (.slice o3 l3.length c3) rfl)
 have m3:l3.length≤9223372036854775807:=hT.m3
 have HL3:=Lib.hid hT.pairs
 have t4:∀y:WC W0,y.w.cell? ⟨W.heap.size,4,none⟩=some (.slice o4 l4.length c4):=WC.cell (HTb 4 (.slice o4 l4.length c4) rfl)
 have m4:l4.length≤9223372036854775807:=hT.m4
 have HL4:=Lib.hid hT.folds
 have t5:∀y:WC W0,y.w.cell? ⟨W.heap.size,5,none⟩=some (.slice o5 l5.length c5):=WC.cell (HTb 5 (.slice o5 l5.length c5) rfl)
 have m5:l5.length≤9223372036854775807:=hT.m5
 have HL5:=Lib.hid hT.looks
 have t6:∀y:WC W0,y.w.cell? ⟨W.heap.size,6,none⟩=some (.slice o6 l6.length c6):=WC.cell (HTb 6 (.slice o6 l6.length c6) rfl)
 have m6:l6.length≤9223372036854775807:=hT.m6
 have HL6:=Lib.hid hT.drops
 have t7:∀y:WC W0,y.w.cell? ⟨W.heap.size,7,none⟩=some (.slice o7 l7.length c7):=WC.cell (HTb 7 (.slice o7 l7.length c7) rfl)
 have m7:l7.length≤9223372036854775807:=hT.m7
 have HL7:=Lib.hid hT.allowed
 have HC0:Hid (∀(y:WC W0),Calls Tryz.prog 76 #[.agg #[.slice o0 l0.length c0,.slice o1 l1.length c1,.slice o2 l2.length c2,.slice o3 l3.length c3,.slice o4 l4.length c4,.slice o5 l5.length c5,.slice o6 l6.length c6,.slice o7 l7.length c7]] y.w fun e w'=>e=.returned (wV (longW ⟨l0,l1,l2,l3,l4,l5,l6,l7⟩))∧Below y.w.heap.size y.w w'):=Lib.hid (fun y=>long_any ⟨l0,l1,l2,l3,l4,l5,l6,l7⟩ ⟨o0,o1,o2,o3,o4,o5,o6,o7,c0,c1,c2,c3,c4,c5,c6,c7⟩ y.w (hT.below y.h))
 unfold wV at HC0
 have HC1:Hid (∀(y:WC W0),Calls Tryz.prog 77 #[.agg #[.slice o0 l0.length c0,.slice o1 l1.length c1,.slice o2 l2.length c2,.slice o3 l3.length c3,.slice o4 l4.length c4,.slice o5 l5.length c5,.slice o6 l6.length c6,.slice o7 l7.length c7]] y.w fun e w'=>e=.returned (wV (formsW ⟨l0,l1,l2,l3,l4,l5,l6,l7⟩))∧Below y.w.heap.size y.w w'):=Lib.hid (fun y=>forms_any ⟨l0,l1,l2,l3,l4,l5,l6,l7⟩ ⟨o0,o1,o2,o3,o4,o5,o6,o7,c0,c1,c2,c3,c4,c5,c6,c7⟩ y.w (hT.below y.h) hs)
 unfold wV at HC1
 have HC2:Hid (∀(y:WC W0),Calls Tryz.prog 78 #[.agg #[.slice o0 l0.length c0,.slice o1 l1.length c1,.slice o2 l2.length c2,.slice o3 l3.length c3,.slice o4 l4.length c4,.slice o5 l5.length c5,.slice o6 l6.length c6,.slice o7 l7.length c7]] y.w fun e w'=>e=.returned (wV (twiceW ⟨l0,l1,l2,l3,l4,l5,l6,l7⟩))∧Below y.w.heap.size y.w w'):=Lib.hid (fun y=>twice_any ⟨l0,l1,l2,l3,l4,l5,l6,l7⟩ ⟨o0,o1,o2,o3,o4,o5,o6,o7,c0,c1,c2,c3,c4,c5,c6,c7⟩ y.w (hT.below y.h))
 unfold wV at HC2
 have HC3:Hid (∀(y:WC W0),Calls Tryz.prog 79 #[.agg #[.slice o0 l0.length c0,.slice o1 l1.length c1,.slice o2 l2.length c2,.slice o3 l3.length c3,.slice o4 l4.length c4,.slice o5 l5.length c5,.slice o6 l6.length c6,.slice o7 l7.length c7]] y.w fun e w'=>e=.returned (wV (pairsW ⟨l0,l1,l2,l3,l4,l5,l6,l7⟩))∧Below y.w.heap.size y.w w'):=Lib.hid (fun y=>pairs_any ⟨l0,l1,l2,l3,l4,l5,l6,l7⟩ ⟨o0,o1,o2,o3,o4,o5,o6,o7,c0,c1,c2,c3,c4,c5,c6,c7⟩ y.w (hT.below y.h) hs.pairs)
 unfold wV at HC3
 have HC4:Hid (∀(y:WC W0),Calls Tryz.prog 80 #[.agg #[.slice o0 l0.length c0,.slice o1 l1.length c1,.slice o2 l2.length c2,.slice o3 l3.length c3,.slice o4 l4.length c4,.slice o5 l5.length c5,.slice o6 l6.length c6,.slice o7 l7.length c7]] y.w fun e w'=>e=.returned (wV (dropsW ⟨l0,l1,l2,l3,l4,l5,l6,l7⟩))∧Below y.w.heap.size y.w w'):=Lib.hid (fun y=>drops_any ⟨l0,l1,l2,l3,l4,l5,l6,l7⟩ ⟨o0,o1,o2,o3,o4,o5,o6,o7,c0,c1,c2,c3,c4,c5,c6,c7⟩ y.w (hT.below y.h))
 unfold wV at HC4
 have HC5:Hid (∀(y:WC W0),Calls Tryz.prog 81 #[.agg #[.slice o0 l0.length c0,.slice o1 l1.length c1,.slice o2 l2.length c2,.slice o3 l3.length c3,.slice o4 l4.length c4,.slice o5 l5.length c5,.slice o6 l6.length c6,.slice o7 l7.length c7]] y.w fun e w'=>e=.returned (wV (tosW ⟨l0,l1,l2,l3,l4,l5,l6,l7⟩))∧Below y.w.heap.size y.w w'):=Lib.hid (fun y=>tos_any ⟨l0,l1,l2,l3,l4,l5,l6,l7⟩ ⟨o0,o1,o2,o3,o4,o5,o6,o7,c0,c1,c2,c3,c4,c5,c6,c7⟩ y.w (hT.below y.h) hs)
 unfold wV at HC5
 have HC6:Hid (∀(y:WC W0),Calls Tryz.prog 82 #[.agg #[.slice o0 l0.length c0,.slice o1 l1.length c1,.slice o2 l2.length c2,.slice o3 l3.length c3,.slice o4 l4.length c4,.slice o5 l5.length c5,.slice o6 l6.length c6,.slice o7 l7.length c7]] y.w fun e w'=>e=.returned (wV (houseW ⟨l0,l1,l2,l3,l4,l5,l6,l7⟩))∧Below y.w.heap.size y.w w'):=Lib.hid (fun y=>house_any ⟨l0,l1,l2,l3,l4,l5,l6,l7⟩ ⟨o0,o1,o2,o3,o4,o5,o6,o7,c0,c1,c2,c3,c4,c5,c6,c7⟩ y.w (hT.below y.h) hs)
 unfold wV at HC6
 clear hs
 clear hT HTb hB hz h hW0 bA
 obtain⟨R,hR⟩:∃R,checkW ⟨l0,l1,l2,l3,l4,l5,l6,l7⟩=R:=⟨_,rfl⟩
 rw[hR]
 unfold checkW at hR
 try dsimp only at hR
 have HF:=Lib.hid hR
 clear hR
 generalize longW ⟨l0,l1,l2,l3,l4,l5,l6,l7⟩=x0 at *
 generalize formsW ⟨l0,l1,l2,l3,l4,l5,l6,l7⟩=x1 at *
 generalize twiceW ⟨l0,l1,l2,l3,l4,l5,l6,l7⟩=x2 at *
 generalize pairsW ⟨l0,l1,l2,l3,l4,l5,l6,l7⟩=x3 at *
 generalize dropsW ⟨l0,l1,l2,l3,l4,l5,l6,l7⟩=x4 at *
 generalize tosW ⟨l0,l1,l2,l3,l4,l5,l6,l7⟩=x5 at *
 generalize houseW ⟨l0,l1,l2,l3,l4,l5,l6,l7⟩=x6 at *
 go_enter Tryz.func47,Tryz.ntmps47
 go_wp2_with fail
 rw[HW0.out]
 clear HW0
 obtain⟨y,hy⟩:∃y:WC W0,y.w=W0:=⟨WC.of W0,rfl⟩
 rw[←hy]
 clear hy
 go_wp2_with fail
 (with_reducible refine Calls.mono (HC0.out y) ?_)
 rintro e w' ⟨rfl,hBk⟩
 have hB1:Below W0.heap.size W0 (w'.alloc (.cells #[.int .i64 x0.1,.int .i64 x0.2.1,.int .i64 x0.2.2] 100)):=(y.h.trans (hBk.mono y.h.size)).alloc (Nat.le_trans y.h.size hBk.size) _
 have bW1:=Blk.new' w' #[.int .i64 x0.1,.int .i64 x0.2.1,.int .i64 x0.2.2] 100
 have hb1:W0.heap.size≤w'.heap.size:=Nat.le_trans y.h.size hBk.size
 go_upto_if 8 with fail
 obtain⟨b,hb⟩:∃b,w'.heap.size=b:=⟨_,rfl⟩
 rw[hb] at bW1 hb1 ⊢
 obtain⟨y1,hy⟩:∃y:WC W0,y.w=w'.alloc (.cells #[.int .i64 x0.1,.int .i64 x0.2.1,.int .i64 x0.2.2] 100):=⟨⟨w'.alloc (.cells #[.int .i64 x0.1,.int .i64 x0.2.1,.int .i64 x0.2.2] 100),hB1⟩,rfl⟩
 rw[←hy]
 rw[←hy] at bW1
 clear hB1 hy
 have q0:=bW1.cell 0
 have p0:=bW1.frozen 0
 have q1:=bW1.cell 1
 have p1:=bW1.frozen 1
 have q2:=bW1.cell 2
 have p2:=bW1.frozen 2
 dsimp only[List.getElem?_cons_zero,List.getElem?_cons_succ] at q0 q1 q2
 clear hb hBk
 by_cases h0:x0.1=0
 ·have d0:(x0.1 == 0)=true:=by simpa using h0
  have HF1:=Lib.hid ((orK_no h0).symm.trans HF.out)
  clear h0 HF
  go_wp2_with fail
  (with_reducible refine Calls.mono (HC1.out y1) ?_)
  rintro e w' ⟨rfl,hBk⟩
  have bW:=bW1.keep (Keep.of_below hBk (fun _=>False)) (by simp)
  clear bW1 q0 q1 q2 p0 p1 p2
  have q0:=bW.cell 0
  have p0:=bW.frozen 0
  have q1:=bW.cell 1
  have p1:=bW.frozen 1
  have q2:=bW.cell 2
  have p2:=bW.frozen 2
  dsimp only[List.getElem?_cons_zero,List.getElem?_cons_succ] at q0 q1 q2
  have bW1:=((bW.set 0 (.int .i64 x1.1)).set 1 (.int .i64 x1.2.1)).set 2 (.int .i64 x1.2.2)
  dsimp only[List.set_cons_zero,List.set_cons_succ] at bW1
  have hB1:=set3_below (u:=.int .i64 x1.1) (v:=.int .i64 x1.2.1) (x:=.int .i64 x1.2.2) (y1.h.trans (hBk.mono y1.h.size)) hb1
  go_upto_if 13 with fail
  clear q0 q1 q2 p0 p1 p2
  obtain⟨y2,hy⟩:∃y:WC W0,y.w=((w'.setCell ⟨b,0,none⟩ (.int .i64 x1.1)).setCell ⟨b,1,none⟩ (.int .i64 x1.2.1)).setCell ⟨b,2,none⟩ (.int .i64 x1.2.2):=⟨⟨((w'.setCell ⟨b,0,none⟩ (.int .i64 x1.1)).setCell ⟨b,1,none⟩ (.int .i64 x1.2.1)).setCell ⟨b,2,none⟩ (.int .i64 x1.2.2),hB1⟩,rfl⟩
  rw[←hy]
  rw[←hy] at bW1
  clear hB1 hy
  have q0:=bW1.cell 0
  have p0:=bW1.frozen 0
  have q1:=bW1.cell 1
  have p1:=bW1.frozen 1
  have q2:=bW1.cell 2
  have p2:=bW1.frozen 2
  dsimp only[List.getElem?_cons_zero,List.getElem?_cons_succ] at q0 q1 q2
  clear bW hBk
  by_cases h1:x1.1=0
  ·have d1:(x1.1 == 0)=true:=by simpa using h1
   have HF2:=Lib.hid ((orK_no h1).symm.trans HF1.out)
   clear h1 HF1
   go_wp2_with fail
   (with_reducible refine Calls.mono (HC2.out y2) ?_)
   rintro e w' ⟨rfl,hBk⟩
   have bW:=bW1.keep (Keep.of_below hBk (fun _=>False)) (by simp)
   clear bW1 q0 q1 q2 p0 p1 p2
   have q0:=bW.cell 0
   have p0:=bW.frozen 0
   have q1:=bW.cell 1
   have p1:=bW.frozen 1
   have q2:=bW.cell 2
   have p2:=bW.frozen 2
   dsimp only[List.getElem?_cons_zero,List.getElem?_cons_succ] at q0 q1 q2
   have bW1:=((bW.set 0 (.int .i64 x2.1)).set 1 (.int .i64 x2.2.1)).set 2 (.int .i64 x2.2.2)
   dsimp only[List.set_cons_zero,List.set_cons_succ] at bW1
   have hB1:=set3_below (u:=.int .i64 x2.1) (v:=.int .i64 x2.2.1) (x:=.int .i64 x2.2.2) (y2.h.trans (hBk.mono y2.h.size)) hb1
   go_upto_if 18 with fail
   clear q0 q1 q2 p0 p1 p2
   obtain⟨y3,hy⟩:∃y:WC W0,y.w=((w'.setCell ⟨b,0,none⟩ (.int .i64 x2.1)).setCell ⟨b,1,none⟩ (.int .i64 x2.2.1)).setCell ⟨b,2,none⟩ (.int .i64 x2.2.2):=⟨⟨((w'.setCell ⟨b,0,none⟩ (.int .i64 x2.1)).setCell ⟨b,1,none⟩ (.int .i64 x2.2.1)).setCell ⟨b,2,none⟩ (.int .i64 x2.2.2),hB1⟩,rfl⟩
   rw[←hy]
   rw[←hy] at bW1
   clear hB1 hy
   have q0:=bW1.cell 0
   have p0:=bW1.frozen 0
   have q1:=bW1.cell 1
   have p1:=bW1.frozen 1
   have q2:=bW1.cell 2
   have p2:=bW1.frozen 2
   dsimp only[List.getElem?_cons_zero,List.getElem?_cons_succ] at q0 q1 q2
   clear bW hBk
   by_cases h2:x2.1=0
   ·have d2:(x2.1 == 0)=true:=by simpa using h2
    have HF3:=Lib.hid ((orK_no h2).symm.trans HF2.out)
    clear h2 HF2
    go_wp2_with fail
    (with_reducible refine Calls.mono (HC3.out y3) ?_)
    rintro e w' ⟨rfl,hBk⟩
    have bW:=bW1.keep (Keep.of_below hBk (fun _=>False)) (by simp)
    clear bW1 q0 q1 q2 p0 p1 p2
    have q0:=bW.cell 0
    have p0:=bW.frozen 0
    have q1:=bW.cell 1
    have p1:=bW.frozen 1
    have q2:=bW.cell 2
    have p2:=bW.frozen 2
    dsimp only[List.getElem?_cons_zero,List.getElem?_cons_succ] at q0 q1 q2
    have bW1:=((bW.set 0 (.int .i64 x3.1)).set 1 (.int .i64 x3.2.1)).set 2 (.int .i64 x3.2.2)
    dsimp only[List.set_cons_zero,List.set_cons_succ] at bW1
    have hB1:=set3_below (u:=.int .i64 x3.1) (v:=.int .i64 x3.2.1) (x:=.int .i64 x3.2.2) (y3.h.trans (hBk.mono y3.h.size)) hb1
    go_upto_if 23 with fail
    clear q0 q1 q2 p0 p1 p2
    obtain⟨y4,hy⟩:∃y:WC W0,y.w=((w'.setCell ⟨b,0,none⟩ (.int .i64 x3.1)).setCell ⟨b,1,none⟩ (.int .i64 x3.2.1)).setCell ⟨b,2,none⟩ (.int .i64 x3.2.2):=⟨⟨((w'.setCell ⟨b,0,none⟩ (.int .i64 x3.1)).setCell ⟨b,1,none⟩ (.int .i64 x3.2.1)).setCell ⟨b,2,none⟩ (.int .i64 x3.2.2),hB1⟩,rfl⟩
    rw[←hy]
    rw[←hy] at bW1
    clear hB1 hy
    have q0:=bW1.cell 0
    have p0:=bW1.frozen 0
    have q1:=bW1.cell 1
    have p1:=bW1.frozen 1
    have q2:=bW1.cell 2
    have p2:=bW1.frozen 2
    dsimp only[List.getElem?_cons_zero,List.getElem?_cons_succ] at q0 q1 q2
    clear bW hBk
    by_cases h3:x3.1=0
    ·have d3:(x3.1 == 0)=true:=by simpa using h3
     have HF4:=Lib.hid ((orK_no h3).symm.trans HF3.out)
     clear h3 HF3
     go_wp2_with fail
     (with_reducible refine Calls.mono (HC4.out y4) ?_)
     rintro e w' ⟨rfl,hBk⟩
     have bW:=bW1.keep (Keep.of_below hBk (fun _=>False)) (by simp)
     clear bW1 q0 q1 q2 p0 p1 p2
     have q0:=bW.cell 0
     have p0:=bW.frozen 0
     have q1:=bW.cell 1
     have p1:=bW.frozen 1
     have q2:=bW.cell 2
     have p2:=bW.frozen 2
     dsimp only[List.getElem?_cons_zero,List.getElem?_cons_succ] at q0 q1 q2
     have bW1:=((bW.set 0 (.int .i64 x4.1)).set 1 (.int .i64 x4.2.1)).set 2 (.int .i64 x4.2.2)
     dsimp only[List.set_cons_zero,List.set_cons_succ] at bW1
     have hB1:=set3_below (u:=.int .i64 x4.1) (v:=.int .i64 x4.2.1) (x:=.int .i64 x4.2.2) (y4.h.trans (hBk.mono y4.h.size)) hb1
     go_upto_if 28 with fail
     clear q0 q1 q2 p0 p1 p2
     obtain⟨y5,hy⟩:∃y:WC W0,y.w=((w'.setCell ⟨b,0,none⟩ (.int .i64 x4.1)).setCell ⟨b,1,none⟩ (.int .i64 x4.2.1)).setCell ⟨b,2,none⟩ (.int .i64 x4.2.2):=⟨⟨((w'.setCell ⟨b,0,none⟩ (.int .i64 x4.1)).setCell ⟨b,1,none⟩ (.int .i64 x4.2.1)).setCell ⟨b,2,none⟩ (.int .i64 x4.2.2),hB1⟩,rfl⟩
     rw[←hy]
     rw[←hy] at bW1
     clear hB1 hy
     have q0:=bW1.cell 0
     have p0:=bW1.frozen 0
     have q1:=bW1.cell 1
     have p1:=bW1.frozen 1
     have q2:=bW1.cell 2
     have p2:=bW1.frozen 2
     dsimp only[List.getElem?_cons_zero,List.getElem?_cons_succ] at q0 q1 q2
     clear bW hBk
     by_cases h4:x4.1=0
     ·have d4:(x4.1 == 0)=true:=by simpa using h4
      have HF5:=Lib.hid ((orK_no h4).symm.trans HF4.out)
      clear h4 HF4
      go_wp2_with fail
      (with_reducible refine Calls.mono (HC5.out y5) ?_)
      rintro e w' ⟨rfl,hBk⟩
      have bW:=bW1.keep (Keep.of_below hBk (fun _=>False)) (by simp)
      clear bW1 q0 q1 q2 p0 p1 p2
      have q0:=bW.cell 0
      have p0:=bW.frozen 0
      have q1:=bW.cell 1
      have p1:=bW.frozen 1
      have q2:=bW.cell 2
      have p2:=bW.frozen 2
      dsimp only[List.getElem?_cons_zero,List.getElem?_cons_succ] at q0 q1 q2
      have bW1:=((bW.set 0 (.int .i64 x5.1)).set 1 (.int .i64 x5.2.1)).set 2 (.int .i64 x5.2.2)
      dsimp only[List.set_cons_zero,List.set_cons_succ] at bW1
      have hB1:=set3_below (u:=.int .i64 x5.1) (v:=.int .i64 x5.2.1) (x:=.int .i64 x5.2.2) (y5.h.trans (hBk.mono y5.h.size)) hb1
      go_upto_if 33 with fail
      clear q0 q1 q2 p0 p1 p2
      obtain⟨y6,hy⟩:∃y:WC W0,y.w=((w'.setCell ⟨b,0,none⟩ (.int .i64 x5.1)).setCell ⟨b,1,none⟩ (.int .i64 x5.2.1)).setCell ⟨b,2,none⟩ (.int .i64 x5.2.2):=⟨⟨((w'.setCell ⟨b,0,none⟩ (.int .i64 x5.1)).setCell ⟨b,1,none⟩ (.int .i64 x5.2.1)).setCell ⟨b,2,none⟩ (.int .i64 x5.2.2),hB1⟩,rfl⟩
      rw[←hy]
      rw[←hy] at bW1
      clear hB1 hy
      have q0:=bW1.cell 0
      have p0:=bW1.frozen 0
      have q1:=bW1.cell 1
      have p1:=bW1.frozen 1
      have q2:=bW1.cell 2
      have p2:=bW1.frozen 2
      dsimp only[List.getElem?_cons_zero,List.getElem?_cons_succ] at q0 q1 q2
      clear bW hBk
      by_cases h5:x5.1=0
      ·have d5:(x5.1 == 0)=true:=by simpa using h5
       have HF6:=Lib.hid ((orK_no h5).symm.trans HF5.out)
       clear h5 HF5
       go_wp2_with fail
       (with_reducible refine Calls.mono (HC6.out y6) ?_)
       rintro e w' ⟨rfl,hBk⟩
       have bW:=bW1.keep (Keep.of_below hBk (fun _=>False)) (by simp)
       clear bW1 q0 q1 q2 p0 p1 p2
       have q0:=bW.cell 0
       have p0:=bW.frozen 0
       have q1:=bW.cell 1
       have p1:=bW.frozen 1
       have q2:=bW.cell 2
       have p2:=bW.frozen 2
       dsimp only[List.getElem?_cons_zero,List.getElem?_cons_succ] at q0 q1 q2
       have bW1:=((bW.set 0 (.int .i64 x6.1)).set 1 (.int .i64 x6.2.1)).set 2 (.int .i64 x6.2.2)
       dsimp only[List.set_cons_zero,List.set_cons_succ] at bW1
       have hB1:=set3_below (u:=.int .i64 x6.1) (v:=.int .i64 x6.2.1) (x:=.int .i64 x6.2.2) (y6.h.trans (hBk.mono y6.h.size)) hb1
       go_upto_region 14 with fail
       clear q0 q1 q2 p0 p1 p2
       obtain⟨y7,hy⟩:∃y:WC W0,y.w=((w'.setCell ⟨b,0,none⟩ (.int .i64 x6.1)).setCell ⟨b,1,none⟩ (.int .i64 x6.2.1)).setCell ⟨b,2,none⟩ (.int .i64 x6.2.2):=⟨⟨((w'.setCell ⟨b,0,none⟩ (.int .i64 x6.1)).setCell ⟨b,1,none⟩ (.int .i64 x6.2.1)).setCell ⟨b,2,none⟩ (.int .i64 x6.2.2),hB1⟩,rfl⟩
       rw[←hy]
       rw[←hy] at bW1
       clear hB1 hy
       have q0:=bW1.cell 0
       have p0:=bW1.frozen 0
       have q1:=bW1.cell 1
       have p1:=bW1.frozen 1
       have q2:=bW1.cell 2
       have p2:=bW1.frozen 2
       dsimp only[List.getElem?_cons_zero,List.getElem?_cons_succ] at q0 q1 q2
       clear bW hBk
       have HR:=Lib.hid HF6.out
       go_wp2_with fail
       have b3:=(((HA.out.keep (Keep.of_below y7.h (fun _=>False)) (by simp)).set 0 (.int .i64 x6.1)).set 1 (.int .i64 x6.2.1)).set 2 (.int .i64 x6.2.2)
       have r0:=b3.cell 0
       have r1:=b3.cell 1
       have r2:=b3.cell 2
       refine bodyPost_ret (v:=.agg #[.int .i64 x6.1,.int .i64 x6.2.1,.int .i64 x6.2.2]) (by simp[results,Tryz.results47,go_sem,r0,r1,r2]) rfl ?_
       exact⟨by rw[←HR.out];rfl,set3_below (HB.out.trans (y7.h.mono HB.out.size)) (by omega)⟩
      ·have d5:(x5.1 == 0)=false:=by simpa using h5
       have HR:=Lib.hid ((orK_yes h5).symm.trans HF5.out)
       clear h5 HF5
       go_wp2_with fail
       have b3:=(((HA.out.keep (Keep.of_below y6.h (fun _=>False)) (by simp)).set 0 (.int .i64 x5.1)).set 1 (.int .i64 x5.2.1)).set 2 (.int .i64 x5.2.2)
       have r0:=b3.cell 0
       have r1:=b3.cell 1
       have r2:=b3.cell 2
       refine bodyPost_ret (v:=.agg #[.int .i64 x5.1,.int .i64 x5.2.1,.int .i64 x5.2.2]) (by simp[results,Tryz.results47,go_sem,r0,r1,r2]) rfl ?_
       exact⟨by rw[←HR.out];rfl,set3_below (HB.out.trans (y6.h.mono HB.out.size)) (by omega)⟩
     ·have d4:(x4.1 == 0)=false:=by simpa using h4
      have HR:=Lib.hid ((orK_yes h4).symm.trans HF4.out)
      clear h4 HF4
      go_wp2_with fail
      have b3:=(((HA.out.keep (Keep.of_below y5.h (fun _=>False)) (by simp)).set 0 (.int .i64 x4.1)).set 1 (.int .i64 x4.2.1)).set 2 (.int .i64 x4.2.2)
      have r0:=b3.cell 0
      have r1:=b3.cell 1
      have r2:=b3.cell 2
      refine bodyPost_ret (v:=.agg #[.int .i64 x4.1,.int .i64 x4.2.1,.int .i64 x4.2.2]) (by simp[results,Tryz.results47,go_sem,r0,r1,r2]) rfl ?_
      exact⟨by rw[←HR.out];rfl,set3_below (HB.out.trans (y5.h.mono HB.out.size)) (by omega)⟩
    ·have d3:(x3.1 == 0)=false:=by simpa using h3
     have HR:=Lib.hid ((orK_yes h3).symm.trans HF3.out)
     clear h3 HF3
     go_wp2_with fail
     have b3:=(((HA.out.keep (Keep.of_below y4.h (fun _=>False)) (by simp)).set 0 (.int .i64 x3.1)).set 1 (.int .i64 x3.2.1)).set 2 (.int .i64 x3.2.2)
     have r0:=b3.cell 0
     have r1:=b3.cell 1
     have r2:=b3.cell 2
     refine bodyPost_ret (v:=.agg #[.int .i64 x3.1,.int .i64 x3.2.1,.int .i64 x3.2.2]) (by simp[results,Tryz.results47,go_sem,r0,r1,r2]) rfl ?_
     exact⟨by rw[←HR.out];rfl,set3_below (HB.out.trans (y4.h.mono HB.out.size)) (by omega)⟩
   ·have d2:(x2.1 == 0)=false:=by simpa using h2
    have HR:=Lib.hid ((orK_yes h2).symm.trans HF2.out)
    clear h2 HF2
    go_wp2_with fail
    have b3:=(((HA.out.keep (Keep.of_below y3.h (fun _=>False)) (by simp)).set 0 (.int .i64 x2.1)).set 1 (.int .i64 x2.2.1)).set 2 (.int .i64 x2.2.2)
    have r0:=b3.cell 0
    have r1:=b3.cell 1
    have r2:=b3.cell 2
    refine bodyPost_ret (v:=.agg #[.int .i64 x2.1,.int .i64 x2.2.1,.int .i64 x2.2.2]) (by simp[results,Tryz.results47,go_sem,r0,r1,r2]) rfl ?_
    exact⟨by rw[←HR.out];rfl,set3_below (HB.out.trans (y3.h.mono HB.out.size)) (by omega)⟩
  ·have d1:(x1.1 == 0)=false:=by simpa using h1
   have HR:=Lib.hid ((orK_yes h1).symm.trans HF1.out)
   clear h1 HF1
   go_wp2_with fail
   have b3:=(((HA.out.keep (Keep.of_below y2.h (fun _=>False)) (by simp)).set 0 (.int .i64 x1.1)).set 1 (.int .i64 x1.2.1)).set 2 (.int .i64 x1.2.2)
   have r0:=b3.cell 0
   have r1:=b3.cell 1
   have r2:=b3.cell 2
   refine bodyPost_ret (v:=.agg #[.int .i64 x1.1,.int .i64 x1.2.1,.int .i64 x1.2.2]) (by simp[results,Tryz.results47,go_sem,r0,r1,r2]) rfl ?_
   exact⟨by rw[←HR.out];rfl,set3_below (HB.out.trans (y2.h.mono HB.out.size)) (by omega)⟩
 ·have d0:(x0.1 == 0)=false:=by simpa using h0
  have HR:=Lib.hid ((orK_yes h0).symm.trans HF.out)
  clear h0 HF
  go_wp2_with fail
  have b3:=(((HA.out.keep (Keep.of_below y1.h (fun _=>False)) (by simp)).set 0 (.int .i64 x0.1)).set 1 (.int .i64 x0.2.1)).set 2 (.int .i64 x0.2.2)
  have r0:=b3.cell 0
  have r1:=b3.cell 1
  have r2:=b3.cell 2
  refine bodyPost_ret (v:=.agg #[.int .i64 x0.1,.int .i64 x0.2.1,.int .i64 x0.2.2]) (by simp[results,Tryz.results47,go_sem,r0,r1,r2]) rfl ?_
  exact⟨by rw[←HR.out];rfl,set3_below (HB.out.trans (y1.h.mono HB.out.size)) (by omega)⟩
end Go.Proofs.YtioehfhdoohdmaaGreatDoor
