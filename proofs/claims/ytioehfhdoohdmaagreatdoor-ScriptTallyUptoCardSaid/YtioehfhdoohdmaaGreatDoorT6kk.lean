/- T6kk: T6k, T6k2. -/
import Derived.Test.YtioehfhdoohdmaaGreatDoorTabA
import Derived.Test.YtioehfhdoohdmaaGreatDoorT6P
set_option linter.unusedVariables false
set_option linter.unusedSimpArgs false
namespace Go.Proofs.YtioehfhdoohdmaaGreatDoor
open Go.RowKit Go.Shelf BigFrame
set_option maxRecDepth 100000 in
set_option maxHeartbeats 40000000 in
theorem long_any (T:Tab) (a:TAddr) (W:World) (h:TabAt W T a):Calls Tryz.prog 76 #[.agg (tabCells T a)] W fun e w'=>e=.returned (wV (longW T))∧Below W.heap.size W w':=by
 obtain⟨l0,l1,l2,l3,l4,l5,l6,l7⟩:=T
 obtain⟨o0,o1,o2,o3,o4,o5,o6,o7,c0,c1,c2,c3,c4,c5,c6,c7⟩:=a
 obtain⟨hT,HTb,bA,hB,hz⟩:=box2 h
 obtain⟨W0,hW0⟩:∃W0,(W.alloc (.cells #[.slice o0 l0.length c0,.slice o1 l1.length c1,.slice o2 l2.length c2,.slice o3 l3.length c3,.slice o4 l4.length c4,.slice o5 l5.length c5,.slice o6 l6.length c6,.slice o7 l7.length c7] 28)).alloc (.cells #[.int .i64 0,.int .i64 0,.int .i64 0] 100)=W0:=⟨_,rfl⟩
 simp only[tabCells] at hT HTb hB hz bA ⊢
 rw[hW0] at hT HTb hB hz bA
 have HW0:=Lib.hid hW0
 have HB:=Lib.hid hB
 have HZ:=Lib.hid hz
 have HA:=Lib.hid bA
 have a0:∀y:WC W0,y.w.cell? ⟨W.heap.size+1,0,none⟩=some (.int .i64 0):=WC.cell (bA.cell 0)
 have f0:∀y:WC W0,y.w.frozen? ⟨W.heap.size+1,0,none⟩=false:=WC.frozen (bA.cell 0) (bA.frozen 0)
 have a1:∀y:WC W0,y.w.cell? ⟨W.heap.size+1,1,none⟩=some (.int .i64 0):=WC.cell (bA.cell 1)
 have f1:∀y:WC W0,y.w.frozen? ⟨W.heap.size+1,1,none⟩=false:=WC.frozen (bA.cell 1) (bA.frozen 1)
 have a2:∀y:WC W0,y.w.cell? ⟨W.heap.size+1,2,none⟩=some (.int .i64 0):=WC.cell (bA.cell 2)
 have f2:∀y:WC W0,y.w.frozen? ⟨W.heap.size+1,2,none⟩=false:=WC.frozen (bA.cell 2) (bA.frozen 2)
 have t0:∀y:WC W0,y.w.cell? ⟨W.heap.size,0,none⟩=some (.slice o0 l0.length c0):=WC.cell (HTb 0 (.slice o0 l0.length c0) rfl)
 have m0:l0.length≤9223372036854775807:=hT.m0
 have HL0:=Lib.hid hT.scripts
 have t1:∀y:WC W0,y.w.cell? ⟨W.heap.size,1,none⟩=some (.slice o1 l1.length c1):=WC.cell (HTb 1 (.slice o1 l1.length c1) rfl)
 have m1:l1.length≤9223372036854775807:=hT.m1
 have HL1:=Lib.hid hT.common
 have t2:∀y:WC W0,y.w.cell? ⟨W.heap.size,2,none⟩=some (.slice o2 l2.length c2):=WC.cell (HTb 2 (.slice o2 l2.length c2) rfl)
 have m2:l2.length≤9223372036854775807:=hT.m2
 have HL2:=Lib.hid hT.marks
 have t3:∀y:WC W0,y.w.cell? ⟨W.heap.size,3,none⟩=some (.slice o3 l3.length c3):=WC.cell (HTb 3 (.slice o3 l3.length c3) rfl)
 have m3:l3.length≤9223372036854775807:=hT.m3
 have HL3:=Lib.hid hT.pairs
 have t4:∀y:WC W0,y.w.cell? ⟨W.heap.size,4,none⟩=some (.slice o4 l4.length c4):=WC.cell (HTb 4 (.slice o4 l4.length c4) rfl)
 have m4:l4.length≤9223372036854775807:=hT.m4
 have HL4:=Lib.hid hT.folds
 have t5:∀y:WC W0,y.w.cell? ⟨W.heap.size,5,none⟩=some (.slice o5 l5.length c5):=WC.cell (HTb 5 (.slice o5 l5.length c5) rfl)
 have m5:l5.length≤9223372036854775807:=hT.m5
 have HL5:=Lib.hid hT.looks
 have t6:∀y:WC W0,y.w.cell? ⟨W.heap.size,6,none⟩=some (.slice o6 l6.length c6):=WC.cell (HTb 6 (.slice o6 l6.length c6) rfl)
 have m6:l6.length≤9223372036854775807:=hT.m6
 have HL6:=Lib.hid hT.drops
 have t7:∀y:WC W0,y.w.cell? ⟨W.heap.size,7,none⟩=some (.slice o7 l7.length c7):=WC.cell (HTb 7 (.slice o7 l7.length c7) rfl)
 have m7:l7.length≤9223372036854775807:=hT.m7
 have HL7:=Lib.hid hT.allowed
 clear hT HTb hB hz h hW0 bA
 obtain⟨R,hR⟩:∃R,longW ⟨l0,l1,l2,l3,l4,l5,l6,l7⟩=R:=⟨_,rfl⟩
 rw[hR]
 unfold longW at hR
 dsimp only at hR
 have HF:=Lib.hid hR
 clear hR
 have HLE:Hid (lens ⟨l0,l1,l2,l3,l4,l5,l6,l7⟩=[((l1.length:Int),1024),((l2.length:Int),512),((l3.length:Int),4096),((l4.length:Int),4096),((l5.length:Int),4096),((l6.length:Int),1024),((l7.length:Int),1024)]):=Lib.hid rfl
 obtain⟨LL,hLL⟩:∃LL,lens ⟨l0,l1,l2,l3,l4,l5,l6,l7⟩=LL:=⟨_,rfl⟩
 rw[hLL] at HF HLE
 clear hLL
 go_enter Tryz.func76,Tryz.ntmps76
 go_upto_if 10 with fail
 rw[HW0.out]
 clear HW0
 obtain⟨y,hy⟩:∃y:WC W0,y.w=W0:=⟨WC.of W0,rfl⟩
 rw[←hy]
 clear hy
 by_cases h64:64<l0.length
 ·have d64:decide ((64:Int)<(l0.length:Int))=true:=by rw[decide_eq_true_iff];omega
  have HR:=Lib.hid ((if_pos h64).symm.trans HF.out)
  clear HF
  go_wp2_with fail
  have b3:=(((HA.out.keep (Keep.of_below y.h (fun _=>False)) (by simp)).set 0 (.int .i64 4)).set 1 (.int .i64 1)).set 2 (.int .i64 64)
  have r0:=b3.cell 0
  have r1:=b3.cell 1
  have r2:=b3.cell 2
  refine bodyPost_ret (v:=.agg #[.int .i64 4,.int .i64 1,.int .i64 64]) (by simp[results,Tryz.results76,go_sem,r0,r1,r2]) rfl ?_
  exact⟨by rw[←HR.out];rfl,set3_below (HB.out.trans (y.h.mono HB.out.size)) (by omega)⟩
 ·have d64:decide ((64:Int)<(l0.length:Int))=false:=by rw[decide_eq_false_iff_not];omega
  have HF1:=Lib.hid ((if_neg h64).symm.trans HF.out)
  clear HF
  have HF:=Lib.hid HF1.out
  clear HF1
  go_wp2_with fail
  try simp only[d64]
  clear d64 h64
  go_loopw [3] (fun v3 wr=>∃(i:Nat),v3=.int .i64 i∧i≤l0.length∧Hid (scan (longS) (l0.drop i) i (scan lenM LL 0 (0,0,0))=R)∧wr=y.w) (fun v3 _=>l0.length - (intOf v3).toNat)
  case atStart=>exact⟨0,rfl,Nat.zero_le _,HF,by first | rfl | trivial⟩
  case round=>
   clear HF
   obtain⟨i,rfl,hi,HF,rfl⟩:=hrel
   have i0:(0:Int)≤(i:Int):=Int.natCast_nonneg _
   by_cases hlt:i<l0.length
   ·have i1:(i:Int)<(l0.length:Int):=by omega
    obtain⟨g,off,so,sc,ho,hg,c0,c1,cs,cz,cy⟩:=HL0.out i hlt
    subst ho
    have HF1:=Lib.hid (scan_step hlt HF.out)
    generalize l0[i]=x at *
    have e0:=fun y:WC W0=>y.cell c0
    have e1:=fun y:WC W0=>y.cell c1
    clear HF c0 c1
    clear cs cz
    have hcy:(x.2.length:Int)≤9223372036854775807:=by have:=cy;unfold maxLen at this;omega
    clear cy
    cases h0:decide ((1024:Int)<(x.2.length:Int)) with
    | true=>
     have HR:=Lib.hid ((scan_hit (f:=longS) (by unfold longS;simp only[h0];rfl)).symm.trans HF1.out)
     clear HF1
     go_wp2_with fail
     have b3:=(((HA.out.keep (Keep.of_below y.h (fun _=>False)) (by simp)).set 0 (.int .i64 4)).set 1 (.int .i64 1)).set 2 (.int .i64 i)
     have r0:=b3.cell 0
     have r1:=b3.cell 1
     have r2:=b3.cell 2
     refine bodyPost_ret (v:=.agg #[.int .i64 4,.int .i64 1,.int .i64 i]) (by simp[results,Tryz.results76,go_sem,r0,r1,r2]) rfl ?_
     exact⟨by rw[←HR.out];rfl,set3_below (HB.out.trans (y.h.mono HB.out.size)) (by omega)⟩
    | false=>
     have HF2:=Lib.hid ((scan_miss (f:=longS) (by unfold longS;simp only[h0];rfl)).symm.trans HF1.out)
     clear HF1
     go_wp2_with fail
     exact⟨⟨i+1,by go_num,by omega,HF2,by first | rfl | trivial⟩,by simp[intOf];omega⟩
   ·obtain rfl:i=l0.length:=by omega
    have HF0:=Lib.hid (scan_end HF.out)
    clear hi hlt i0 HF
    have HF:=Lib.hid HF0.out
    clear HF0
    go_wp2_with fail
    have bL:=(Blk.new' y.w #[.int .i64 l1.length,.int .i64 l2.length,.int .i64 l3.length,.int .i64 l4.length,.int .i64 l5.length,.int .i64 l6.length,.int .i64 l7.length] 3).alloc (.cells #[.int .i64 1024,.int .i64 512,.int .i64 4096,.int .i64 4096,.int .i64 4096,.int .i64 1024,.int .i64 1024] 3)
    have bM:=Blk.new' (y.w.alloc (.cells #[.int .i64 l1.length,.int .i64 l2.length,.int .i64 l3.length,.int .i64 l4.length,.int .i64 l5.length,.int .i64 l6.length,.int .i64 l7.length] 3)) #[.int .i64 1024,.int .i64 512,.int .i64 4096,.int .i64 4096,.int .i64 4096,.int .i64 1024,.int .i64 1024] 3
    rw[show (y.w.alloc (.cells #[.int .i64 l1.length,.int .i64 l2.length,.int .i64 l3.length,.int .i64 l4.length,.int .i64 l5.length,.int .i64 l6.length,.int .i64 l7.length] 3)).heap.size=y.w.heap.size+1 by simp] at bM
    have cL:∀i (h:i<LL.length),((y.w.alloc (.cells #[.int .i64 l1.length,.int .i64 l2.length,.int .i64 l3.length,.int .i64 l4.length,.int .i64 l5.length,.int .i64 l6.length,.int .i64 l7.length] 3)).alloc (.cells #[.int .i64 1024,.int .i64 512,.int .i64 4096,.int .i64 4096,.int .i64 4096,.int .i64 1024,.int .i64 1024] 3)).cell? ⟨y.w.heap.size,i,none⟩=some (.int .i64 LL[i].1)∧((y.w.alloc (.cells #[.int .i64 l1.length,.int .i64 l2.length,.int .i64 l3.length,.int .i64 l4.length,.int .i64 l5.length,.int .i64 l6.length,.int .i64 l7.length] 3)).alloc (.cells #[.int .i64 1024,.int .i64 512,.int .i64 4096,.int .i64 4096,.int .i64 4096,.int .i64 1024,.int .i64 1024] 3)).cell? ⟨y.w.heap.size+1,i,none⟩=some (.int .i64 LL[i].2):=fun i h=>by
     have e:=HLE.out
     subst e
     rw[bL.cell i,bM.cell i]
     simp only[List.length_cons,List.length_nil] at h
     match i,h with
     | 0,_=>exact⟨rfl,rfl⟩
     | 1,_=>exact⟨rfl,rfl⟩
     | 2,_=>exact⟨rfl,rfl⟩
     | 3,_=>exact⟨rfl,rfl⟩
     | 4,_=>exact⟨rfl,rfl⟩
     | 5,_=>exact⟨rfl,rfl⟩
     | 6,_=>exact⟨rfl,rfl⟩
    obtain⟨z,hz⟩:∃z:WC W0,z.w=(y.w.alloc (.cells #[.int .i64 l1.length,.int .i64 l2.length,.int .i64 l3.length,.int .i64 l4.length,.int .i64 l5.length,.int .i64 l6.length,.int .i64 l7.length] 3)).alloc (.cells #[.int .i64 1024,.int .i64 512,.int .i64 4096,.int .i64 4096,.int .i64 4096,.int .i64 1024,.int .i64 1024] 3):=⟨⟨_,(y.h.alloc y.h.size _).alloc (by have:=y.h.size;simp;omega) _⟩,rfl⟩
    rw[←hz] at cL ⊢
    clear hz bL bM
    have hLn:LL.length=7:=by rw[HLE.out];rfl
    have CL:=Lib.hid cL
    clear cL
    generalize y.w.heap.size=b at *
    obtain⟨y,hyy⟩:∃y:WC W0,y=z:=⟨_,rfl⟩
    subst hyy
    have HL7:=Lib.hid hLn
    clear hLn
    go_loopw [6] (fun v6 wr=>∃(i:Nat) (z:WC W0),v6=.int .i64 i∧i≤7∧Hid (scan lenM (LL.drop i) i (0,0,0)=R)∧Hid (∀i (h:i<LL.length),z.w.cell? ⟨b,i,none⟩=some (.int .i64 LL[i].1)∧z.w.cell? ⟨b+1,i,none⟩=some (.int .i64 LL[i].2))∧wr=z.w) (fun v6 _=>7 - (intOf v6).toNat)
    case atStart=>exact⟨0,y,rfl,Nat.zero_le _,HF,CL,rfl⟩
    case round=>
     clear HF CL y
     obtain⟨i,y,rfl,hi,HF,CL,rfl⟩:=hrel
     have i0:(0:Int)≤(i:Int):=Int.natCast_nonneg _
     by_cases hlt:i<LL.length
     ·have i1:(i:Int)<7:=by have:=HL7.out;omega
      have HF1:=Lib.hid (scan_step hlt HF.out)
      obtain⟨c0,c1⟩:=CL.out i hlt
      generalize LL[i]=x at *
      clear HF
      cases h0:decide (x.2<x.1) with
      | true=>
       have HR:=Lib.hid ((scan_hit (f:=lenM) (by unfold lenM;simp only[h0];rfl)).symm.trans HF1.out)
       clear HF1
       go_wp2_with fail
       go_quiet (fail)
       obtain⟨y1,hy1⟩:∃y1:WC W0,y1.w=y.w.drewN nq:=⟨⟨_,bel_drewN y.h nq⟩,rfl⟩
       have c2:y1.w.cell? ⟨b+1,i,none⟩=some (.int .i64 x.2):=by rw[hy1];exact c1
       rw[←hy1]
       clear hy1
       go_wp2_with fail
       have b3:=(((HA.out.keep (Keep.of_below y1.h (fun _=>False)) (by simp)).set 0 (.int .i64 4)).set 1 (.int .i64 (2+(i:Int)))).set 2 (.int .i64 x.2)
       have r0:=b3.cell 0
       have r1:=b3.cell 1
       have r2:=b3.cell 2
       refine bodyPost_ret (v:=.agg #[.int .i64 4,.int .i64 (2+(i:Int)),.int .i64 x.2]) (by simp[results,Tryz.results76,go_sem,r0,r1,r2]) rfl ?_
       exact⟨by rw[←HR.out];rfl,set3_below (HB.out.trans (y1.h.mono HB.out.size)) (by omega)⟩
      | false=>
       have HF2:=Lib.hid ((scan_miss (f:=lenM) (by unfold lenM;simp only[h0];rfl)).symm.trans HF1.out)
       clear HF1
       go_wp2_with fail
       go_quiet (fail)
       have CL2:=Lib.hid (fun i h=>CL.out i h)
       obtain⟨y1,hy1⟩:∃y1:WC W0,y1.w=y.w.drewN nq:=⟨⟨_,bel_drewN y.h nq⟩,rfl⟩
       have CL3:Hid (∀i (h:i<LL.length),y1.w.cell? ⟨b,i,none⟩=some (.int .i64 LL[i].1)∧y1.w.cell? ⟨b+1,i,none⟩=some (.int .i64 LL[i].2)):=Lib.hid (by rw[hy1];exact CL2.out)
       rw[←hy1]
       clear hy1 CL2
       go_wp2_with fail
       exact⟨⟨i+1,y1,by go_num,by omega,HF2,CL3,by first | rfl | trivial⟩,by simp[intOf];omega⟩
     ·obtain rfl:i=LL.length:=by have:=HL7.out;omega
      have i7:((LL.length:Nat):Int)=7:=by have:=HL7.out;omega
      have HR:=Lib.hid (scan_end HF.out)
      clear HF
      go_wp2_with fail
      have b3:=(((HA.out.keep (Keep.of_below y.h (fun _=>False)) (by simp)).set 0 (.int .i64 0)).set 1 (.int .i64 0)).set 2 (.int .i64 0)
      have r0:=b3.cell 0
      have r1:=b3.cell 1
      have r2:=b3.cell 2
      refine bodyPost_ret (v:=.agg #[.int .i64 0,.int .i64 0,.int .i64 0]) (by simp[results,Tryz.results76,go_sem,r0,r1,r2]) rfl ?_
      exact⟨by rw[←HR.out];rfl,set3_below (HB.out.trans (y.h.mono HB.out.size)) (by omega)⟩
end Go.Proofs.YtioehfhdoohdmaaGreatDoor
namespace Go.Proofs.YtioehfhdoohdmaaGreatDoor
open Go.RowKit Go.Shelf BigFrame
set_option maxRecDepth 100000 in
set_option maxHeartbeats 40000000 in
theorem twice_any (T:Tab) (a:TAddr) (W:World) (h:TabAt W T a):Calls Tryz.prog 78 #[.agg (tabCells T a)] W fun e w'=>e=.returned (wV (twiceW T))∧Below W.heap.size W w':=by
 obtain⟨l0,l1,l2,l3,l4,l5,l6,l7⟩:=T
 obtain⟨o0,o1,o2,o3,o4,o5,o6,o7,c0,c1,c2,c3,c4,c5,c6,c7⟩:=a
 obtain⟨hT,HTb,bA,hB,hz⟩:=box2 h
 obtain⟨W0,hW0⟩:∃W0,(W.alloc (.cells #[.slice o0 l0.length c0,.slice o1 l1.length c1,.slice o2 l2.length c2,.slice o3 l3.length c3,.slice o4 l4.length c4,.slice o5 l5.length c5,.slice o6 l6.length c6,.slice o7 l7.length c7] 28)).alloc (.cells #[.int .i64 0,.int .i64 0,.int .i64 0] 100)=W0:=⟨_,rfl⟩
 simp only[tabCells] at hT HTb hB hz bA ⊢
 rw[hW0] at hT HTb hB hz bA
 have HW0:=Lib.hid hW0
 have HB:=Lib.hid hB
 have HZ:=Lib.hid hz
 have HA:=Lib.hid bA
 have a0:∀y:WC W0,y.w.cell? ⟨W.heap.size+1,0,none⟩=some (.int .i64 0):=WC.cell (bA.cell 0)
 have f0:∀y:WC W0,y.w.frozen? ⟨W.heap.size+1,0,none⟩=false:=WC.frozen (bA.cell 0) (bA.frozen 0)
 have a1:∀y:WC W0,y.w.cell? ⟨W.heap.size+1,1,none⟩=some (.int .i64 0):=WC.cell (bA.cell 1)
 have f1:∀y:WC W0,y.w.frozen? ⟨W.heap.size+1,1,none⟩=false:=WC.frozen (bA.cell 1) (bA.frozen 1)
 have a2:∀y:WC W0,y.w.cell? ⟨W.heap.size+1,2,none⟩=some (.int .i64 0):=WC.cell (bA.cell 2)
 have f2:∀y:WC W0,y.w.frozen? ⟨W.heap.size+1,2,none⟩=false:=WC.frozen (bA.cell 2) (bA.frozen 2)
 have t0:∀y:WC W0,y.w.cell? ⟨W.heap.size,0,none⟩=some (.slice o0 l0.length c0):=WC.cell (HTb 0 (.slice o0 l0.length c0) rfl)
 have m0:l0.length≤9223372036854775807:=hT.m0
 have HL0:=Lib.hid hT.scripts
 have t2:∀y:WC W0,y.w.cell? ⟨W.heap.size,2,none⟩=some (.slice o2 l2.length c2):=WC.cell (HTb 2 (.slice o2 l2.length c2) rfl)
 have m2:l2.length≤9223372036854775807:=hT.m2
 have HL2:=Lib.hid hT.marks
 have t3:∀y:WC W0,y.w.cell? ⟨W.heap.size,3,none⟩=some (.slice o3 l3.length c3):=WC.cell (HTb 3 (.slice o3 l3.length c3) rfl)
 have m3:l3.length≤9223372036854775807:=hT.m3
 have HL3:=Lib.hid hT.pairs
 have t4:∀y:WC W0,y.w.cell? ⟨W.heap.size,4,none⟩=some (.slice o4 l4.length c4):=WC.cell (HTb 4 (.slice o4 l4.length c4) rfl)
 have m4:l4.length≤9223372036854775807:=hT.m4
 have HL4:=Lib.hid hT.folds
 have t5:∀y:WC W0,y.w.cell? ⟨W.heap.size,5,none⟩=some (.slice o5 l5.length c5):=WC.cell (HTb 5 (.slice o5 l5.length c5) rfl)
 have m5:l5.length≤9223372036854775807:=hT.m5
 have HL5:=Lib.hid hT.looks
 have HFr4:Hid (∀(r:Int) (y:WC W0),Calls Tryz.prog 126 #[.slice o4 l4.length c4,.int .i32 r] y.w fun e w'=>e=.returned (.int .i64 (fromN l4 r))∧∃z:WC W0,w'=z.w):=Lib.hid (fun r y=>WC.same (from_any l4 o4 c4 r y.w (hT.folds.below y.h) hT.m4))
 have HFr5:Hid (∀(r:Int) (y:WC W0),Calls Tryz.prog 126 #[.slice o5 l5.length c5,.int .i32 r] y.w fun e w'=>e=.returned (.int .i64 (fromN l5 r))∧∃z:WC W0,w'=z.w):=Lib.hid (fun r y=>WC.same (from_any l5 o5 c5 r y.w (hT.looks.below y.h) hT.m5))
 clear hT HTb hB hz h hW0 bA
 obtain⟨R,hR⟩:∃R,twiceW ⟨l0,l1,l2,l3,l4,l5,l6,l7⟩=R:=⟨_,rfl⟩
 rw[hR]
 unfold twiceW at hR
 dsimp only at hR
 have HF:=Lib.hid hR
 clear hR
 go_enter Tryz.func78,Tryz.ntmps78
 go_wp2_with fail
 rw[HW0.out]
 clear HW0
 obtain⟨y,hy⟩:∃y:WC W0,y.w=W0:=⟨WC.of W0,rfl⟩
 rw[←hy]
 clear hy
 go_loopw [3] (fun v3 wr=>∃(i:Nat) (y:WC W0),v3=.int .i64 i∧i≤l0.length∧Hid (scan (twM eqS 1 l0) (l0.drop i) i (scan (twM eqM 3 l2) l2 0 (scan (twM eqP 4 l3) l3 0 (scan (twF 5 l4) l4 0 (scan (twF 6 l5) l5 0 (0,0,0)))))=R)∧wr=y.w) (fun v3 _=>l0.length - (intOf v3).toNat)
 case atStart=>exact⟨0,y,rfl,Nat.zero_le _,HF,rfl⟩
 case round=>
  clear HF y
  obtain⟨i,y,rfl,hi,HF,rfl⟩:=hrel
  have i0:(0:Int)≤(i:Int):=Int.natCast_nonneg _
  by_cases hlt:i<l0.length
  ·have i1:(i:Int)<(l0.length:Int):=by omega
   have HF1:=Lib.hid (scan_step hlt HF.out)
   clear HF
   go_wp2_with fail
   go_loopw [4] (fun v4 wr=>∃(j:Nat) (y:WC W0),v4=.int .i64 j∧j≤i∧Hid (∀k (hk:k<l0.length),k<j→eqS l0[i] l0[k]=false)∧wr=y.w) (fun v4 _=>i - (intOf v4).toNat)
   case atStart=>exact⟨0,y,rfl,Nat.zero_le _,Lib.hid (fun k _ h=>absurd h (by omega)),rfl⟩
   case round=>
    clear y
    obtain⟨j,y,rfl,hj,Hno,rfl⟩:=hrel
    have j0:(0:Int)≤(j:Int):=Int.natCast_nonneg _
    by_cases hji:j<i
    ·have j1:(j:Int)<(i:Int):=by omega
     have hjl:j<l0.length:=by omega
     have j2:(j:Int)<(l0.length:Int):=by omega
     have HH:=Lib.hid (fun (e:eqS l0[i] l0[j]=true)=>scan_hit (f:=twM eqS 1 l0) (t:=l0.drop (i+1)) (k:=scan (twM eqM 3 l2) l2 0 (scan (twM eqP 4 l3) l3 0 (scan (twF 5 l4) l4 0 (scan (twF 6 l5) l5 0 (0,0,0))))) (by unfold twM;exact if_hit (take_any (p:=eqS l0[i]) hji hjl e):twM eqS 1 l0 l0[i] i=some (14,1,(i:Int))))
     have HN:Hid (eqS l0[i] l0[j]=false→∀k (hk:k<l0.length),k<j+1→eqS l0[i] l0[k]=false):=Lib.hid (fun e k hk hki=>by
      by_cases q:k=j
      ·subst q;exact e
      ·exact Hno.out k hk (by omega))
     obtain⟨g,off,so,sc,ho,hg,c0,c1,cs,cz,cy⟩:=HL0.out i hlt
     obtain⟨g2,off2,so2,sc2,ho2,hg2,d0,d1,ds,dz,dy⟩:=HL0.out j hjl
     subst ho
     simp only[Option.some.injEq,Addr.mk.injEq,and_true] at ho2
     obtain⟨rfl,rfl⟩:=ho2
     have e0:=fun y:WC W0=>y.cell c0
     have u0:=fun y:WC W0=>y.cell d0
     have e1:=fun y:WC W0=>y.cell c1
     have u1:=fun y:WC W0=>y.cell d1
     clear c0 d0 c1 d1
     clear cs cz cy ds dz dy
     generalize l0[i]=x at *
     generalize l0[j]=q at *
     cases h0:eqS x q with
     | true=>
      have h1:(x.1.toList == q.1.toList)=true:=h0
      have HR:=Lib.hid ((HH.out (h0)).symm.trans HF1.out)
      clear HH HN HF1
      go_wp2_with fail
      refine wp_region_wc (W0:=W0) (by kernel_rfl) (by kernel_rfl) y.h ?_
      repeat (first | go_big_quiet_step ((fail)) | quiet_step ((fail)))
      refine wpQuiet_nil ?_
      rintro _ ⟨y1,rfl⟩
      go_wp2_with fail
      have b3:=(((HA.out.keep (Keep.of_below y1.h (fun _=>False)) (by simp)).set 0 (.int .i64 14)).set 1 (.int .i64 1)).set 2 (.int .i64 i)
      have r0:=b3.cell 0
      have r1:=b3.cell 1
      have r2:=b3.cell 2
      refine bodyPost_ret (v:=.agg #[.int .i64 14,.int .i64 1,.int .i64 i]) (by simp[results,Tryz.results78,go_sem,r0,r1,r2]) rfl ?_
      exact⟨by rw[←HR.out];rfl,set3_below (HB.out.trans (y1.h.mono HB.out.size)) (by omega)⟩
     | false=>
      have h1:(x.1.toList == q.1.toList)=false:=h0
      have HN2:=Lib.hid (HN.out (h0))
      clear HH HN
      go_wp2_with fail
      refine wp_region_wc (W0:=W0) (by kernel_rfl) (by kernel_rfl) y.h ?_
      repeat (first | go_big_quiet_step ((fail)) | quiet_step ((fail)))
      refine wpQuiet_nil ?_
      rintro _ ⟨y1,rfl⟩
      go_wp2_with fail
      exact⟨⟨j+1,y1,by go_num,by omega,HN2,by first | rfl | trivial⟩,by simp[intOf];omega⟩
    ·obtain rfl:j=i:=by omega
     have HF2:=Lib.hid ((scan_miss (f:=twM eqS 1 l0) (by unfold twM;exact if_miss (take_none (p:=eqS l0[j]) Hno.out):twM eqS 1 l0 l0[j] j=none)).symm.trans HF1.out)
     clear hj hji j0 Hno HF1
     go_wp2_with fail
     exact⟨⟨j+1,y,by go_num,by omega,HF2,by first | rfl | trivial⟩,by simp[intOf];omega⟩
  ·obtain rfl:i=l0.length:=by omega
   have HF0:=Lib.hid (scan_end HF.out)
   clear hi hlt i0 HF
   have HF:=Lib.hid HF0.out
   clear HF0
   go_wp2_with fail
   go_loopw [5] (fun v5 wr=>∃(i:Nat) (y:WC W0),v5=.int .i64 i∧i≤l2.length∧Hid (scan (twM eqM 3 l2) (l2.drop i) i (scan (twM eqP 4 l3) l3 0 (scan (twF 5 l4) l4 0 (scan (twF 6 l5) l5 0 (0,0,0))))=R)∧wr=y.w) (fun v5 _=>l2.length - (intOf v5).toNat)
   case atStart=>exact⟨0,y,rfl,Nat.zero_le _,HF,rfl⟩
   case round=>
    clear HF y
    obtain⟨i,y,rfl,hi,HF,rfl⟩:=hrel
    have i0:(0:Int)≤(i:Int):=Int.natCast_nonneg _
    by_cases hlt:i<l2.length
    ·have i1:(i:Int)<(l2.length:Int):=by omega
     have HF1:=Lib.hid (scan_step hlt HF.out)
     clear HF
     go_wp2_with fail
     go_loopw [6] (fun v6 wr=>∃(j:Nat) (y:WC W0),v6=.int .i64 j∧j≤i∧Hid (∀k (hk:k<l2.length),k<j→eqM l2[i] l2[k]=false)∧wr=y.w) (fun v6 _=>i - (intOf v6).toNat)
     case atStart=>exact⟨0,y,rfl,Nat.zero_le _,Lib.hid (fun k _ h=>absurd h (by omega)),rfl⟩
     case round=>
      clear y
      obtain⟨j,y,rfl,hj,Hno,rfl⟩:=hrel
      have j0:(0:Int)≤(j:Int):=Int.natCast_nonneg _
      by_cases hji:j<i
      ·have j1:(j:Int)<(i:Int):=by omega
       have hjl:j<l2.length:=by omega
       have j2:(j:Int)<(l2.length:Int):=by omega
       have HH:=Lib.hid (fun (e:eqM l2[i] l2[j]=true)=>scan_hit (f:=twM eqM 3 l2) (t:=l2.drop (i+1)) (k:=scan (twM eqP 4 l3) l3 0 (scan (twF 5 l4) l4 0 (scan (twF 6 l5) l5 0 (0,0,0)))) (by unfold twM;exact if_hit (take_any (p:=eqM l2[i]) hji hjl e):twM eqM 3 l2 l2[i] i=some (14,3,(i:Int))))
       have HN:Hid (eqM l2[i] l2[j]=false→∀k (hk:k<l2.length),k<j+1→eqM l2[i] l2[k]=false):=Lib.hid (fun e k hk hki=>by
        by_cases q:k=j
        ·subst q;exact e
        ·exact Hno.out k hk (by omega))
       obtain⟨g,off,ho,hg,c0,c1⟩:=HL2.out i hlt
       obtain⟨g2,off2,ho2,hg2,d0,d1⟩:=HL2.out j hjl
       subst ho
       simp only[Option.some.injEq,Addr.mk.injEq,and_true] at ho2
       obtain⟨rfl,rfl⟩:=ho2
       have e0:=fun y:WC W0=>y.cell c0
       have u0:=fun y:WC W0=>y.cell d0
       have e1:=fun y:WC W0=>y.cell c1
       have u1:=fun y:WC W0=>y.cell d1
       clear c0 d0 c1 d1
       generalize l2[i]=x at *
       generalize l2[j]=q at *
       cases h0:eqM x q with
       | true=>
        have h1:(x.1 == q.1)=true:=h0
        have HR:=Lib.hid ((HH.out (h0)).symm.trans HF1.out)
        clear HH HN HF1
        go_wp2_with fail
        refine wp_region_wc (W0:=W0) (by kernel_rfl) (by kernel_rfl) y.h ?_
        repeat (first | go_big_quiet_step ((fail)) | quiet_step ((fail)))
        refine wpQuiet_nil ?_
        rintro _ ⟨y1,rfl⟩
        go_wp2_with fail
        have b3:=(((HA.out.keep (Keep.of_below y1.h (fun _=>False)) (by simp)).set 0 (.int .i64 14)).set 1 (.int .i64 3)).set 2 (.int .i64 i)
        have r0:=b3.cell 0
        have r1:=b3.cell 1
        have r2:=b3.cell 2
        refine bodyPost_ret (v:=.agg #[.int .i64 14,.int .i64 3,.int .i64 i]) (by simp[results,Tryz.results78,go_sem,r0,r1,r2]) rfl ?_
        exact⟨by rw[←HR.out];rfl,set3_below (HB.out.trans (y1.h.mono HB.out.size)) (by omega)⟩
       | false=>
        have h1:(x.1 == q.1)=false:=h0
        have HN2:=Lib.hid (HN.out (h0))
        clear HH HN
        go_wp2_with fail
        refine wp_region_wc (W0:=W0) (by kernel_rfl) (by kernel_rfl) y.h ?_
        repeat (first | go_big_quiet_step ((fail)) | quiet_step ((fail)))
        refine wpQuiet_nil ?_
        rintro _ ⟨y1,rfl⟩
        go_wp2_with fail
        exact⟨⟨j+1,y1,by go_num,by omega,HN2,by first | rfl | trivial⟩,by simp[intOf];omega⟩
      ·obtain rfl:j=i:=by omega
       have HF2:=Lib.hid ((scan_miss (f:=twM eqM 3 l2) (by unfold twM;exact if_miss (take_none (p:=eqM l2[j]) Hno.out):twM eqM 3 l2 l2[j] j=none)).symm.trans HF1.out)
       clear hj hji j0 Hno HF1
       go_wp2_with fail
       exact⟨⟨j+1,y,by go_num,by omega,HF2,by first | rfl | trivial⟩,by simp[intOf];omega⟩
    ·obtain rfl:i=l2.length:=by omega
     have HF0:=Lib.hid (scan_end HF.out)
     clear hi hlt i0 HF
     have HF:=Lib.hid HF0.out
     clear HF0
     go_wp2_with fail
     go_loopw [7] (fun v7 wr=>∃(i:Nat) (y:WC W0),v7=.int .i64 i∧i≤l3.length∧Hid (scan (twM eqP 4 l3) (l3.drop i) i (scan (twF 5 l4) l4 0 (scan (twF 6 l5) l5 0 (0,0,0)))=R)∧wr=y.w) (fun v7 _=>l3.length - (intOf v7).toNat)
     case atStart=>exact⟨0,y,rfl,Nat.zero_le _,HF,rfl⟩
     case round=>
      clear HF y
      obtain⟨i,y,rfl,hi,HF,rfl⟩:=hrel
      have i0:(0:Int)≤(i:Int):=Int.natCast_nonneg _
      by_cases hlt:i<l3.length
      ·have i1:(i:Int)<(l3.length:Int):=by omega
       have HF1:=Lib.hid (scan_step hlt HF.out)
       clear HF
       go_wp2_with fail
       go_loopw [8] (fun v8 wr=>∃(j:Nat) (y:WC W0),v8=.int .i64 j∧j≤i∧Hid (∀k (hk:k<l3.length),k<j→eqP l3[i] l3[k]=false)∧wr=y.w) (fun v8 _=>i - (intOf v8).toNat)
       case atStart=>exact⟨0,y,rfl,Nat.zero_le _,Lib.hid (fun k _ h=>absurd h (by omega)),rfl⟩
       case round=>
        clear y
        obtain⟨j,y,rfl,hj,Hno,rfl⟩:=hrel
        have j0:(0:Int)≤(j:Int):=Int.natCast_nonneg _
        by_cases hji:j<i
        ·have j1:(j:Int)<(i:Int):=by omega
         have hjl:j<l3.length:=by omega
         have j2:(j:Int)<(l3.length:Int):=by omega
         have HH:=Lib.hid (fun (e:eqP l3[i] l3[j]=true)=>scan_hit (f:=twM eqP 4 l3) (t:=l3.drop (i+1)) (k:=scan (twF 5 l4) l4 0 (scan (twF 6 l5) l5 0 (0,0,0))) (by unfold twM;exact if_hit (take_any (p:=eqP l3[i]) hji hjl e):twM eqP 4 l3 l3[i] i=some (14,4,(i:Int))))
         have HN:Hid (eqP l3[i] l3[j]=false→∀k (hk:k<l3.length),k<j+1→eqP l3[i] l3[k]=false):=Lib.hid (fun e k hk hki=>by
          by_cases q:k=j
          ·subst q;exact e
          ·exact Hno.out k hk (by omega))
         obtain⟨g,off,ho,hg,c0,c1,c2⟩:=HL3.out i hlt
         obtain⟨g2,off2,ho2,hg2,d0,d1,d2⟩:=HL3.out j hjl
         subst ho
         simp only[Option.some.injEq,Addr.mk.injEq,and_true] at ho2
         obtain⟨rfl,rfl⟩:=ho2
         have e0:=fun y:WC W0=>y.cell c0
         have u0:=fun y:WC W0=>y.cell d0
         have e1:=fun y:WC W0=>y.cell c1
         have u1:=fun y:WC W0=>y.cell d1
         have e2:=fun y:WC W0=>y.cell c2
         have u2:=fun y:WC W0=>y.cell d2
         clear c0 d0 c1 d1 c2 d2
         generalize l3[i]=x at *
         generalize l3[j]=q at *
         cases h0:x.1 == q.1 with
         | true=>
          have HR:=Lib.hid ((HH.out (by unfold eqP;rw[h0];rfl)).symm.trans HF1.out)
          clear HH HN HF1
          go_upto_region 24 with fail
          have bP:=Blk.new' y.w #[.int .i32 x.1,.int .i32 x.2.1,.int .i32 x.2.2] 141
          obtain⟨y0,hy0⟩:∃y0:WC W0,y0.w=y.w.alloc (.cells #[.int .i32 x.1,.int .i32 x.2.1,.int .i32 x.2.2] 141):=⟨⟨_,y.h.alloc y.h.size _⟩,rfl⟩
          rw[←hy0] at bP ⊢
          clear hy0
          go_upto_region 25 with fail
          have bQ:=Blk.new' y0.w #[.int .i32 q.1,.int .i32 q.2.1,.int .i32 q.2.2] 141
          have bP2:=bP.alloc (.cells #[.int .i32 q.1,.int .i32 q.2.1,.int .i32 q.2.2] 141)
          obtain⟨y1,hy1⟩:∃y1:WC W0,y1.w=y0.w.alloc (.cells #[.int .i32 q.1,.int .i32 q.2.1,.int .i32 q.2.2] 141):=⟨⟨_,y0.h.alloc y0.h.size _⟩,rfl⟩
          rw[←hy1] at bP2 bQ ⊢
          clear hy1 bP
          have pc0:=bP2.cell 0
          have qc0:=bQ.cell 0
          have pc1:=bP2.cell 1
          have qc1:=bQ.cell 1
          have pc2:=bP2.cell 2
          have qc2:=bQ.cell 2
          dsimp only[List.getElem?_cons_zero,List.getElem?_cons_succ] at pc0 pc1 pc2 qc0 qc1 qc2
          go_wp2_with fail
          have b3:=(((HA.out.keep (Keep.of_below y1.h (fun _=>False)) (by simp)).set 0 (.int .i64 14)).set 1 (.int .i64 4)).set 2 (.int .i64 i)
          have r0:=b3.cell 0
          have r1:=b3.cell 1
          have r2:=b3.cell 2
          refine bodyPost_ret (v:=.agg #[.int .i64 14,.int .i64 4,.int .i64 i]) (by simp[results,Tryz.results78,go_sem,r0,r1,r2]) rfl ?_
          exact⟨by rw[←HR.out];rfl,set3_below (HB.out.trans (y1.h.mono HB.out.size)) (by omega)⟩
         | false=>
          cases h1:x.2.1 == q.2.1 with
          | false=>
           have HN2:=Lib.hid (HN.out (by unfold eqP;rw[h0,h1];rfl))
           clear HH HN
           go_upto_region 24 with fail
           have bP:=Blk.new' y.w #[.int .i32 x.1,.int .i32 x.2.1,.int .i32 x.2.2] 141
           obtain⟨y0,hy0⟩:∃y0:WC W0,y0.w=y.w.alloc (.cells #[.int .i32 x.1,.int .i32 x.2.1,.int .i32 x.2.2] 141):=⟨⟨_,y.h.alloc y.h.size _⟩,rfl⟩
           rw[←hy0] at bP ⊢
           clear hy0
           go_upto_region 25 with fail
           have bQ:=Blk.new' y0.w #[.int .i32 q.1,.int .i32 q.2.1,.int .i32 q.2.2] 141
           have bP2:=bP.alloc (.cells #[.int .i32 q.1,.int .i32 q.2.1,.int .i32 q.2.2] 141)
           obtain⟨y1,hy1⟩:∃y1:WC W0,y1.w=y0.w.alloc (.cells #[.int .i32 q.1,.int .i32 q.2.1,.int .i32 q.2.2] 141):=⟨⟨_,y0.h.alloc y0.h.size _⟩,rfl⟩
           rw[←hy1] at bP2 bQ ⊢
           clear hy1 bP
           have pc0:=bP2.cell 0
           have qc0:=bQ.cell 0
           have pc1:=bP2.cell 1
           have qc1:=bQ.cell 1
           have pc2:=bP2.cell 2
           have qc2:=bQ.cell 2
           dsimp only[List.getElem?_cons_zero,List.getElem?_cons_succ] at pc0 pc1 pc2 qc0 qc1 qc2
           go_wp2_with fail
           exact⟨⟨j+1,y1,by go_num,by omega,HN2,by first | rfl | trivial⟩,by simp[intOf];omega⟩
          | true=>
           cases h2:x.2.2 == q.2.2 with
           | true=>
            have HR:=Lib.hid ((HH.out (by unfold eqP;rw[h0,h1,h2];rfl)).symm.trans HF1.out)
            clear HH HN HF1
            go_upto_region 24 with fail
            have bP:=Blk.new' y.w #[.int .i32 x.1,.int .i32 x.2.1,.int .i32 x.2.2] 141
            obtain⟨y0,hy0⟩:∃y0:WC W0,y0.w=y.w.alloc (.cells #[.int .i32 x.1,.int .i32 x.2.1,.int .i32 x.2.2] 141):=⟨⟨_,y.h.alloc y.h.size _⟩,rfl⟩
            rw[←hy0] at bP ⊢
            clear hy0
            go_upto_region 25 with fail
            have bQ:=Blk.new' y0.w #[.int .i32 q.1,.int .i32 q.2.1,.int .i32 q.2.2] 141
            have bP2:=bP.alloc (.cells #[.int .i32 q.1,.int .i32 q.2.1,.int .i32 q.2.2] 141)
            obtain⟨y1,hy1⟩:∃y1:WC W0,y1.w=y0.w.alloc (.cells #[.int .i32 q.1,.int .i32 q.2.1,.int .i32 q.2.2] 141):=⟨⟨_,y0.h.alloc y0.h.size _⟩,rfl⟩
            rw[←hy1] at bP2 bQ ⊢
            clear hy1 bP
            have pc0:=bP2.cell 0
            have qc0:=bQ.cell 0
            have pc1:=bP2.cell 1
            have qc1:=bQ.cell 1
            have pc2:=bP2.cell 2
            have qc2:=bQ.cell 2
            dsimp only[List.getElem?_cons_zero,List.getElem?_cons_succ] at pc0 pc1 pc2 qc0 qc1 qc2
            go_wp2_with fail
            have b3:=(((HA.out.keep (Keep.of_below y1.h (fun _=>False)) (by simp)).set 0 (.int .i64 14)).set 1 (.int .i64 4)).set 2 (.int .i64 i)
            have r0:=b3.cell 0
            have r1:=b3.cell 1
            have r2:=b3.cell 2
            refine bodyPost_ret (v:=.agg #[.int .i64 14,.int .i64 4,.int .i64 i]) (by simp[results,Tryz.results78,go_sem,r0,r1,r2]) rfl ?_
            exact⟨by rw[←HR.out];rfl,set3_below (HB.out.trans (y1.h.mono HB.out.size)) (by omega)⟩
           | false=>
            have HN2:=Lib.hid (HN.out (by unfold eqP;rw[h0,h1,h2];rfl))
            clear HH HN
            go_upto_region 24 with fail
            have bP:=Blk.new' y.w #[.int .i32 x.1,.int .i32 x.2.1,.int .i32 x.2.2] 141
            obtain⟨y0,hy0⟩:∃y0:WC W0,y0.w=y.w.alloc (.cells #[.int .i32 x.1,.int .i32 x.2.1,.int .i32 x.2.2] 141):=⟨⟨_,y.h.alloc y.h.size _⟩,rfl⟩
            rw[←hy0] at bP ⊢
            clear hy0
            go_upto_region 25 with fail
            have bQ:=Blk.new' y0.w #[.int .i32 q.1,.int .i32 q.2.1,.int .i32 q.2.2] 141
            have bP2:=bP.alloc (.cells #[.int .i32 q.1,.int .i32 q.2.1,.int .i32 q.2.2] 141)
            obtain⟨y1,hy1⟩:∃y1:WC W0,y1.w=y0.w.alloc (.cells #[.int .i32 q.1,.int .i32 q.2.1,.int .i32 q.2.2] 141):=⟨⟨_,y0.h.alloc y0.h.size _⟩,rfl⟩
            rw[←hy1] at bP2 bQ ⊢
            clear hy1 bP
            have pc0:=bP2.cell 0
            have qc0:=bQ.cell 0
            have pc1:=bP2.cell 1
            have qc1:=bQ.cell 1
            have pc2:=bP2.cell 2
            have qc2:=bQ.cell 2
            dsimp only[List.getElem?_cons_zero,List.getElem?_cons_succ] at pc0 pc1 pc2 qc0 qc1 qc2
            go_wp2_with fail
            exact⟨⟨j+1,y1,by go_num,by omega,HN2,by first | rfl | trivial⟩,by simp[intOf];omega⟩
        ·obtain rfl:j=i:=by omega
         have HF2:=Lib.hid ((scan_miss (f:=twM eqP 4 l3) (by unfold twM;exact if_miss (take_none (p:=eqP l3[j]) Hno.out):twM eqP 4 l3 l3[j] j=none)).symm.trans HF1.out)
         clear hj hji j0 Hno HF1
         go_wp2_with fail
         exact⟨⟨j+1,y,by go_num,by omega,HF2,by first | rfl | trivial⟩,by simp[intOf];omega⟩
      ·obtain rfl:i=l3.length:=by omega
       have HF0:=Lib.hid (scan_end HF.out)
       clear hi hlt i0 HF
       have HF:=Lib.hid HF0.out
       clear HF0
       go_wp2_with fail
       go_loopw [11] (fun v11 wr=>∃(i:Nat) (y:WC W0),v11=.int .i64 i∧i≤l4.length∧Hid (scan (twF 5 l4) (l4.drop i) i (scan (twF 6 l5) l5 0 (0,0,0))=R)∧wr=y.w) (fun v11 _=>l4.length - (intOf v11).toNat)
       case atStart=>exact⟨0,y,rfl,Nat.zero_le _,HF,rfl⟩
       case round=>
        clear HF y
        obtain⟨i,y,rfl,hi,HF,rfl⟩:=hrel
        have i0:(0:Int)≤(i:Int):=Int.natCast_nonneg _
        by_cases hlt:i<l4.length
        ·have i1:(i:Int)<(l4.length:Int):=by omega
         obtain⟨g,off,ho,hg,c0,c1,cz⟩:=HL4.out i hlt
         subst ho
         have HF1:=Lib.hid (scan_step hlt HF.out)
         generalize l4[i]=x at *
         have e0:=fun y:WC W0=>y.cell c0
         have e1:=fun y:WC W0=>y.cell c1
         clear HF c0 c1
         have K0:=Lib.hid (HFr4.out x.1)
         cases h0:decide (fromN l4 x.1<(i:Int)) with
         | true=>
          have HR:=Lib.hid ((scan_hit (f:=twF 5 l4) (by unfold twF;simp only[h0];rfl)).symm.trans HF1.out)
          clear HF1
          generalize fromN l4 x.1=n at *
          go_wp2_with fail
          refine wp_region_wc (W0:=W0) (by kernel_rfl) (by kernel_rfl) y.h ?_
          repeat (first | go_big_quiet_step ((first | (go_at_call 126;(with_reducible exact K0.out _)))) | quiet_step ((first | (go_at_call 126;(with_reducible exact K0.out _)))))
          refine wpQuiet_nil ?_
          rintro _ ⟨y1,rfl⟩
          go_wp2_with fail
          have b3:=(((HA.out.keep (Keep.of_below y1.h (fun _=>False)) (by simp)).set 0 (.int .i64 14)).set 1 (.int .i64 5)).set 2 (.int .i64 i)
          have r0:=b3.cell 0
          have r1:=b3.cell 1
          have r2:=b3.cell 2
          refine bodyPost_ret (v:=.agg #[.int .i64 14,.int .i64 5,.int .i64 i]) (by simp[results,Tryz.results78,go_sem,r0,r1,r2]) rfl ?_
          exact⟨by rw[←HR.out];rfl,set3_below (HB.out.trans (y1.h.mono HB.out.size)) (by omega)⟩
         | false=>
          have HF2:=Lib.hid ((scan_miss (f:=twF 5 l4) (by unfold twF;simp only[h0];rfl)).symm.trans HF1.out)
          clear HF1
          generalize fromN l4 x.1=n at *
          go_wp2_with fail
          refine wp_region_wc (W0:=W0) (by kernel_rfl) (by kernel_rfl) y.h ?_
          repeat (first | go_big_quiet_step ((first | (go_at_call 126;(with_reducible exact K0.out _)))) | quiet_step ((first | (go_at_call 126;(with_reducible exact K0.out _)))))
          refine wpQuiet_nil ?_
          rintro _ ⟨y1,rfl⟩
          go_wp2_with fail
          exact⟨⟨i+1,y1,by go_num,by omega,HF2,by first | rfl | trivial⟩,by simp[intOf];omega⟩
        ·obtain rfl:i=l4.length:=by omega
         have HF0:=Lib.hid (scan_end HF.out)
         clear hi hlt i0 HF
         have HF:=Lib.hid HF0.out
         clear HF0
         go_wp2_with fail
         go_loopw [12] (fun v12 wr=>∃(i:Nat) (y:WC W0),v12=.int .i64 i∧i≤l5.length∧Hid (scan (twF 6 l5) (l5.drop i) i ((0,0,0))=R)∧wr=y.w) (fun v12 _=>l5.length - (intOf v12).toNat)
         case atStart=>exact⟨0,y,rfl,Nat.zero_le _,HF,rfl⟩
         case round=>
          clear HF y
          obtain⟨i,y,rfl,hi,HF,rfl⟩:=hrel
          have i0:(0:Int)≤(i:Int):=Int.natCast_nonneg _
          by_cases hlt:i<l5.length
          ·have i1:(i:Int)<(l5.length:Int):=by omega
           obtain⟨g,off,ho,hg,c0,c1,cz⟩:=HL5.out i hlt
           subst ho
           have HF1:=Lib.hid (scan_step hlt HF.out)
           generalize l5[i]=x at *
           have e0:=fun y:WC W0=>y.cell c0
           have e1:=fun y:WC W0=>y.cell c1
           clear HF c0 c1
           have K0:=Lib.hid (HFr5.out x.1)
           cases h0:decide (fromN l5 x.1<(i:Int)) with
           | true=>
            have HR:=Lib.hid ((scan_hit (f:=twF 6 l5) (by unfold twF;simp only[h0];rfl)).symm.trans HF1.out)
            clear HF1
            generalize fromN l5 x.1=n at *
            go_wp2_with fail
            refine wp_region_wc (W0:=W0) (by kernel_rfl) (by kernel_rfl) y.h ?_
            repeat (first | go_big_quiet_step ((first | (go_at_call 126;(with_reducible exact K0.out _)))) | quiet_step ((first | (go_at_call 126;(with_reducible exact K0.out _)))))
            refine wpQuiet_nil ?_
            rintro _ ⟨y1,rfl⟩
            go_wp2_with fail
            have b3:=(((HA.out.keep (Keep.of_below y1.h (fun _=>False)) (by simp)).set 0 (.int .i64 14)).set 1 (.int .i64 6)).set 2 (.int .i64 i)
            have r0:=b3.cell 0
            have r1:=b3.cell 1
            have r2:=b3.cell 2
            refine bodyPost_ret (v:=.agg #[.int .i64 14,.int .i64 6,.int .i64 i]) (by simp[results,Tryz.results78,go_sem,r0,r1,r2]) rfl ?_
            exact⟨by rw[←HR.out];rfl,set3_below (HB.out.trans (y1.h.mono HB.out.size)) (by omega)⟩
           | false=>
            have HF2:=Lib.hid ((scan_miss (f:=twF 6 l5) (by unfold twF;simp only[h0];rfl)).symm.trans HF1.out)
            clear HF1
            generalize fromN l5 x.1=n at *
            go_wp2_with fail
            refine wp_region_wc (W0:=W0) (by kernel_rfl) (by kernel_rfl) y.h ?_
            repeat (first | go_big_quiet_step ((first | (go_at_call 126;(with_reducible exact K0.out _)))) | quiet_step ((first | (go_at_call 126;(with_reducible exact K0.out _)))))
            refine wpQuiet_nil ?_
            rintro _ ⟨y1,rfl⟩
            go_wp2_with fail
            exact⟨⟨i+1,y1,by go_num,by omega,HF2,by first | rfl | trivial⟩,by simp[intOf];omega⟩
          ·obtain rfl:i=l5.length:=by omega
           have HF0:=Lib.hid (scan_end HF.out)
           clear hi hlt i0 HF
           have HF:=Lib.hid HF0.out
           clear HF0
           have HR:=Lib.hid HF.out
           go_wp2_with fail
           have b3:=(((HA.out.keep (Keep.of_below y.h (fun _=>False)) (by simp)).set 0 (.int .i64 0)).set 1 (.int .i64 0)).set 2 (.int .i64 0)
           have r0:=b3.cell 0
           have r1:=b3.cell 1
           have r2:=b3.cell 2
           refine bodyPost_ret (v:=.agg #[.int .i64 0,.int .i64 0,.int .i64 0]) (by simp[results,Tryz.results78,go_sem,r0,r1,r2]) rfl ?_
           exact⟨by rw[←HR.out];rfl,set3_below (HB.out.trans (y.h.mono HB.out.size)) (by omega)⟩
end Go.Proofs.YtioehfhdoohdmaaGreatDoor
