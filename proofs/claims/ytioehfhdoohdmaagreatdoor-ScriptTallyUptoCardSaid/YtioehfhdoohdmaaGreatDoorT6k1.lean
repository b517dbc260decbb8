/- guiseref6: tos, walked. Printed by gen_tos6.py. -/
import Derived.Test.YtioehfhdoohdmaaGreatDoorTabA
import Derived.Test.YtioehfhdoohdmaaGreatDoorT6P
import Derived.Test.YtioehfhdoohdmaaGreatDoorT6ij
import Derived.Test.YtioehfhdoohdmaaGreatDoorT6gh
set_option linter.unusedVariables false
set_option linter.unusedSimpArgs false
namespace Go.Proofs.YtioehfhdoohdmaaGreatDoor
open Go.RowKit Go.Shelf BigFrame
set_option maxRecDepth 100000 in
set_option maxHeartbeats 40000000 in
theorem tos_any (T:Tab) (a:TAddr) (W:World) (h:TabAt W T a) (hs:TabSmall T):Calls Tryz.prog 81 #[.agg (tabCells T a)] W fun e w'=>e=.returned (wV (tosW T))∧Below W.heap.size W w':=by
 obtain⟨l0,l1,l2,l3,l4,l5,l6,l7⟩:=T
 obtain⟨o0,o1,o2,o3,o4,o5,o6,o7,c0,c1,c2,c3,c4,c5,c6,c7⟩:=a
 obtain⟨hT,HTb,bA,hB,hz⟩:=box2 h
 obtain⟨W0,hW0⟩:∃W0,(W.alloc (.cells #[.slice o0 l0.length c0,.slice o1 l1.length c1,.slice o2 l2.length c2,.slice o3 l3.length c3,.slice o4 l4.length c4,.slice o5 l5.length c5,.slice o6 l6.length c6,.slice o7 l7.length c7] 28)).alloc (.cells #[.int .i64 0,.int .i64 0,.int .i64 0] 100)=W0:=⟨_,rfl⟩
 simp only[tabCells] at hT HTb hB hz bA ⊢
 rw[hW0] at hT HTb hB hz bA
 have HW0:=Lib.hid hW0
 have HB:=Lib.hid hB
 have HZ:=Lib.hid hz
 have HA:=Lib.hid bA
 have a0:∀y:WC W0,y.w.cell? ⟨W.heap.size+1,0,none⟩=some (.int .i64 0):=WC.cell (bA.cell 0)
 have f0:∀y:WC W0,y.w.frozen? ⟨W.heap.size+1,0,none⟩=false:=WC.frozen (bA.cell 0) (bA.frozen 0)
 have a1:∀y:WC W0,y.w.cell? ⟨W.heap.size+1,1,none⟩=some (.int .i64 0):=WC.cell (bA.cell 1)
 have f1:∀y:WC W0,y.w.frozen? ⟨W.heap.size+1,1,none⟩=false:=WC.frozen (bA.cell 1) (bA.frozen 1)
 have a2:∀y:WC W0,y.w.cell? ⟨W.heap.size+1,2,none⟩=some (.int .i64 0):=WC.cell (bA.cell 2)
 have f2:∀y:WC W0,y.w.frozen? ⟨W.heap.size+1,2,none⟩=false:=WC.frozen (bA.cell 2) (bA.frozen 2)
 have t0:∀y:WC W0,y.w.cell? ⟨W.heap.size,0,none⟩=some (.slice o0 l0.length c0):=WC.cell (HTb 0 (.slice o0 l0.length c0) rfl)
 have m0:l0.length≤9223372036854775807:=hT.m0
 have HL0:=Lib.hid hT.scripts
 have t1:∀y:WC W0,y.w.cell? ⟨W.heap.size,1,none⟩=some (.slice o1 l1.length c1):=WC.cell (HTb 1 (.slice o1 l1.length c1) rfl)
 have m1:l1.length≤9223372036854775807:=hT.m1
 have HL1:=Lib.hid hT.common
 have t2:∀y:WC W0,y.w.cell? ⟨W.heap.size,2,none⟩=some (.slice o2 l2.length c2):=WC.cell (HTb 2 (.slice o2 l2.length c2) rfl)
 have m2:l2.length≤9223372036854775807:=hT.m2
 have HL2:=Lib.hid hT.marks
 have t3:∀y:WC W0,y.w.cell? ⟨W.heap.size,3,none⟩=some (.slice o3 l3.length c3):=WC.cell (HTb 3 (.slice o3 l3.length c3) rfl)
 have m3:l3.length≤9223372036854775807:=hT.m3
 have HL3:=Lib.hid hT.pairs
 have t4:∀y:WC W0,y.w.cell? ⟨W.heap.size,4,none⟩=some (.slice o4 l4.length c4):=WC.cell (HTb 4 (.slice o4 l4.length c4) rfl)
 have m4:l4.length≤9223372036854775807:=hT.m4
 have HL4:=Lib.hid hT.folds
 have t5:∀y:WC W0,y.w.cell? ⟨W.heap.size,5,none⟩=some (.slice o5 l5.length c5):=WC.cell (HTb 5 (.slice o5 l5.length c5) rfl)
 have m5:l5.length≤9223372036854775807:=hT.m5
 have HL5:=Lib.hid hT.looks
 have t6:∀y:WC W0,y.w.cell? ⟨W.heap.size,6,none⟩=some (.slice o6 l6.length c6):=WC.cell (HTb 6 (.slice o6 l6.length c6) rfl)
 have m6:l6.length≤9223372036854775807:=hT.m6
 have HL6:=Lib.hid hT.drops
 have t7:∀y:WC W0,y.w.cell? ⟨W.heap.size,7,none⟩=some (.slice o7 l7.length c7):=WC.cell (HTb 7 (.slice o7 l7.length c7) rfl)
 have m7:l7.length≤9223372036854775807:=hT.m7
 have HL7:=Lib.hid hT.allowed
 have HMk:Hid (∀(r:Int) (y:WC W0),Calls Tryz.prog 127 #[.agg #[.slice o0 l0.length c0,.slice o1 l1.length c1,.slice o2 l2.length c2,.slice o3 l3.length c3,.slice o4 l4.length c4,.slice o5 l5.length c5,.slice o6 l6.length c6,.slice o7 l7.length c7],.int .i32 r] y.w fun e w'=>e=.returned (.bool (markB ⟨l0,l1,l2,l3,l4,l5,l6,l7⟩ r))∧∃z:WC W0,w'=z.w):=Lib.hid (fun r y=>WC.call (mark_any ⟨l0,l1,l2,l3,l4,l5,l6,l7⟩ ⟨o0,o1,o2,o3,o4,o5,o6,o7,c0,c1,c2,c3,c4,c5,c6,c7⟩ r y.w (hT.below y.h)))
 have HWh:Hid (∀(r:Int) (y:WC W0),Calls Tryz.prog 129 #[.agg #[.slice o0 l0.length c0,.slice o1 l1.length c1,.slice o2 l2.length c2,.slice o3 l3.length c3,.slice o4 l4.length c4,.slice o5 l5.length c5,.slice o6 l6.length c6,.slice o7 l7.length c7],.int .i32 r] y.w fun e w'=>e=.returned (.int .i64 (wholeN ⟨l0,l1,l2,l3,l4,l5,l6,l7⟩ r))∧∃z:WC W0,w'=z.w):=Lib.hid (fun r y=>WC.call (whole_any ⟨l0,l1,l2,l3,l4,l5,l6,l7⟩ ⟨o0,o1,o2,o3,o4,o5,o6,o7,c0,c1,c2,c3,c4,c5,c6,c7⟩ r y.w (hT.below y.h)))
 have HPl0:Hid (∀(r:Int) (V:World),Below W0.heap.size W0 V→Calls Tryz.prog 131 #[.agg #[.slice o0 l0.length c0,.slice o1 l1.length c1,.slice o2 l2.length c2,.slice o3 l3.length c3,.slice o4 l4.length c4,.slice o5 l5.length c5,.slice o6 l6.length c6,.slice o7 l7.length c7],.int .i32 r] V fun e w'=>e=.returned (.bool (plainB ⟨l0,l1,l2,l3,l4,l5,l6,l7⟩ r))∧Below V.heap.size V w'):=Lib.hid (fun r V hV=>plain_any ⟨l0,l1,l2,l3,l4,l5,l6,l7⟩ ⟨o0,o1,o2,o3,o4,o5,o6,o7,c0,c1,c2,c3,c4,c5,c6,c7⟩ r V (hT.below hV))
 have HFr0:Hid (∀(r:Int) (V:World),Below W0.heap.size W0 V→Calls Tryz.prog 126 #[.slice o5 l5.length c5,.int .i32 r] V fun e w'=>e=.returned (.int .i64 (fromN l5 r))∧V=w'):=Lib.hid (fun r V hV=>from_any l5 o5 c5 r V (hT.looks.below hV) hT.m5)
 have HRs4:Hid (∀(i:Nat) (hi:i<l4.length) (y:WC W0),Calls Tryz.prog 130 #[.string l4[i].2] y.w fun e w'=>∃(o:Option Addr) (c:Nat) (z:WC W0),e=.returned (.tuple #[.slice o (rnL l4[i].2).length c,.bool (runesO l4[i].2).isSome])∧(∀j (h:j<(rnL l4[i].2).length),∃g,o=some ⟨g,0,none⟩∧z.w.cell? ⟨g,j,none⟩=some (.int .i32 (rnL l4[i].2)[j]))∧w'=z.w∧(rnL l4[i].2).length≤9223372036854775807):=Lib.hid (fun i hi y=>Calls.mono (runes6_list l4[i].2 y.w (hs.folds _ (List.getElem_mem hi))) (fun e w' ⟨o,c,he,hc,hmx,hB⟩=>⟨o,c,⟨w',y.h.trans (hB.mono y.h.size)⟩,he,hc,rfl,hmx⟩))
 have HRs5:Hid (∀(i:Nat) (hi:i<l5.length) (y:WC W0),Calls Tryz.prog 130 #[.string l5[i].2] y.w fun e w'=>∃(o:Option Addr) (c:Nat) (z:WC W0),e=.returned (.tuple #[.slice o (rnL l5[i].2).length c,.bool (runesO l5[i].2).isSome])∧(∀j (h:j<(rnL l5[i].2).length),∃g,o=some ⟨g,0,none⟩∧z.w.cell? ⟨g,j,none⟩=some (.int .i32 (rnL l5[i].2)[j]))∧w'=z.w∧(rnL l5[i].2).length≤9223372036854775807):=Lib.hid (fun i hi y=>Calls.mono (runes6_list l5[i].2 y.w (hs.looks _ (List.getElem_mem hi))) (fun e w' ⟨o,c,he,hc,hmx,hB⟩=>⟨o,c,⟨w',y.h.trans (hB.mono y.h.size)⟩,he,hc,rfl,hmx⟩))
 clear hs
 clear hT HTb hB hz h hW0 bA
 obtain⟨R,hR⟩:∃R,tosW ⟨l0,l1,l2,l3,l4,l5,l6,l7⟩=R:=⟨_,rfl⟩
 rw[hR]
 unfold tosW at hR
 dsimp only at hR
 have HF:=Lib.hid hR
 clear hR
 obtain⟨TT,hTT⟩:∃TT:Tab,TT=⟨l0,l1,l2,l3,l4,l5,l6,l7⟩:=⟨_,rfl⟩
 rw[←hTT] at HMk HWh HPl0 HF
 clear hTT
 go_enter Tryz.func81,Tryz.ntmps81
 go_wp2_with fail
 rw[HW0.out]
 clear HW0
 obtain⟨y,hy⟩:∃y:WC W0,y.w=W0:=⟨WC.of W0,rfl⟩
 rw[←hy]
 clear hy
 go_loopw [3] (fun v3 wr=>∃(i:Nat) (y:WC W0),v3=.int .i64 i∧i≤l4.length∧Hid (scan (fromM 5 TT) (l4.drop i) i (scan (fromM 6 TT) l5 0 (toGo (toF TT) l4 0 (toGo (toL TT l5) l5 0 (0,0,0))))=R)∧wr=y.w) (fun v3 _=>l4.length - (intOf v3).toNat)
 case atStart=>exact⟨0,y,rfl,Nat.zero_le _,HF,rfl⟩
 case round=>
  clear HF y
  obtain⟨i,y,rfl,hi,HF,rfl⟩:=hrel
  have i0:(0:Int)≤(i:Int):=Int.natCast_nonneg _
  by_cases hlt:i<l4.length
  ·have i1:(i:Int)<(l4.length:Int):=by omega
   obtain⟨g,off,ho,hg,c0,c1,cz⟩:=HL4.out i hlt
   subst ho
   have HF1:=Lib.hid (scan_step hlt HF.out)
   generalize l4[i]=x at *
   have e0:=fun y:WC W0=>y.cell c0
   have e1:=fun y:WC W0=>y.cell c1
   clear HF c0 c1
   have K0:=Lib.hid (HMk.out x.1)
   cases h0:markB TT x.1 with
   | true=>
    rw[h0] at K0
    have HR:=Lib.hid ((scan_hit (f:=fromM 5 TT) (by unfold fromM;simp only[h0];rfl)).symm.trans HF1.out)
    clear HF1
    go_wp2_with fail
    refine wp_region_wc (W0:=W0) (by kernel_rfl) (by kernel_rfl) y.h ?_
    repeat (first | go_big_quiet_step ((first | (go_at_call 127;(with_reducible exact K0.out _)))) | quiet_step ((first | (go_at_call 127;(with_reducible exact K0.out _)))))
    refine wpQuiet_nil ?_
    rintro _ ⟨y1,rfl⟩
    go_wp2_with fail
    have b3:=(((HA.out.keep (Keep.of_below y1.h (fun _=>False)) (by simp)).set 0 (.int .i64 31)).set 1 (.int .i64 5)).set 2 (.int .i64 i)
    have r0:=b3.cell 0
    have r1:=b3.cell 1
    have r2:=b3.cell 2
    refine bodyPost_ret (v:=.agg #[.int .i64 31,.int .i64 5,.int .i64 i]) (by simp[results,Tryz.results81,go_sem,r0,r1,r2]) rfl ?_
    exact⟨by rw[←HR.out];rfl,set3_below (HB.out.trans (y1.h.mono HB.out.size)) (by omega)⟩
   | false=>
    rw[h0] at K0
    have K1:=Lib.hid (HWh.out x.1)
    cases h1:decide (0≤wholeN TT x.1) with
    | true=>
     have HR:=Lib.hid ((scan_hit (f:=fromM 5 TT) (by unfold fromM;simp only[h0,h1];rfl)).symm.trans HF1.out)
     clear HF1
     generalize wholeN TT x.1=n at *
     go_wp2_with fail
     refine wp_region_wc (W0:=W0) (by kernel_rfl) (by kernel_rfl) y.h ?_
     repeat (first | go_big_quiet_step ((first | (go_at_call 127;(with_reducible exact K0.out _)) | (go_at_call 129;(with_reducible exact K1.out _)))) | quiet_step ((first | (go_at_call 127;(with_reducible exact K0.out _)) | (go_at_call 129;(with_reducible exact K1.out _)))))
     refine wpQuiet_nil ?_
     rintro _ ⟨y1,rfl⟩
     go_wp2_with fail
     have b3:=(((HA.out.keep (Keep.of_below y1.h (fun _=>False)) (by simp)).set 0 (.int .i64 31)).set 1 (.int .i64 5)).set 2 (.int .i64 i)
     have r0:=b3.cell 0
     have r1:=b3.cell 1
     have r2:=b3.cell 2
     refine bodyPost_ret (v:=.agg #[.int .i64 31,.int .i64 5,.int .i64 i]) (by simp[results,Tryz.results81,go_sem,r0,r1,r2]) rfl ?_
     exact⟨by rw[←HR.out];rfl,set3_below (HB.out.trans (y1.h.mono HB.out.size)) (by omega)⟩
    | false=>
     have HF2:=Lib.hid ((scan_miss (f:=fromM 5 TT) (by unfold fromM;simp only[h0,h1];rfl)).symm.trans HF1.out)
     clear HF1
     generalize wholeN TT x.1=n at *
     go_wp2_with fail
     refine wp_region_wc (W0:=W0) (by kernel_rfl) (by kernel_rfl) y.h ?_
     repeat (first | go_big_quiet_step ((first | (go_at_call 127;(with_reducible exact K0.out _)) | (go_at_call 129;(with_reducible exact K1.out _)))) | quiet_step ((first | (go_at_call 127;(with_reducible exact K0.out _)) | (go_at_call 129;(with_reducible exact K1.out _)))))
     refine wpQuiet_nil ?_
     rintro _ ⟨y1,rfl⟩
     go_wp2_with fail
     exact⟨⟨i+1,y1,by go_num,by omega,HF2,by first | rfl | trivial⟩,by simp[intOf];omega⟩
  ·obtain rfl:i=l4.length:=by omega
   have HF0:=Lib.hid (scan_end HF.out)
   clear hi hlt i0 HF
   have HF:=Lib.hid HF0.out
   clear HF0
   go_wp2_with fail
   go_loopw [4] (fun v4 wr=>∃(i:Nat) (y:WC W0),v4=.int .i64 i∧i≤l5.length∧Hid (scan (fromM 6 TT) (l5.drop i) i (toGo (toF TT) l4 0 (toGo (toL TT l5) l5 0 (0,0,0)))=R)∧wr=y.w) (fun v4 _=>l5.length - (intOf v4).toNat)
   case atStart=>exact⟨0,y,rfl,Nat.zero_le _,HF,rfl⟩
   case round=>
    clear HF y
    obtain⟨i,y,rfl,hi,HF,rfl⟩:=hrel
    have i0:(0:Int)≤(i:Int):=Int.natCast_nonneg _
    by_cases hlt:i<l5.length
    ·have i1:(i:Int)<(l5.length:Int):=by omega
     obtain⟨g,off,ho,hg,c0,c1,cz⟩:=HL5.out i hlt
     subst ho
     have HF1:=Lib.hid (scan_step hlt HF.out)
     generalize l5[i]=x at *
     have e0:=fun y:WC W0=>y.cell c0
     have e1:=fun y:WC W0=>y.cell c1
     clear HF c0 c1
     have K0:=Lib.hid (HMk.out x.1)
     cases h0:markB TT x.1 with
     | true=>
      rw[h0] at K0
      have HR:=Lib.hid ((scan_hit (f:=fromM 6 TT) (by unfold fromM;simp only[h0];rfl)).symm.trans HF1.out)
      clear HF1
      go_wp2_with fail
      refine wp_region_wc (W0:=W0) (by kernel_rfl) (by kernel_rfl) y.h ?_
      repeat (first | go_big_quiet_step ((first | (go_at_call 127;(with_reducible exact K0.out _)))) | quiet_step ((first | (go_at_call 127;(with_reducible exact K0.out _)))))
      refine wpQuiet_nil ?_
      rintro _ ⟨y1,rfl⟩
      go_wp2_with fail
      have b3:=(((HA.out.keep (Keep.of_below y1.h (fun _=>False)) (by simp)).set 0 (.int .i64 31)).set 1 (.int .i64 6)).set 2 (.int .i64 i)
      have r0:=b3.cell 0
      have r1:=b3.cell 1
      have r2:=b3.cell 2
      refine bodyPost_ret (v:=.agg #[.int .i64 31,.int .i64 6,.int .i64 i]) (by simp[results,Tryz.results81,go_sem,r0,r1,r2]) rfl ?_
      exact⟨by rw[←HR.out];rfl,set3_below (HB.out.trans (y1.h.mono HB.out.size)) (by omega)⟩
     | false=>
      rw[h0] at K0
      have K1:=Lib.hid (HWh.out x.1)
      cases h1:decide (0≤wholeN TT x.1) with
      | true=>
       have HR:=Lib.hid ((scan_hit (f:=fromM 6 TT) (by unfold fromM;simp only[h0,h1];rfl)).symm.trans HF1.out)
       clear HF1
       generalize wholeN TT x.1=n at *
       go_wp2_with fail
       refine wp_region_wc (W0:=W0) (by kernel_rfl) (by kernel_rfl) y.h ?_
       repeat (first | go_big_quiet_step ((first | (go_at_call 127;(with_reducible exact K0.out _)) | (go_at_call 129;(with_reducible exact K1.out _)))) | quiet_step ((first | (go_at_call 127;(with_reducible exact K0.out _)) | (go_at_call 129;(with_reducible exact K1.out _)))))
       refine wpQuiet_nil ?_
       rintro _ ⟨y1,rfl⟩
       go_wp2_with fail
       have b3:=(((HA.out.keep (Keep.of_below y1.h (fun _=>False)) (by simp)).set 0 (.int .i64 31)).set 1 (.int .i64 6)).set 2 (.int .i64 i)
       have r0:=b3.cell 0
       have r1:=b3.cell 1
       have r2:=b3.cell 2
       refine bodyPost_ret (v:=.agg #[.int .i64 31,.int .i64 6,.int .i64 i]) (by simp[results,Tryz.results81,go_sem,r0,r1,r2]) rfl ?_
       exact⟨by rw[←HR.out];rfl,set3_below (HB.out.trans (y1.h.mono HB.out.size)) (by omega)⟩
      | false=>
       have HF2:=Lib.hid ((scan_miss (f:=fromM 6 TT) (by unfold fromM;simp only[h0,h1];rfl)).symm.trans HF1.out)
       clear HF1
       generalize wholeN TT x.1=n at *
       go_wp2_with fail
       refine wp_region_wc (W0:=W0) (by kernel_rfl) (by kernel_rfl) y.h ?_
       repeat (first | go_big_quiet_step ((first | (go_at_call 127;(with_reducible exact K0.out _)) | (go_at_call 129;(with_reducible exact K1.out _)))) | quiet_step ((first | (go_at_call 127;(with_reducible exact K0.out _)) | (go_at_call 129;(with_reducible exact K1.out _)))))
       refine wpQuiet_nil ?_
       rintro _ ⟨y1,rfl⟩
       go_wp2_with fail
       exact⟨⟨i+1,y1,by go_num,by omega,HF2,by first | rfl | trivial⟩,by simp[intOf];omega⟩
    ·obtain rfl:i=l5.length:=by omega
     have HF0:=Lib.hid (scan_end HF.out)
     clear hi hlt i0 HF
     have HF:=Lib.hid HF0.out
     clear HF0
     go_wp2_with fail
     go_loopw [5] (fun v5 wr=>∃(i:Nat) (y:WC W0),v5=.int .i64 i∧i≤l4.length∧Hid (toGo (toF TT) (l4.drop i) i (toGo (toL TT l5) l5 0 (0,0,0))=R)∧wr=y.w) (fun v5 _=>l4.length - (intOf v5).toNat)
     case atStart=>exact⟨0,y,rfl,Nat.zero_le _,HF,rfl⟩
     case round=>
      clear HF y
      obtain⟨i,y,rfl,hi,HF,rfl⟩:=hrel
      have i0:(0:Int)≤(i:Int):=Int.natCast_nonneg _
      by_cases hlt:i<l4.length
      ·have i1:(i:Int)<(l4.length:Int):=by omega
       have ho:=HL4.out i hlt
       obtain⟨g,off,ho,hg,c0,c1,cz⟩:=ho
       subst ho
       have HF1:=Lib.hid (toGo_step hlt HF.out)
       have e1:=fun y:WC W0=>y.cell c1
       have KR:=Lib.hid (HRs4.out i hlt)
       generalize l4[i]=x at *
       clear HF c0 c1 cz
       go_wp2_with fail
       (with_reducible refine Calls.mono (KR.out y) ?_)
       rintro e w' ⟨o,c,y1,rfl,hcell,rfl,hmx⟩
       have HC:=Lib.hid hcell
       generalize rnL x.2=rl at *
       clear hcell KR e1 y
       obtain⟨y,hyy⟩:∃y:WC W0,y=y1:=⟨_,rfl⟩
       subst hyy
       go_wp2_with fail
       have HBy:=Lib.hid y.h
       obtain⟨W1,hW1⟩:∃W1,y.w=W1:=⟨_,rfl⟩
       rw[hW1] at HBy HC ⊢
       clear hW1 y
       have up:∀z:WC W1,Below W0.heap.size W0 z.w:=fun z=>HBy.out.trans (z.h.mono HBy.out.size)
       have Hup:=Lib.hid up
       clear up
       have s0:∀z:WC W1,z.w.cell? ⟨W.heap.size,0,none⟩=some (.slice o0 l0.length c0):=fun z=>t0 ⟨z.w,Hup.out z⟩
       have s1:∀z:WC W1,z.w.cell? ⟨W.heap.size,1,none⟩=some (.slice o1 l1.length c1):=fun z=>t1 ⟨z.w,Hup.out z⟩
       have s2:∀z:WC W1,z.w.cell? ⟨W.heap.size,2,none⟩=some (.slice o2 l2.length c2):=fun z=>t2 ⟨z.w,Hup.out z⟩
       have s3:∀z:WC W1,z.w.cell? ⟨W.heap.size,3,none⟩=some (.slice o3 l3.length c3):=fun z=>t3 ⟨z.w,Hup.out z⟩
       have s4:∀z:WC W1,z.w.cell? ⟨W.heap.size,4,none⟩=some (.slice (some ⟨g,off,none⟩) l4.length c4):=fun z=>t4 ⟨z.w,Hup.out z⟩
       have s5:∀z:WC W1,z.w.cell? ⟨W.heap.size,5,none⟩=some (.slice o5 l5.length c5):=fun z=>t5 ⟨z.w,Hup.out z⟩
       have s6:∀z:WC W1,z.w.cell? ⟨W.heap.size,6,none⟩=some (.slice o6 l6.length c6):=fun z=>t6 ⟨z.w,Hup.out z⟩
       have s7:∀z:WC W1,z.w.cell? ⟨W.heap.size,7,none⟩=some (.slice o7 l7.length c7):=fun z=>t7 ⟨z.w,Hup.out z⟩
       have b0:∀z:WC W1,z.w.cell? ⟨W.heap.size+1,0,none⟩=some (.int .i64 0):=fun z=>a0 ⟨z.w,Hup.out z⟩
       have k0:∀z:WC W1,z.w.frozen? ⟨W.heap.size+1,0,none⟩=false:=fun z=>f0 ⟨z.w,Hup.out z⟩
       have b1:∀z:WC W1,z.w.cell? ⟨W.heap.size+1,1,none⟩=some (.int .i64 0):=fun z=>a1 ⟨z.w,Hup.out z⟩
       have k1:∀z:WC W1,z.w.frozen? ⟨W.heap.size+1,1,none⟩=false:=fun z=>f1 ⟨z.w,Hup.out z⟩
       have b2:∀z:WC W1,z.w.cell? ⟨W.heap.size+1,2,none⟩=some (.int .i64 0):=fun z=>a2 ⟨z.w,Hup.out z⟩
       have k2:∀z:WC W1,z.w.frozen? ⟨W.heap.size+1,2,none⟩=false:=fun z=>f2 ⟨z.w,Hup.out z⟩
       have HPl1:Hid (∀(r:Int) (z:WC W1),Calls Tryz.prog 131 #[.agg #[.slice o0 l0.length c0,.slice o1 l1.length c1,.slice o2 l2.length c2,.slice o3 l3.length c3,.slice (some ⟨g,off,none⟩) l4.length c4,.slice o5 l5.length c5,.slice o6 l6.length c6,.slice o7 l7.length c7],.int .i32 r] z.w fun e w'=>e=.returned (.bool (plainB TT r))∧∃u:WC W1,w'=u.w):=Lib.hid (fun r z=>Calls.mono (HPl0.out r z.w (Hup.out z)) (fun e w' hh=>⟨hh.1,⟨w',z.h.trans (hh.2.mono z.h.size)⟩,rfl⟩))
       have HFr1:Hid (∀(r:Int) (z:WC W1),Calls Tryz.prog 126 #[.slice o5 l5.length c5,.int .i32 r] z.w fun e w'=>e=.returned (.int .i64 (fromN l5 r))∧∃u:WC W1,w'=u.w):=Lib.hid (fun r z=>Calls.mono (HFr0.out r z.w (Hup.out z)) (fun e w' hh=>⟨hh.1,z,hh.2.symm⟩))
       go_loopw [8] (fun v8 wr=>∃(j:Nat) (z:WC W1),v8=.int .i64 j∧j≤rl.length∧Hid (scan (toF TT i) (rl.drop j) j (toGo (toF TT) (l4.drop (i+1)) (i+1) (toGo (toL TT l5) l5 0 (0,0,0)))=R)∧wr=z.w) (fun v8 _=>rl.length - (intOf v8).toNat)
       case atStart=>exact⟨0,WC.of W1,rfl,Nat.zero_le _,HF1,rfl⟩
       case round=>
        clear HF1
        obtain⟨j,z,rfl,hj,HF1,rfl⟩:=hrel
        have j0:(0:Int)≤(j:Int):=Int.natCast_nonneg _
        by_cases hjl:j<rl.length
        ·have j1:(j:Int)<(rl.length:Int):=by omega
         obtain⟨g1,ho1,c1⟩:=HC.out j hjl
         subst ho1
         have HF2:=Lib.hid (scan_step hjl HF1.out)
         generalize rl[j]=r at *
         have e1:=fun z:WC W1=>z.cell c1
         clear HF1 c1
         have K0:=Lib.hid (HPl1.out r)
         cases h0:plainB TT r with
         | false=>
          rw[h0] at K0
          have HR:=Lib.hid ((scan_hit (f:=toF TT i) (by unfold toF;simp only[h0];rfl)).symm.trans HF2.out)
          clear HF2
          go_wp2_with fail
          refine wp_region_wc (W0:=W1) (by kernel_rfl) (by kernel_rfl) z.h ?_
          repeat (first | go_big_quiet_step ((first | (go_at_call 131;(with_reducible exact K0.out _)))) | quiet_step ((first | (go_at_call 131;(with_reducible exact K0.out _)))))
          refine wpQuiet_nil ?_
          rintro _ ⟨z1,rfl⟩
          go_wp2_with fail
          have b3:=(((HA.out.keep (Keep.of_below (Hup.out z1) (fun _=>False)) (by simp)).set 0 (.int .i64 35)).set 1 (.int .i64 5)).set 2 (.int .i64 i)
          have r0:=b3.cell 0
          have r1:=b3.cell 1
          have r2:=b3.cell 2
          refine bodyPost_ret (v:=.agg #[.int .i64 35,.int .i64 5,.int .i64 i]) (by simp[results,Tryz.results81,go_sem,r0,r1,r2]) rfl ?_
          exact⟨by rw[←HR.out];rfl,set3_below (HB.out.trans ((Hup.out z1).mono HB.out.size)) (by omega)⟩
         | true=>
          rw[h0] at K0
          have HR:=Lib.hid ((scan_miss (f:=toF TT i) (by unfold toF;simp only[h0];rfl)).symm.trans HF2.out)
          clear HF2
          go_wp2_with fail
          refine wp_region_wc (W0:=W1) (by kernel_rfl) (by kernel_rfl) z.h ?_
          repeat (first | go_big_quiet_step ((first | (go_at_call 131;(with_reducible exact K0.out _)))) | quiet_step ((first | (go_at_call 131;(with_reducible exact K0.out _)))))
          refine wpQuiet_nil ?_
          rintro _ ⟨z1,rfl⟩
          go_wp2_with fail
          exact⟨⟨j+1,z1,by go_num,by omega,HR,by first | rfl | trivial⟩,by simp[intOf];omega⟩
        ·obtain rfl:j=rl.length:=by omega
         have HF2:=Lib.hid (scan_end HF1.out)
         clear hj hjl j0 HF1
         go_wp2_with fail
         exact⟨⟨i+1,⟨z.w,Hup.out z⟩,by go_num,by omega,HF2,by first | rfl | trivial⟩,by simp[intOf];omega⟩
      ·obtain rfl:i=l4.length:=by omega
       have HF0:=Lib.hid (toGo_end HF.out)
       clear hi hlt i0 HF
       have HF:=Lib.hid HF0.out
       clear HF0
       go_wp2_with fail
       go_loopw [9] (fun v9 wr=>∃(i:Nat) (y:WC W0),v9=.int .i64 i∧i≤l5.length∧Hid (toGo (toL TT l5) (l5.drop i) i ((0,0,0))=R)∧wr=y.w) (fun v9 _=>l5.length - (intOf v9).toNat)
       case atStart=>exact⟨0,y,rfl,Nat.zero_le _,HF,rfl⟩
       case round=>
        clear HF y
        obtain⟨i,y,rfl,hi,HF,rfl⟩:=hrel
        have i0:(0:Int)≤(i:Int):=Int.natCast_nonneg _
        by_cases hlt:i<l5.length
        ·have i1:(i:Int)<(l5.length:Int):=by omega
         have ho:=HL5.out i hlt
         obtain⟨g,off,ho,hg,c0,c1,cz⟩:=ho
         subst ho
         have HF1:=Lib.hid (toGo_step hlt HF.out)
         have e1:=fun y:WC W0=>y.cell c1
         have KR:=Lib.hid (HRs5.out i hlt)
         generalize l5[i]=x at *
         clear HF c0 c1 cz
         go_wp2_with fail
         (with_reducible refine Calls.mono (KR.out y) ?_)
         rintro e w' ⟨o,c,y1,rfl,hcell,rfl,hmx⟩
         have HC:=Lib.hid hcell
         generalize rnL x.2=rl at *
         clear hcell KR e1 y
         obtain⟨y,hyy⟩:∃y:WC W0,y=y1:=⟨_,rfl⟩
         subst hyy
         go_wp2_with fail
         have HBy:=Lib.hid y.h
         obtain⟨W1,hW1⟩:∃W1,y.w=W1:=⟨_,rfl⟩
         rw[hW1] at HBy HC ⊢
         clear hW1 y
         have up:∀z:WC W1,Below W0.heap.size W0 z.w:=fun z=>HBy.out.trans (z.h.mono HBy.out.size)
         have Hup:=Lib.hid up
         clear up
         have s0:∀z:WC W1,z.w.cell? ⟨W.heap.size,0,none⟩=some (.slice o0 l0.length c0):=fun z=>t0 ⟨z.w,Hup.out z⟩
         have s1:∀z:WC W1,z.w.cell? ⟨W.heap.size,1,none⟩=some (.slice o1 l1.length c1):=fun z=>t1 ⟨z.w,Hup.out z⟩
         have s2:∀z:WC W1,z.w.cell? ⟨W.heap.size,2,none⟩=some (.slice o2 l2.length c2):=fun z=>t2 ⟨z.w,Hup.out z⟩
         have s3:∀z:WC W1,z.w.cell? ⟨W.heap.size,3,none⟩=some (.slice o3 l3.length c3):=fun z=>t3 ⟨z.w,Hup.out z⟩
         have s4:∀z:WC W1,z.w.cell? ⟨W.heap.size,4,none⟩=some (.slice o4 l4.length c4):=fun z=>t4 ⟨z.w,Hup.out z⟩
         have s5:∀z:WC W1,z.w.cell? ⟨W.heap.size,5,none⟩=some (.slice (some ⟨g,off,none⟩) l5.length c5):=fun z=>t5 ⟨z.w,Hup.out z⟩
         have s6:∀z:WC W1,z.w.cell? ⟨W.heap.size,6,none⟩=some (.slice o6 l6.length c6):=fun z=>t6 ⟨z.w,Hup.out z⟩
         have s7:∀z:WC W1,z.w.cell? ⟨W.heap.size,7,none⟩=some (.slice o7 l7.length c7):=fun z=>t7 ⟨z.w,Hup.out z⟩
         have b0:∀z:WC W1,z.w.cell? ⟨W.heap.size+1,0,none⟩=some (.int .i64 0):=fun z=>a0 ⟨z.w,Hup.out z⟩
         have k0:∀z:WC W1,z.w.frozen? ⟨W.heap.size+1,0,none⟩=false:=fun z=>f0 ⟨z.w,Hup.out z⟩
         have b1:∀z:WC W1,z.w.cell? ⟨W.heap.size+1,1,none⟩=some (.int .i64 0):=fun z=>a1 ⟨z.w,Hup.out z⟩
         have k1:∀z:WC W1,z.w.frozen? ⟨W.heap.size+1,1,none⟩=false:=fun z=>f1 ⟨z.w,Hup.out z⟩
         have b2:∀z:WC W1,z.w.cell? ⟨W.heap.size+1,2,none⟩=some (.int .i64 0):=fun z=>a2 ⟨z.w,Hup.out z⟩
         have k2:∀z:WC W1,z.w.frozen? ⟨W.heap.size+1,2,none⟩=false:=fun z=>f2 ⟨z.w,Hup.out z⟩
         have HPl1:Hid (∀(r:Int) (z:WC W1),Calls Tryz.prog 131 #[.agg #[.slice o0 l0.length c0,.slice o1 l1.length c1,.slice o2 l2.length c2,.slice o3 l3.length c3,.slice o4 l4.length c4,.slice (some ⟨g,off,none⟩) l5.length c5,.slice o6 l6.length c6,.slice o7 l7.length c7],.int .i32 r] z.w fun e w'=>e=.returned (.bool (plainB TT r))∧∃u:WC W1,w'=u.w):=Lib.hid (fun r z=>Calls.mono (HPl0.out r z.w (Hup.out z)) (fun e w' hh=>⟨hh.1,⟨w',z.h.trans (hh.2.mono z.h.size)⟩,rfl⟩))
         have HFr1:Hid (∀(r:Int) (z:WC W1),Calls Tryz.prog 126 #[.slice (some ⟨g,off,none⟩) l5.length c5,.int .i32 r] z.w fun e w'=>e=.returned (.int .i64 (fromN l5 r))∧∃u:WC W1,w'=u.w):=Lib.hid (fun r z=>Calls.mono (HFr0.out r z.w (Hup.out z)) (fun e w' hh=>⟨hh.1,z,hh.2.symm⟩))
         go_loopw [12] (fun v12 wr=>∃(j:Nat) (z:WC W1),v12=.int .i64 j∧j≤rl.length∧Hid (scan (toL TT l5 i) (rl.drop j) j (toGo (toL TT l5) (l5.drop (i+1)) (i+1) ((0,0,0)))=R)∧wr=z.w) (fun v12 _=>rl.length - (intOf v12).toNat)
         case atStart=>exact⟨0,WC.of W1,rfl,Nat.zero_le _,HF1,rfl⟩
         case round=>
          clear HF1
          obtain⟨j,z,rfl,hj,HF1,rfl⟩:=hrel
          have j0:(0:Int)≤(j:Int):=Int.natCast_nonneg _
          by_cases hjl:j<rl.length
          ·have j1:(j:Int)<(rl.length:Int):=by omega
           obtain⟨g1,ho1,c1⟩:=HC.out j hjl
           subst ho1
           have HF2:=Lib.hid (scan_step hjl HF1.out)
           generalize rl[j]=r at *
           have e1:=fun z:WC W1=>z.cell c1
           clear HF1 c1
           have K0:=Lib.hid (HPl1.out r)
           cases h0:plainB TT r with
           | false=>
            rw[h0] at K0
            have HR:=Lib.hid ((scan_hit (f:=toL TT l5 i) (by unfold toL;simp only[h0];rfl)).symm.trans HF2.out)
            clear HF2
            go_wp2_with fail
            refine wp_region_wc (W0:=W1) (by kernel_rfl) (by kernel_rfl) z.h ?_
            repeat (first | go_big_quiet_step ((first | (go_at_call 131;(with_reducible exact K0.out _)))) | quiet_step ((first | (go_at_call 131;(with_reducible exact K0.out _)))))
            refine wpQuiet_nil ?_
            rintro _ ⟨z1,rfl⟩
            go_wp2_with fail
            have b3:=(((HA.out.keep (Keep.of_below (Hup.out z1) (fun _=>False)) (by simp)).set 0 (.int .i64 36)).set 1 (.int .i64 6)).set 2 (.int .i64 i)
            have r0:=b3.cell 0
            have r1:=b3.cell 1
            have r2:=b3.cell 2
            refine bodyPost_ret (v:=.agg #[.int .i64 36,.int .i64 6,.int .i64 i]) (by simp[results,Tryz.results81,go_sem,r0,r1,r2]) rfl ?_
            exact⟨by rw[←HR.out];rfl,set3_below (HB.out.trans ((Hup.out z1).mono HB.out.size)) (by omega)⟩
           | true=>
            rw[h0] at K0
            have K1:=Lib.hid (HFr1.out r)
            cases h1:decide (0≤fromN l5 r) with
            | true=>
             have HR:=Lib.hid ((scan_hit (f:=toL TT l5 i) (by unfold toL;simp only[h0,h1];rfl)).symm.trans HF2.out)
             clear HF2
             generalize fromN l5 r=n at *
             go_wp2_with fail
             refine wp_region_wc (W0:=W1) (by kernel_rfl) (by kernel_rfl) z.h ?_
             repeat (first | go_big_quiet_step ((first | (go_at_call 131;(with_reducible exact K0.out _)) | (go_at_call 126;(with_reducible exact K1.out _)))) | quiet_step ((first | (go_at_call 131;(with_reducible exact K0.out _)) | (go_at_call 126;(with_reducible exact K1.out _)))))
             refine wpQuiet_nil ?_
             rintro _ ⟨z1,rfl⟩
             go_wp2_with fail
             have b3:=(((HA.out.keep (Keep.of_below (Hup.out z1) (fun _=>False)) (by simp)).set 0 (.int .i64 36)).set 1 (.int .i64 6)).set 2 (.int .i64 i)
             have r0:=b3.cell 0
             have r1:=b3.cell 1
             have r2:=b3.cell 2
             refine bodyPost_ret (v:=.agg #[.int .i64 36,.int .i64 6,.int .i64 i]) (by simp[results,Tryz.results81,go_sem,r0,r1,r2]) rfl ?_
             exact⟨by rw[←HR.out];rfl,set3_below (HB.out.trans ((Hup.out z1).mono HB.out.size)) (by omega)⟩
            | false=>
             have HR:=Lib.hid ((scan_miss (f:=toL TT l5 i) (by unfold toL;simp only[h0,h1];rfl)).symm.trans HF2.out)
             clear HF2
             generalize fromN l5 r=n at *
             go_wp2_with fail
             refine wp_region_wc (W0:=W1) (by kernel_rfl) (by kernel_rfl) z.h ?_
             repeat (first | go_big_quiet_step ((first | (go_at_call 131;(with_reducible exact K0.out _)) | (go_at_call 126;(with_reducible exact K1.out _)))) | quiet_step ((first | (go_at_call 131;(with_reducible exact K0.out _)) | (go_at_call 126;(with_reducible exact K1.out _)))))
             refine wpQuiet_nil ?_
             rintro _ ⟨z1,rfl⟩
             go_wp2_with fail
             exact⟨⟨j+1,z1,by go_num,by omega,HR,by first | rfl | trivial⟩,by simp[intOf];omega⟩
          ·obtain rfl:j=rl.length:=by omega
           have HF2:=Lib.hid (scan_end HF1.out)
           clear hj hjl j0 HF1
           go_wp2_with fail
           exact⟨⟨i+1,⟨z.w,Hup.out z⟩,by go_num,by omega,HF2,by first | rfl | trivial⟩,by simp[intOf];omega⟩
        ·obtain rfl:i=l5.length:=by omega
         have HF0:=Lib.hid (toGo_end HF.out)
         clear hi hlt i0 HF
         have HF:=Lib.hid HF0.out
         clear HF0
         have HR:=Lib.hid HF.out
         go_wp2_with fail
         have b3:=(((HA.out.keep (Keep.of_below y.h (fun _=>False)) (by simp)).set 0 (.int .i64 0)).set 1 (.int .i64 0)).set 2 (.int .i64 0)
         have r0:=b3.cell 0
         have r1:=b3.cell 1
         have r2:=b3.cell 2
         refine bodyPost_ret (v:=.agg #[.int .i64 0,.int .i64 0,.int .i64 0]) (by simp[results,Tryz.results81,go_sem,r0,r1,r2]) rfl ?_
         exact⟨by rw[←HR.out];rfl,set3_below (HB.out.trans (y.h.mono HB.out.size)) (by omega)⟩
end Go.Proofs.YtioehfhdoohdmaaGreatDoor
