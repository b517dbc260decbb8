/- guiseref6.rows, walked. Printed by gen_house6.py. -/
import Derived.Test.YtioehfhdoohdmaaGreatDoorTabA
import Derived.Test.YtioehfhdoohdmaaGreatDoorT6P
import Derived.Test.YtioehfhdoohdmaaGreatDoorT6ij
set_option linter.unusedVariables false
set_option linter.unusedSimpArgs false
namespace Go.Proofs.YtioehfhdoohdmaaGreatDoor
open Go.RowKit Go.Shelf BigFrame
set_option maxRecDepth 100000 in
set_option maxHeartbeats 40000000 in
theorem rows_any (T:Tab) (a:TAddr) (W:World) (h:TabAt W T a) (hs:TabSmall T):Calls Tryz.prog 132 #[.agg (tabCells T a)] W fun e w'=>e=.returned (wV (rowsW T))∧Below W.heap.size W w':=by
 obtain⟨l0,l1,l2,l3,l4,l5,l6,l7⟩:=T
 obtain⟨o0,o1,o2,o3,o4,o5,o6,o7,c0,c1,c2,c3,c4,c5,c6,c7⟩:=a
 obtain⟨hT,HTb,bA,hB,hz⟩:=box2 h
 obtain⟨W0,hW0⟩:∃W0,(W.alloc (.cells #[.slice o0 l0.length c0,.slice o1 l1.length c1,.slice o2 l2.length c2,.slice o3 l3.length c3,.slice o4 l4.length c4,.slice o5 l5.length c5,.slice o6 l6.length c6,.slice o7 l7.length c7] 28)).alloc (.cells #[.int .i64 0,.int .i64 0,.int .i64 0] 100)=W0:=⟨_,rfl⟩
 simp only[tabCells] at hT HTb hB hz bA ⊢
 rw[hW0] at hT HTb hB hz bA
 have HW0:=Lib.hid hW0
 have HB:=Lib.hid hB
 have HZ:=Lib.hid hz
 have HA:=Lib.hid bA
 have a0:∀y:WC W0,y.w.cell? ⟨W.heap.size+1,0,none⟩=some (.int .i64 0):=WC.cell (bA.cell 0)
 have f0:∀y:WC W0,y.w.frozen? ⟨W.heap.size+1,0,none⟩=false:=WC.frozen (bA.cell 0) (bA.frozen 0)
 have a1:∀y:WC W0,y.w.cell? ⟨W.heap.size+1,1,none⟩=some (.int .i64 0):=WC.cell (bA.cell 1)
 have f1:∀y:WC W0,y.w.frozen? ⟨W.heap.size+1,1,none⟩=false:=WC.frozen (bA.cell 1) (bA.frozen 1)
 have a2:∀y:WC W0,y.w.cell? ⟨W.heap.size+1,2,none⟩=some (.int .i64 0):=WC.cell (bA.cell 2)
 have f2:∀y:WC W0,y.w.frozen? ⟨W.heap.size+1,2,none⟩=false:=WC.frozen (bA.cell 2) (bA.frozen 2)
 have t1:∀y:WC W0,y.w.cell? ⟨W.heap.size,1,none⟩=some (.slice o1 l1.length c1):=WC.cell (HTb 1 (.slice o1 l1.length c1) rfl)
 have m1:l1.length≤9223372036854775807:=hT.m1
 have HL1:=Lib.hid hT.common
 have t2:∀y:WC W0,y.w.cell? ⟨W.heap.size,2,none⟩=some (.slice o2 l2.length c2):=WC.cell (HTb 2 (.slice o2 l2.length c2) rfl)
 have m2:l2.length≤9223372036854775807:=hT.m2
 have HL2:=Lib.hid hT.marks
 have t3:∀y:WC W0,y.w.cell? ⟨W.heap.size,3,none⟩=some (.slice o3 l3.length c3):=WC.cell (HTb 3 (.slice o3 l3.length c3) rfl)
 have m3:l3.length≤9223372036854775807:=hT.m3
 have HL3:=Lib.hid hT.pairs
 have t4:∀y:WC W0,y.w.cell? ⟨W.heap.size,4,none⟩=some (.slice o4 l4.length c4):=WC.cell (HTb 4 (.slice o4 l4.length c4) rfl)
 have m4:l4.length≤9223372036854775807:=hT.m4
 have HL4:=Lib.hid hT.folds
 have t5:∀y:WC W0,y.w.cell? ⟨W.heap.size,5,none⟩=some (.slice o5 l5.length c5):=WC.cell (HTb 5 (.slice o5 l5.length c5) rfl)
 have m5:l5.length≤9223372036854775807:=hT.m5
 have HL5:=Lib.hid hT.looks
 have HO:Hid (∀(r:Int) (y:WC W0),Calls Tryz.prog 93 #[.int .i32 r,.slice o1 l1.length c1] y.w fun e w'=>e=.returned (.bool (ofB r l1))∧∃z:WC W0,w'=z.w):=Lib.hid (fun r y=>WC.same (of_any r o1 c1 l1 y.w (hT.common.below y.h) hT.m1))
 have HLo:Hid (∀(r:Int) (y:WC W0),Calls Tryz.prog 148 #[.int .i32 r] y.w fun e w'=>e=.returned (.bool (lowB r))∧∃z:WC W0,w'=z.w):=Lib.hid (fun r y=>WC.same (low_any r y.w))
 have HSe:Hid (∀(r:Int) (y:WC W0),Calls Tryz.prog 150 #[.int .i32 r] y.w fun e w'=>e=.returned (.bool (setB r))∧∃z:WC W0,w'=z.w):=Lib.hid (fun r y=>WC.same (set_any r y.w))
 have HSs4:Hid (∀(s:ByteArray) (hs:s.size≤1048576) (y:WC W0),Calls Tryz.prog 149 #[.string s] y.w fun e w'=>e=.returned (.bool (setsB s))∧∃z:WC W0,w'=z.w):=Lib.hid (fun s hs y=>WC.call (sets_any s y.w hs))
 have HZ4:=Lib.hid hs.folds
 have HZ5:=Lib.hid hs.looks
 clear hs
 clear hT HTb hB hz h hW0 bA
 obtain⟨R,hR⟩:∃R,rowsW ⟨l0,l1,l2,l3,l4,l5,l6,l7⟩=R:=⟨_,rfl⟩
 rw[hR]
 unfold rowsW at hR
 dsimp only at hR
 have HF:=Lib.hid hR
 clear hR
 go_enter Tryz.func132,Tryz.ntmps132
 go_wp2_with fail
 rw[HW0.out]
 clear HW0
 obtain⟨y,hy⟩:∃y:WC W0,y.w=W0:=⟨WC.of W0,rfl⟩
 rw[←hy]
 clear hy
 go_loopw [3] (fun v3 wr=>∃(i:Nat) (y:WC W0),v3=.int .i32 (45+(i:Int))∧i≤13∧Hid (scan (comM l1) (comR.drop i) i (scan hMark l2 0 (scan hPair l3 0 (scan hFold l4 0 (scan hLook l5 0 (0,0,0)))))=R)∧wr=y.w) (fun v3 _=>58 - (intOf v3).toNat)
 case atStart=>exact⟨0,y,rfl,Nat.zero_le _,HF,rfl⟩
 case round=>
  clear HF
  obtain⟨i,y,rfl,hi,HF,rfl⟩:=hrel
  by_cases hlt:i<13
  ·have hll:i<comR.length:=by rw[comR_len];exact hlt
   have HF1:=Lib.hid (scan_step hll HF.out)
   rw[comR_at hll] at HF1
   have i1:(45:Int)+(i:Int)≤57:=by omega
   have i0:(45:Int)≤45+(i:Int):=by omega
   clear HF hll
   obtain⟨r,hr⟩:∃r,45+(i:Int)=r:=⟨_,rfl⟩
   rw[hr] at HF1 i1 i0 ⊢
   have HR0:=Lib.hid hr
   clear hr
   cases h0:r != 47 with
   | false=>
    have HF2:=Lib.hid ((scan_miss (f:=comM l1) (by unfold comM;simp only[h0];rfl)).symm.trans HF1.out)
    clear HF1
    go_wp2_with fail
    have hr1:r+1=45+((i+1:Nat):Int):=by have:=HR0.out;omega
    exact⟨⟨i+1,y,by rw[hr1],by omega,HF2,by first | rfl | trivial⟩,by have:=HR0.out;simp[intOf];omega⟩
   | true=>
    have K0:=Lib.hid (HO.out r)
    cases h1:ofB r l1 with
    | true=>
     rw[h1] at K0
     have HF2:=Lib.hid ((scan_miss (f:=comM l1) (by unfold comM;simp only[h0,h1];rfl)).symm.trans HF1.out)
     clear HF1
     go_wp2_with fail
     (with_reducible refine Calls.mono (K0.out y) ?_)
     rintro e w' ⟨rfl,y1,rfl⟩
     go_wp2_with fail
     have hr1:r+1=45+((i+1:Nat):Int):=by have:=HR0.out;omega
     exact⟨⟨i+1,y1,by rw[hr1],by omega,HF2,by first | rfl | trivial⟩,by have:=HR0.out;simp[intOf];omega⟩
    | false=>
     rw[h1] at K0
     have HR:=Lib.hid ((scan_hit (f:=comM l1) (by unfold comM;simp only[h0,h1];rfl)).symm.trans HF1.out)
     clear HF1
     go_wp2_with fail
     (with_reducible refine Calls.mono (K0.out y) ?_)
     rintro e w' ⟨rfl,y1,rfl⟩
     go_wp2_with fail
     have b3:=(((HA.out.keep (Keep.of_below y1.h (fun _=>False)) (by simp)).set 0 (.int .i64 5)).set 1 (.int .i64 2)).set 2 (.int .i64 0)
     have r0:=b3.cell 0
     have r1:=b3.cell 1
     have r2:=b3.cell 2
     refine bodyPost_ret (v:=.agg #[.int .i64 5,.int .i64 2,.int .i64 0]) (by simp[results,Tryz.results132,go_sem,r0,r1,r2]) rfl ?_
     exact⟨by rw[←HR.out];rfl,set3_below (HB.out.trans (y1.h.mono HB.out.size)) (by omega)⟩
  ·obtain rfl:i=13:=by omega
   rw[show (45:Int)+((13:Nat):Int)=58 from rfl]
   have HF0:Hid (scan hMark l2 0 (scan hPair l3 0 (scan hFold l4 0 (scan hLook l5 0 (0,0,0))))=R):=Lib.hid (scan_end (by have:=HF.out;rwa [←comR_len] at this))
   clear hi hlt HF
   have HF:=Lib.hid HF0.out
   clear HF0
   go_wp2_with fail
   go_loopw [4] (fun v4 wr=>∃(i:Nat) (y:WC W0),v4=.int .i64 i∧i≤l2.length∧Hid (scan (hMark) (l2.drop i) i (scan hPair l3 0 (scan hFold l4 0 (scan hLook l5 0 (0,0,0))))=R)∧wr=y.w) (fun v4 _=>l2.length - (intOf v4).toNat)
   case atStart=>exact⟨0,y,rfl,Nat.zero_le _,HF,rfl⟩
   case round=>
    clear HF y
    obtain⟨i,y,rfl,hi,HF,rfl⟩:=hrel
    have i0:(0:Int)≤(i:Int):=Int.natCast_nonneg _
    by_cases hlt:i<l2.length
    ·have i1:(i:Int)<(l2.length:Int):=by omega
     obtain⟨g,off,ho,hg,c0,c1⟩:=HL2.out i hlt
     subst ho
     have HF1:=Lib.hid (scan_step hlt HF.out)
     generalize l2[i]=x at *
     have e0:=fun y:WC W0=>y.cell c0
     have e1:=fun y:WC W0=>y.cell c1
     clear HF c0 c1
     have K0:=Lib.hid (HLo.out x.1)
     cases h0:lowB x.1 with
     | true=>
      rw[h0] at K0
      have HR:=Lib.hid ((scan_hit (f:=hMark) (by unfold hMark;simp only[h0];rfl)).symm.trans HF1.out)
      clear HF1
      go_wp2_with fail
      (with_reducible refine Calls.mono (K0.out y) ?_)
      rintro e w' ⟨rfl,y1,rfl⟩
      go_wp2_with fail
      have b3:=(((HA.out.keep (Keep.of_below y1.h (fun _=>False)) (by simp)).set 0 (.int .i64 5)).set 1 (.int .i64 3)).set 2 (.int .i64 i)
      have r0:=b3.cell 0
      have r1:=b3.cell 1
      have r2:=b3.cell 2
      refine bodyPost_ret (v:=.agg #[.int .i64 5,.int .i64 3,.int .i64 i]) (by simp[results,Tryz.results132,go_sem,r0,r1,r2]) rfl ?_
      exact⟨by rw[←HR.out];rfl,set3_below (HB.out.trans (y1.h.mono HB.out.size)) (by omega)⟩
     | false=>
      rw[h0] at K0
      have HF2:=Lib.hid ((scan_miss (f:=hMark) (by unfold hMark;simp only[h0];rfl)).symm.trans HF1.out)
      clear HF1
      go_wp2_with fail
      (with_reducible refine Calls.mono (K0.out y) ?_)
      rintro e w' ⟨rfl,y1,rfl⟩
      go_wp2_with fail
      exact⟨⟨i+1,y1,by go_num,by omega,HF2,by first | rfl | trivial⟩,by simp[intOf];omega⟩
    ·obtain rfl:i=l2.length:=by omega
     have HF0:=Lib.hid (scan_end HF.out)
     clear hi hlt i0 HF
     have HF:=Lib.hid HF0.out
     clear HF0
     go_wp2_with fail
     go_loopw [5] (fun v5 wr=>∃(i:Nat) (y:WC W0),v5=.int .i64 i∧i≤l3.length∧Hid (scan (hPair) (l3.drop i) i (scan hFold l4 0 (scan hLook l5 0 (0,0,0)))=R)∧wr=y.w) (fun v5 _=>l3.length - (intOf v5).toNat)
     case atStart=>exact⟨0,y,rfl,Nat.zero_le _,HF,rfl⟩
     case round=>
      clear HF y
      obtain⟨i,y,rfl,hi,HF,rfl⟩:=hrel
      have i0:(0:Int)≤(i:Int):=Int.natCast_nonneg _
      by_cases hlt:i<l3.length
      ·have i1:(i:Int)<(l3.length:Int):=by omega
       obtain⟨g,off,ho,hg,c0,c1,c2⟩:=HL3.out i hlt
       subst ho
       have HF1:=Lib.hid (scan_step hlt HF.out)
       generalize l3[i]=x at *
       have e0:=fun y:WC W0=>y.cell c0
       have e1:=fun y:WC W0=>y.cell c1
       have e2:=fun y:WC W0=>y.cell c2
       clear HF c0 c1 c2
       have K0:=Lib.hid (HLo.out x.1)
       cases h0:lowB x.1 with
       | true=>
        rw[h0] at K0
        have HR:=Lib.hid ((scan_hit (f:=hPair) (by unfold hPair;simp only[h0];rfl)).symm.trans HF1.out)
        clear HF1
        go_wp2_with fail
        (with_reducible refine Calls.mono (K0.out y) ?_)
        rintro e w' ⟨rfl,y1,rfl⟩
        go_wp2_with fail
        have b3:=(((HA.out.keep (Keep.of_below y1.h (fun _=>False)) (by simp)).set 0 (.int .i64 5)).set 1 (.int .i64 4)).set 2 (.int .i64 i)
        have r0:=b3.cell 0
        have r1:=b3.cell 1
        have r2:=b3.cell 2
        refine bodyPost_ret (v:=.agg #[.int .i64 5,.int .i64 4,.int .i64 i]) (by simp[results,Tryz.results132,go_sem,r0,r1,r2]) rfl ?_
        exact⟨by rw[←HR.out];rfl,set3_below (HB.out.trans (y1.h.mono HB.out.size)) (by omega)⟩
       | false=>
        rw[h0] at K0
        have HF2:=Lib.hid ((scan_miss (f:=hPair) (by unfold hPair;simp only[h0];rfl)).symm.trans HF1.out)
        clear HF1
        go_wp2_with fail
        (with_reducible refine Calls.mono (K0.out y) ?_)
        rintro e w' ⟨rfl,y1,rfl⟩
        go_wp2_with fail
        exact⟨⟨i+1,y1,by go_num,by omega,HF2,by first | rfl | trivial⟩,by simp[intOf];omega⟩
      ·obtain rfl:i=l3.length:=by omega
       have HF0:=Lib.hid (scan_end HF.out)
       clear hi hlt i0 HF
       have HF:=Lib.hid HF0.out
       clear HF0
       go_wp2_with fail
       go_loopw [6] (fun v6 wr=>∃(i:Nat) (y:WC W0),v6=.int .i64 i∧i≤l4.length∧Hid (scan (hFold) (l4.drop i) i (scan hLook l5 0 (0,0,0))=R)∧wr=y.w) (fun v6 _=>l4.length - (intOf v6).toNat)
       case atStart=>exact⟨0,y,rfl,Nat.zero_le _,HF,rfl⟩
       case round=>
        clear HF y
        obtain⟨i,y,rfl,hi,HF,rfl⟩:=hrel
        have i0:(0:Int)≤(i:Int):=Int.natCast_nonneg _
        by_cases hlt:i<l4.length
        ·have i1:(i:Int)<(l4.length:Int):=by omega
         obtain⟨g,off,ho,hg,c0,c1,cz⟩:=HL4.out i hlt
         subst ho
         have HF1:=Lib.hid (scan_step hlt HF.out)
         have K1:=Lib.hid (HSs4.out l4[i].2 (HZ4.out _ (List.getElem_mem hlt)))
         generalize l4[i]=x at *
         have e0:=fun y:WC W0=>y.cell c0
         have e1:=fun y:WC W0=>y.cell c1
         clear HF c0 c1 cz
         have K0:=Lib.hid (HLo.out x.1)
         cases h0:lowB x.1 with
         | false=>
          rw[h0] at K0
          cases h9:setsB x.2 with
          | true=>
           rw[h9] at K1
           have HR:=Lib.hid ((scan_hit (f:=hFold) (by unfold hFold;simp only[h0,h9];rfl)).symm.trans HF1.out)
           clear HF1
           go_wp2_with fail
           (with_reducible refine Calls.mono (K0.out y) ?_)
           rintro e w' ⟨rfl,y1,rfl⟩
           go_wp2_with fail
           (with_reducible refine Calls.mono (K1.out y1) ?_)
           rintro e w' ⟨rfl,y2,rfl⟩
           go_wp2_with fail
           have b3:=(((HA.out.keep (Keep.of_below y2.h (fun _=>False)) (by simp)).set 0 (.int .i64 5)).set 1 (.int .i64 5)).set 2 (.int .i64 i)
           have r0:=b3.cell 0
           have r1:=b3.cell 1
           have r2:=b3.cell 2
           refine bodyPost_ret (v:=.agg #[.int .i64 5,.int .i64 5,.int .i64 i]) (by simp[results,Tryz.results132,go_sem,r0,r1,r2]) rfl ?_
           exact⟨by rw[←HR.out];rfl,set3_below (HB.out.trans (y2.h.mono HB.out.size)) (by omega)⟩
          | false=>
           rw[h9] at K1
           have HF2:=Lib.hid ((scan_miss (f:=hFold) (by unfold hFold;simp only[h0,h9];rfl)).symm.trans HF1.out)
           clear HF1
           go_wp2_with fail
           (with_reducible refine Calls.mono (K0.out y) ?_)
           rintro e w' ⟨rfl,y1,rfl⟩
           go_wp2_with fail
           (with_reducible refine Calls.mono (K1.out y1) ?_)
           rintro e w' ⟨rfl,y2,rfl⟩
           go_wp2_with fail
           exact⟨⟨i+1,y2,by go_num,by omega,HF2,by first | rfl | trivial⟩,by simp[intOf];omega⟩
         | true=>
          rw[h0] at K0
          cases h1:decide (x.1<65) with
          | true=>
           have HR:=Lib.hid ((scan_hit (f:=hFold) (by unfold hFold;simp only[h0,h1];rfl)).symm.trans HF1.out)
           clear HF1
           go_wp2_with fail
           (with_reducible refine Calls.mono (K0.out y) ?_)
           rintro e w' ⟨rfl,y1,rfl⟩
           go_wp2_with fail
           have b3:=(((HA.out.keep (Keep.of_below y1.h (fun _=>False)) (by simp)).set 0 (.int .i64 5)).set 1 (.int .i64 5)).set 2 (.int .i64 i)
           have r0:=b3.cell 0
           have r1:=b3.cell 1
           have r2:=b3.cell 2
           refine bodyPost_ret (v:=.agg #[.int .i64 5,.int .i64 5,.int .i64 i]) (by simp[results,Tryz.results132,go_sem,r0,r1,r2]) rfl ?_
           exact⟨by rw[←HR.out];rfl,set3_below (HB.out.trans (y1.h.mono HB.out.size)) (by omega)⟩
          | false=>
           cases h2:decide (90<x.1) with
           | true=>
            have HR:=Lib.hid ((scan_hit (f:=hFold) (by unfold hFold;simp only[h0,h1,h2];rfl)).symm.trans HF1.out)
            clear HF1
            go_wp2_with fail
            (with_reducible refine Calls.mono (K0.out y) ?_)
            rintro e w' ⟨rfl,y1,rfl⟩
            go_wp2_with fail
            have b3:=(((HA.out.keep (Keep.of_below y1.h (fun _=>False)) (by simp)).set 0 (.int .i64 5)).set 1 (.int .i64 5)).set 2 (.int .i64 i)
            have r0:=b3.cell 0
            have r1:=b3.cell 1
            have r2:=b3.cell 2
            refine bodyPost_ret (v:=.agg #[.int .i64 5,.int .i64 5,.int .i64 i]) (by simp[results,Tryz.results132,go_sem,r0,r1,r2]) rfl ?_
            exact⟨by rw[←HR.out];rfl,set3_below (HB.out.trans (y1.h.mono HB.out.size)) (by omega)⟩
           | false=>
            cases h9:setsB x.2 with
            | true=>
             rw[h9] at K1
             have HR:=Lib.hid ((scan_hit (f:=hFold) (by unfold hFold;simp only[h0,h1,h2,h9];rfl)).symm.trans HF1.out)
             clear HF1
             go_wp2_with fail
             (with_reducible refine Calls.mono (K0.out y) ?_)
             rintro e w' ⟨rfl,y1,rfl⟩
             go_wp2_with fail
             (with_reducible refine Calls.mono (K1.out y1) ?_)
             rintro e w' ⟨rfl,y2,rfl⟩
             go_wp2_with fail
             have b3:=(((HA.out.keep (Keep.of_below y2.h (fun _=>False)) (by simp)).set 0 (.int .i64 5)).set 1 (.int .i64 5)).set 2 (.int .i64 i)
             have r0:=b3.cell 0
             have r1:=b3.cell 1
             have r2:=b3.cell 2
             refine bodyPost_ret (v:=.agg #[.int .i64 5,.int .i64 5,.int .i64 i]) (by simp[results,Tryz.results132,go_sem,r0,r1,r2]) rfl ?_
             exact⟨by rw[←HR.out];rfl,set3_below (HB.out.trans (y2.h.mono HB.out.size)) (by omega)⟩
            | false=>
             rw[h9] at K1
             have HF2:=Lib.hid ((scan_miss (f:=hFold) (by unfold hFold;simp only[h0,h1,h2,h9];rfl)).symm.trans HF1.out)
             clear HF1
             go_wp2_with fail
             (with_reducible refine Calls.mono (K0.out y) ?_)
             rintro e w' ⟨rfl,y1,rfl⟩
             go_wp2_with fail
             (with_reducible refine Calls.mono (K1.out y1) ?_)
             rintro e w' ⟨rfl,y2,rfl⟩
             go_wp2_with fail
             exact⟨⟨i+1,y2,by go_num,by omega,HF2,by first | rfl | trivial⟩,by simp[intOf];omega⟩
        ·obtain rfl:i=l4.length:=by omega
         have HF0:=Lib.hid (scan_end HF.out)
         clear hi hlt i0 HF
         have HF:=Lib.hid HF0.out
         clear HF0
         go_wp2_with fail
         go_loopw [8] (fun v8 wr=>∃(i:Nat) (y:WC W0),v8=.int .i64 i∧i≤l5.length∧Hid (scan (hLook) (l5.drop i) i ((0,0,0))=R)∧wr=y.w) (fun v8 _=>l5.length - (intOf v8).toNat)
         case atStart=>exact⟨0,y,rfl,Nat.zero_le _,HF,rfl⟩
         case round=>
          clear HF y
          obtain⟨i,y,rfl,hi,HF,rfl⟩:=hrel
          have i0:(0:Int)≤(i:Int):=Int.natCast_nonneg _
          by_cases hlt:i<l5.length
          ·have i1:(i:Int)<(l5.length:Int):=by omega
           obtain⟨g,off,ho,hg,c0,c1,cz⟩:=HL5.out i hlt
           subst ho
           have HF1:=Lib.hid (scan_step hlt HF.out)
           have K1:=Lib.hid (HSs4.out l5[i].2 (HZ5.out _ (List.getElem_mem hlt)))
           generalize l5[i]=x at *
           have e0:=fun y:WC W0=>y.cell c0
           have e1:=fun y:WC W0=>y.cell c1
           clear HF c0 c1
           have K0:=Lib.hid (HSe.out x.1)
           cases h0:setB x.1 with
           | true=>
            rw[h0] at K0
            have HR:=Lib.hid ((scan_hit (f:=hLook) (by unfold hLook;simp only[h0];rfl)).symm.trans HF1.out)
            clear HF1
            go_wp2_with fail
            (with_reducible refine Calls.mono (K0.out y) ?_)
            rintro e w' ⟨rfl,y1,rfl⟩
            go_wp2_with fail
            have b3:=(((HA.out.keep (Keep.of_below y1.h (fun _=>False)) (by simp)).set 0 (.int .i64 5)).set 1 (.int .i64 6)).set 2 (.int .i64 i)
            have r0:=b3.cell 0
            have r1:=b3.cell 1
            have r2:=b3.cell 2
            refine bodyPost_ret (v:=.agg #[.int .i64 5,.int .i64 6,.int .i64 i]) (by simp[results,Tryz.results132,go_sem,r0,r1,r2]) rfl ?_
            exact⟨by rw[←HR.out];rfl,set3_below (HB.out.trans (y1.h.mono HB.out.size)) (by omega)⟩
           | false=>
            rw[h0] at K0
            cases h1:setsB x.2 with
            | true=>
             rw[h1] at K1
             have HR:=Lib.hid ((scan_hit (f:=hLook) (by unfold hLook;simp only[h0,h1];rfl)).symm.trans HF1.out)
             clear HF1
             go_wp2_with fail
             (with_reducible refine Calls.mono (K0.out y) ?_)
             rintro e w' ⟨rfl,y1,rfl⟩
             go_wp2_with fail
             (with_reducible refine Calls.mono (K1.out y1) ?_)
             rintro e w' ⟨rfl,y2,rfl⟩
             go_wp2_with fail
             have b3:=(((HA.out.keep (Keep.of_below y2.h (fun _=>False)) (by simp)).set 0 (.int .i64 5)).set 1 (.int .i64 6)).set 2 (.int .i64 i)
             have r0:=b3.cell 0
             have r1:=b3.cell 1
             have r2:=b3.cell 2
             refine bodyPost_ret (v:=.agg #[.int .i64 5,.int .i64 6,.int .i64 i]) (by simp[results,Tryz.results132,go_sem,r0,r1,r2]) rfl ?_
             exact⟨by rw[←HR.out];rfl,set3_below (HB.out.trans (y2.h.mono HB.out.size)) (by omega)⟩
            | false=>
             rw[h1] at K1
             have HF2:=Lib.hid ((scan_miss (f:=hLook) (by unfold hLook;simp only[h0,h1];rfl)).symm.trans HF1.out)
             clear HF1
             go_wp2_with fail
             (with_reducible refine Calls.mono (K0.out y) ?_)
             rintro e w' ⟨rfl,y1,rfl⟩
             go_wp2_with fail
             (with_reducible refine Calls.mono (K1.out y1) ?_)
             rintro e w' ⟨rfl,y2,rfl⟩
             go_wp2_with fail
             exact⟨⟨i+1,y2,by go_num,by omega,HF2,by first | rfl | trivial⟩,by simp[intOf];omega⟩
          ·obtain rfl:i=l5.length:=by omega
           have HF0:=Lib.hid (scan_end HF.out)
           clear hi hlt i0 HF
           have HF:=Lib.hid HF0.out
           clear HF0
           have HR:=Lib.hid HF.out
           go_wp2_with fail
           have b3:=(((HA.out.keep (Keep.of_below y.h (fun _=>False)) (by simp)).set 0 (.int .i64 0)).set 1 (.int .i64 0)).set 2 (.int .i64 0)
           have r0:=b3.cell 0
           have r1:=b3.cell 1
           have r2:=b3.cell 2
           refine bodyPost_ret (v:=.agg #[.int .i64 0,.int .i64 0,.int .i64 0]) (by simp[results,Tryz.results132,go_sem,r0,r1,r2]) rfl ?_
           exact⟨by rw[←HR.out];rfl,set3_below (HB.out.trans (y.h.mono HB.out.size)) (by omega)⟩
end Go.Proofs.YtioehfhdoohdmaaGreatDoor
