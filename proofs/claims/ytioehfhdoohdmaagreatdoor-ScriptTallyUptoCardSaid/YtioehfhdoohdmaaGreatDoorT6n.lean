/- guiseref6.house, walked. Printed by gen_house6.py. -/
import Derived.Test.YtioehfhdoohdmaaGreatDoorTabA
import Derived.Test.YtioehfhdoohdmaaGreatDoorT6P
import Derived.Test.YtioehfhdoohdmaaGreatDoorT6l
set_option linter.unusedVariables false
set_option linter.unusedSimpArgs false
namespace Go.Proofs.YtioehfhdoohdmaaGreatDoor
open Go.RowKit Go.Shelf BigFrame
set_option maxRecDepth 100000 in
set_option maxHeartbeats 40000000 in
theorem house_any (T:Tab) (a:TAddr) (W:World) (h:TabAt W T a) (hs:TabSmall T):Calls Tryz.prog 82 #[.agg (tabCells T a)] W fun e w'=>e=.returned (wV (houseW T))∧Below W.heap.size W w':=by
 obtain⟨l0,l1,l2,l3,l4,l5,l6,l7⟩:=T
 obtain⟨o0,o1,o2,o3,o4,o5,o6,o7,c0,c1,c2,c3,c4,c5,c6,c7⟩:=a
 obtain⟨hT,HTb,bA,hB,hz⟩:=box2 h
 obtain⟨W0,hW0⟩:∃W0,(W.alloc (.cells #[.slice o0 l0.length c0,.slice o1 l1.length c1,.slice o2 l2.length c2,.slice o3 l3.length c3,.slice o4 l4.length c4,.slice o5 l5.length c5,.slice o6 l6.length c6,.slice o7 l7.length c7] 28)).alloc (.cells #[.int .i64 0,.int .i64 0,.int .i64 0] 100)=W0:=⟨_,rfl⟩
 simp only[tabCells] at hT HTb hB hz bA ⊢
 rw[hW0] at hT HTb hB hz bA
 have HW0:=Lib.hid hW0
 have HB:=Lib.hid hB
 have HZ:=Lib.hid hz
 have HA:=Lib.hid bA
 have a0:∀y:WC W0,y.w.cell? ⟨W.heap.size+1,0,none⟩=some (.int .i64 0):=WC.cell (bA.cell 0)
 have f0:∀y:WC W0,y.w.frozen? ⟨W.heap.size+1,0,none⟩=false:=WC.frozen (bA.cell 0) (bA.frozen 0)
 have a1:∀y:WC W0,y.w.cell? ⟨W.heap.size+1,1,none⟩=some (.int .i64 0):=WC.cell (bA.cell 1)
 have f1:∀y:WC W0,y.w.frozen? ⟨W.heap.size+1,1,none⟩=false:=WC.frozen (bA.cell 1) (bA.frozen 1)
 have a2:∀y:WC W0,y.w.cell? ⟨W.heap.size+1,2,none⟩=some (.int .i64 0):=WC.cell (bA.cell 2)
 have f2:∀y:WC W0,y.w.frozen? ⟨W.heap.size+1,2,none⟩=false:=WC.frozen (bA.cell 2) (bA.frozen 2)
 have t0:∀y:WC W0,y.w.cell? ⟨W.heap.size,0,none⟩=some (.slice o0 l0.length c0):=WC.cell (HTb 0 (.slice o0 l0.length c0) rfl)
 have m0:l0.length≤9223372036854775807:=hT.m0
 have HL0:=Lib.hid hT.scripts
 have t1:∀y:WC W0,y.w.cell? ⟨W.heap.size,1,none⟩=some (.slice o1 l1.length c1):=WC.cell (HTb 1 (.slice o1 l1.length c1) rfl)
 have m1:l1.length≤9223372036854775807:=hT.m1
 have HL1:=Lib.hid hT.common
 have t2:∀y:WC W0,y.w.cell? ⟨W.heap.size,2,none⟩=some (.slice o2 l2.length c2):=WC.cell (HTb 2 (.slice o2 l2.length c2) rfl)
 have m2:l2.length≤9223372036854775807:=hT.m2
 have HL2:=Lib.hid hT.marks
 have t3:∀y:WC W0,y.w.cell? ⟨W.heap.size,3,none⟩=some (.slice o3 l3.length c3):=WC.cell (HTb 3 (.slice o3 l3.length c3) rfl)
 have m3:l3.length≤9223372036854775807:=hT.m3
 have HL3:=Lib.hid hT.pairs
 have t4:∀y:WC W0,y.w.cell? ⟨W.heap.size,4,none⟩=some (.slice o4 l4.length c4):=WC.cell (HTb 4 (.slice o4 l4.length c4) rfl)
 have m4:l4.length≤9223372036854775807:=hT.m4
 have HL4:=Lib.hid hT.folds
 have t5:∀y:WC W0,y.w.cell? ⟨W.heap.size,5,none⟩=some (.slice o5 l5.length c5):=WC.cell (HTb 5 (.slice o5 l5.length c5) rfl)
 have m5:l5.length≤9223372036854775807:=hT.m5
 have HL5:=Lib.hid hT.looks
 have t6:∀y:WC W0,y.w.cell? ⟨W.heap.size,6,none⟩=some (.slice o6 l6.length c6):=WC.cell (HTb 6 (.slice o6 l6.length c6) rfl)
 have m6:l6.length≤9223372036854775807:=hT.m6
 have HL6:=Lib.hid hT.drops
 have t7:∀y:WC W0,y.w.cell? ⟨W.heap.size,7,none⟩=some (.slice o7 l7.length c7):=WC.cell (HTb 7 (.slice o7 l7.length c7) rfl)
 have m7:l7.length≤9223372036854775807:=hT.m7
 have HL7:=Lib.hid hT.allowed
 have HO:Hid (∀(r:Int) (y:WC W0),Calls Tryz.prog 93 #[.int .i32 r,.slice o7 l7.length c7] y.w fun e w'=>e=.returned (.bool (ofB r l7))∧∃z:WC W0,w'=z.w):=Lib.hid (fun r y=>WC.same (of_any r o7 c7 l7 y.w (hT.allowed.below y.h) hT.m7))
 have HRw:Hid (∀(y:WC W0),Calls Tryz.prog 132 #[.agg #[.slice o0 l0.length c0,.slice o1 l1.length c1,.slice o2 l2.length c2,.slice o3 l3.length c3,.slice o4 l4.length c4,.slice o5 l5.length c5,.slice o6 l6.length c6,.slice o7 l7.length c7]] y.w fun e w'=>e=.returned (wV (rowsW ⟨l0,l1,l2,l3,l4,l5,l6,l7⟩))∧Below y.w.heap.size y.w w'):=Lib.hid (fun y=>rows_any ⟨l0,l1,l2,l3,l4,l5,l6,l7⟩ ⟨o0,o1,o2,o3,o4,o5,o6,o7,c0,c1,c2,c3,c4,c5,c6,c7⟩ y.w (hT.below y.h) hs)
 unfold wV at HRw
 clear hs
 clear hT HTb hB hz h hW0 bA
 obtain⟨R,hR⟩:∃R,houseW ⟨l0,l1,l2,l3,l4,l5,l6,l7⟩=R:=⟨_,rfl⟩
 rw[hR]
 unfold houseW at hR
 dsimp only at hR
 have HF:=Lib.hid hR
 clear hR
 generalize rowsW ⟨l0,l1,l2,l3,l4,l5,l6,l7⟩=x1 at *
 go_enter Tryz.func82,Tryz.ntmps82
 go_wp2_with fail
 rw[HW0.out]
 clear HW0
 obtain⟨y,hy⟩:∃y:WC W0,y.w=W0:=⟨WC.of W0,rfl⟩
 rw[←hy]
 clear hy
 go_wp2_with fail
 (with_reducible refine Calls.mono (HRw.out y) ?_)
 rintro e w' ⟨rfl,hBk⟩
 have hB1:Below W0.heap.size W0 (w'.alloc (.cells #[.int .i64 x1.1,.int .i64 x1.2.1,.int .i64 x1.2.2] 100)):=(y.h.trans (hBk.mono y.h.size)).alloc (Nat.le_trans y.h.size hBk.size) _
 have bW1:=Blk.new' w' #[.int .i64 x1.1,.int .i64 x1.2.1,.int .i64 x1.2.2] 100
 have hb1:W0.heap.size≤w'.heap.size:=Nat.le_trans y.h.size hBk.size
 go_upto_if 12 with fail
 obtain⟨b,hb⟩:∃b,w'.heap.size=b:=⟨_,rfl⟩
 rw[hb] at bW1 hb1 ⊢
 obtain⟨y,hy⟩:∃y:WC W0,y.w=w'.alloc (.cells #[.int .i64 x1.1,.int .i64 x1.2.1,.int .i64 x1.2.2] 100):=⟨⟨w'.alloc (.cells #[.int .i64 x1.1,.int .i64 x1.2.1,.int .i64 x1.2.2] 100),hB1⟩,rfl⟩
 rw[←hy]
 rw[←hy] at bW1
 clear hB1 hy
 have q0:=bW1.cell 0
 have p0:=bW1.frozen 0
 have q1:=bW1.cell 1
 have p1:=bW1.frozen 1
 have q2:=bW1.cell 2
 have p2:=bW1.frozen 2
 dsimp only[List.getElem?_cons_zero,List.getElem?_cons_succ] at q0 q1 q2
 clear hb hBk
 by_cases g1:x1.1=0
 ·have d1:(x1.1 != 0)=false:=by simpa using g1
  have HF1:=Lib.hid ((orK_no g1).symm.trans HF.out)
  clear g1 HF
  have HF:=Lib.hid HF1.out
  clear HF1
  go_wp2_with fail
  try simp only[d1]
  clear d1 bW1 q0 q1 q2 p0 p1 p2 hb1
  go_loopw [4] (fun v4 wr=>∃(i:Nat),v4=.int .i64 i∧i≤l6.length∧Hid (scan hDrop (l6.drop i) i (scan hAllow l7 0 (scan (alM l7) letR 0 (0,0,0)))=R)∧wr=y.w) (fun v4 _=>l6.length - (intOf v4).toNat)
  case atStart=>exact⟨0,rfl,Nat.zero_le _,HF,by first | rfl | trivial⟩
  case round=>
   clear HF
   obtain⟨i,rfl,hi,HF,rfl⟩:=hrel
   have i0:(0:Int)≤(i:Int):=Int.natCast_nonneg _
   by_cases hlt:i<l6.length
   ·have i1:(i:Int)<(l6.length:Int):=by omega
    obtain⟨g,off,ho,hg,c0,c1⟩:=HL6.out i hlt
    subst ho
    have HF1:=Lib.hid (scan_step hlt HF.out)
    generalize l6[i]=x at *
    have e0:=fun y:WC W0=>y.cell c0
    have e1:=fun y:WC W0=>y.cell c1
    clear HF c0 c1
    cases h0:decide (x.1<128) with
    | true=>
     have HR:=Lib.hid ((scan_hit (f:=hDrop) (by unfold hDrop;simp only[h0];rfl)).symm.trans HF1.out)
     clear HF1
     go_wp2_with fail
     have b3:=(((HA.out.keep (Keep.of_below y.h (fun _=>False)) (by simp)).set 0 (.int .i64 5)).set 1 (.int .i64 7)).set 2 (.int .i64 i)
     have r0:=b3.cell 0
     have r1:=b3.cell 1
     have r2:=b3.cell 2
     refine bodyPost_ret (v:=.agg #[.int .i64 5,.int .i64 7,.int .i64 i]) (by simp[results,Tryz.results82,go_sem,r0,r1,r2]) rfl ?_
     exact⟨by rw[←HR.out];rfl,set3_below (HB.out.trans (y.h.mono HB.out.size)) (by omega)⟩
    | false=>
     cases h1:decide (x.1≤65533) with
     | false=>
      have HF2:=Lib.hid ((scan_miss (f:=hDrop) (by unfold hDrop;simp only[h0,h1];rfl)).symm.trans HF1.out)
      clear HF1
      go_wp2_with fail
      exact⟨⟨i+1,by go_num,by omega,HF2,by first | rfl | trivial⟩,by simp[intOf];omega⟩
     | true=>
      cases h2:decide (65533≤x.2) with
      | true=>
       have HR:=Lib.hid ((scan_hit (f:=hDrop) (by unfold hDrop;simp only[h0,h1,h2];rfl)).symm.trans HF1.out)
       clear HF1
       go_wp2_with fail
       have b3:=(((HA.out.keep (Keep.of_below y.h (fun _=>False)) (by simp)).set 0 (.int .i64 5)).set 1 (.int .i64 7)).set 2 (.int .i64 i)
       have r0:=b3.cell 0
       have r1:=b3.cell 1
       have r2:=b3.cell 2
       refine bodyPost_ret (v:=.agg #[.int .i64 5,.int .i64 7,.int .i64 i]) (by simp[results,Tryz.results82,go_sem,r0,r1,r2]) rfl ?_
       exact⟨by rw[←HR.out];rfl,set3_below (HB.out.trans (y.h.mono HB.out.size)) (by omega)⟩
      | false=>
       have HF2:=Lib.hid ((scan_miss (f:=hDrop) (by unfold hDrop;simp only[h0,h1,h2];rfl)).symm.trans HF1.out)
       clear HF1
       go_wp2_with fail
       exact⟨⟨i+1,by go_num,by omega,HF2,by first | rfl | trivial⟩,by simp[intOf];omega⟩
   ·obtain rfl:i=l6.length:=by omega
    have HF0:=Lib.hid (scan_end HF.out)
    clear hi hlt i0 HF
    have HF:=Lib.hid HF0.out
    clear HF0
    go_wp2_with fail
    go_loopw [5] (fun v5 wr=>∃(i:Nat),v5=.int .i64 i∧i≤l7.length∧Hid (scan hAllow (l7.drop i) i (scan (alM l7) letR 0 (0,0,0))=R)∧wr=y.w) (fun v5 _=>l7.length - (intOf v5).toNat)
    case atStart=>exact⟨0,rfl,Nat.zero_le _,HF,by first | rfl | trivial⟩
    case round=>
     clear HF
     obtain⟨i,rfl,hi,HF,rfl⟩:=hrel
     have i0:(0:Int)≤(i:Int):=Int.natCast_nonneg _
     by_cases hlt:i<l7.length
     ·have i1:(i:Int)<(l7.length:Int):=by omega
      obtain⟨g,off,ho,hg,c0,c1⟩:=HL7.out i hlt
      subst ho
      have HF1:=Lib.hid (scan_step hlt HF.out)
      generalize l7[i]=x at *
      have e0:=fun y:WC W0=>y.cell c0
      have e1:=fun y:WC W0=>y.cell c1
      clear HF c0 c1
      obtain⟨F0,hF0⟩:∃F0:Bool,alGo x.2 (128 - x.1).toNat x.1=F0:=⟨_,rfl⟩
      have HG:=Lib.hid hF0
      have hm:hAllow x i=if F0 then some (5,8,(i:Int)) else none:=by unfold hAllow;rw[hF0]
      have HM:=Lib.hid hm
      clear hF0 hm
      go_wp2_with fail
      go_loopw [6] (fun v6 wr=>∃(r:Int) (n:Nat),v6=.int .i32 r∧n=(128 - r).toNat∧Hid (alGo x.2 n r=F0)∧wr=y.w) (fun v6 _=>(128 - intOf v6).toNat)
      case atStart=>exact⟨x.1,_,rfl,rfl,HG,by first | rfl | trivial⟩
      case round=>
       clear HG
       obtain⟨r,n,rfl,hn,HG,rfl⟩:=hrel
       cases h0:decide (r≤x.2) with
       | false=>
        have hF:F0=false:=by rw[←HG.out];cases n with
         | zero=>rfl
         | succ n=>rw[alGo,if_neg (by simp at h0;omega)]
        have HF2:=Lib.hid ((scan_miss (HM.out.trans (by rw[hF];rfl))).symm.trans HF1.out)
        clear hF HG HM HF1 hn
        go_wp2_with fail
        exact⟨⟨i+1,by go_num,by omega,HF2,by first | rfl | trivial⟩,by simp[intOf];omega⟩
       | true=>
        cases h1:decide (r<128) with
        | false=>
         have hF:F0=false:=by rw[←HG.out];cases n with
          | zero=>rfl
          | succ n=>rw[alGo,if_neg (by simp at h1;omega)]
         have HF2:=Lib.hid ((scan_miss (HM.out.trans (by rw[hF];rfl))).symm.trans HF1.out)
         clear hF HG HM HF1 hn
         go_wp2_with fail
         exact⟨⟨i+1,by go_num,by omega,HF2,by first | rfl | trivial⟩,by simp[intOf];omega⟩
        | true=>
         have hr2:r<128:=of_decide_eq_true h1
         obtain⟨n,rfl⟩:∃m,n=m+1:=⟨n - 1,by omega⟩
         have HN2:Hid (n=(128 - (r+1)).toNat):=Lib.hid (by omega)
         have HM2:Hid ((128 - (r+1)).toNat<(128 - r).toNat):=Lib.hid (by omega)
         clear hn
         cases h2:r != 45 with
         | false=>
          have hr3:45≤r:=by simp at h2;omega
          have HG2:Hid (alGo x.2 n (r+1)=F0):=Lib.hid (by rw[←HG.out,alGo,if_pos ⟨of_decide_eq_true h0,of_decide_eq_true h1⟩,if_pos (by simp at h2;subst h2;rfl)])
          clear HG
          go_wp2_with fail
          exact⟨⟨r+1,n,by go_num,HN2.out,HG2,by first | rfl | trivial⟩,by have:=HM2.out;simpa [intOf] using this⟩
         | true=>
          cases h3:decide (r<48) with
          | true=>
           have h5:decide (r<97)=true:=by simp at h3 ⊢;omega
           have hF:F0=true:=by rw[←HG.out,alGo,if_pos ⟨of_decide_eq_true h0,of_decide_eq_true h1⟩,if_neg (by simp at h2 h3;simp[letB,h2];omega)]
           have HR:=Lib.hid ((scan_hit (HM.out.trans (by rw[hF];rfl))).symm.trans HF1.out)
           clear hF HG HM HF1
           go_wp2_with fail
           have b3:=(((HA.out.keep (Keep.of_below y.h (fun _=>False)) (by simp)).set 0 (.int .i64 5)).set 1 (.int .i64 8)).set 2 (.int .i64 i)
           have r0:=b3.cell 0
           have r1:=b3.cell 1
           have r2:=b3.cell 2
           refine bodyPost_ret (v:=.agg #[.int .i64 5,.int .i64 8,.int .i64 i]) (by simp[results,Tryz.results82,go_sem,r0,r1,r2]) rfl ?_
           exact⟨by rw[←HR.out];rfl,set3_below (HB.out.trans (y.h.mono HB.out.size)) (by omega)⟩
          | false=>
           cases h4:decide (57<r) with
           | false=>
            have hr3:45≤r:=by simp at h3;omega
            have HG2:Hid (alGo x.2 n (r+1)=F0):=Lib.hid (by rw[←HG.out,alGo,if_pos ⟨of_decide_eq_true h0,of_decide_eq_true h1⟩,if_pos (by simp at h3 h4;simp[letB];omega)])
            clear HG
            go_wp2_with fail
            exact⟨⟨r+1,n,by go_num,HN2.out,HG2,by first | rfl | trivial⟩,by have:=HM2.out;simpa [intOf] using this⟩
           | true=>
            cases h5:decide (r<97) with
            | true=>
             have hF:F0=true:=by rw[←HG.out,alGo,if_pos ⟨of_decide_eq_true h0,of_decide_eq_true h1⟩,if_neg (by simp at h2 h4 h5;simp[letB,h2];omega)]
             have HR:=Lib.hid ((scan_hit (HM.out.trans (by rw[hF];rfl))).symm.trans HF1.out)
             clear hF HG HM HF1
             go_wp2_with fail
             have b3:=(((HA.out.keep (Keep.of_below y.h (fun _=>False)) (by simp)).set 0 (.int .i64 5)).set 1 (.int .i64 8)).set 2 (.int .i64 i)
             have r0:=b3.cell 0
             have r1:=b3.cell 1
             have r2:=b3.cell 2
             refine bodyPost_ret (v:=.agg #[.int .i64 5,.int .i64 8,.int .i64 i]) (by simp[results,Tryz.results82,go_sem,r0,r1,r2]) rfl ?_
             exact⟨by rw[←HR.out];rfl,set3_below (HB.out.trans (y.h.mono HB.out.size)) (by omega)⟩
            | false=>
             cases h6:decide (122<r) with
             | true=>
              have hF:F0=true:=by rw[←HG.out,alGo,if_pos ⟨of_decide_eq_true h0,of_decide_eq_true h1⟩,if_neg (by simp at h2 h4 h5 h6;simp[letB,h2];omega)]
              have HR:=Lib.hid ((scan_hit (HM.out.trans (by rw[hF];rfl))).symm.trans HF1.out)
              clear hF HG HM HF1
              go_wp2_with fail
              have b3:=(((HA.out.keep (Keep.of_below y.h (fun _=>False)) (by simp)).set 0 (.int .i64 5)).set 1 (.int .i64 8)).set 2 (.int .i64 i)
              have r0:=b3.cell 0
              have r1:=b3.cell 1
              have r2:=b3.cell 2
              refine bodyPost_ret (v:=.agg #[.int .i64 5,.int .i64 8,.int .i64 i]) (by simp[results,Tryz.results82,go_sem,r0,r1,r2]) rfl ?_
              exact⟨by rw[←HR.out];rfl,set3_below (HB.out.trans (y.h.mono HB.out.size)) (by omega)⟩
             | false=>
              have hr3:45≤r:=by simp at h5;omega
              have HG2:Hid (alGo x.2 n (r+1)=F0):=Lib.hid (by rw[←HG.out,alGo,if_pos ⟨of_decide_eq_true h0,of_decide_eq_true h1⟩,if_pos (by simp at h5 h6;simp[letB];omega)])
              clear HG
              go_wp2_with fail
              exact⟨⟨r+1,n,by go_num,HN2.out,HG2,by first | rfl | trivial⟩,by have:=HM2.out;simpa [intOf] using this⟩
     ·obtain rfl:i=l7.length:=by omega
      have HF0:=Lib.hid (scan_end HF.out)
      clear hi hlt i0 HF
      have HF:=Lib.hid HF0.out
      clear HF0
      go_wp2_with fail
      go_loopw [7] (fun v7 wr=>∃(i:Nat) (y:WC W0),v7=.int .i32 (45+(i:Int))∧i≤78∧Hid (scan (alM l7) (letR.drop i) i ((0,0,0))=R)∧wr=y.w) (fun v7 _=>123 - (intOf v7).toNat)
      case atStart=>exact⟨0,y,rfl,Nat.zero_le _,HF,rfl⟩
      case round=>
       clear HF
       obtain⟨i,y,rfl,hi,HF,rfl⟩:=hrel
       by_cases hlt:i<78
       ·have hll:i<letR.length:=by rw[letR_len];exact hlt
        have HF1:=Lib.hid (scan_step hll HF.out)
        rw[letR_at hll] at HF1
        have i1:(45:Int)+(i:Int)≤122:=by omega
        have i0:(45:Int)≤45+(i:Int):=by omega
        clear HF hll
        obtain⟨r,hr⟩:∃r,45+(i:Int)=r:=⟨_,rfl⟩
        rw[hr] at HF1 i1 i0 ⊢
        have HR0:=Lib.hid hr
        clear hr
        cases h2:r == 45 with
        | true=>
         have hl:letB r=true:=by simp at h2;subst h2;rfl
         have K0:=Lib.hid (HO.out r)
         cases h9:ofB r l7 with
         | true=>
          rw[h9] at K0
          have HF2:=Lib.hid ((scan_miss (f:=alM l7) (by unfold alM;simp only[hl,h9];rfl)).symm.trans HF1.out)
          clear HF1
          go_wp2_with fail
          (with_reducible refine Calls.mono (K0.out y) ?_)
          rintro e w' ⟨rfl,y1,rfl⟩
          go_wp2_with fail
          have hr1:r+1=45+((i+1:Nat):Int):=by have:=HR0.out;omega
          exact⟨⟨i+1,y1,by rw[hr1],by omega,HF2,by first | rfl | trivial⟩,by have:=HR0.out;simp[intOf];omega⟩
         | false=>
          rw[h9] at K0
          have HR:=Lib.hid ((scan_hit (f:=alM l7) (by unfold alM;simp only[hl,h9];rfl)).symm.trans HF1.out)
          clear HF1
          go_wp2_with fail
          (with_reducible refine Calls.mono (K0.out y) ?_)
          rintro e w' ⟨rfl,y1,rfl⟩
          go_wp2_with fail
          have b3:=(((HA.out.keep (Keep.of_below y1.h (fun _=>False)) (by simp)).set 0 (.int .i64 5)).set 1 (.int .i64 8)).set 2 (.int .i64 0)
          have r0:=b3.cell 0
          have r1:=b3.cell 1
          have r2:=b3.cell 2
          refine bodyPost_ret (v:=.agg #[.int .i64 5,.int .i64 8,.int .i64 0]) (by simp[results,Tryz.results82,go_sem,r0,r1,r2]) rfl ?_
          exact⟨by rw[←HR.out];rfl,set3_below (HB.out.trans (y1.h.mono HB.out.size)) (by omega)⟩
        | false=>
         cases h3:decide (48≤r) with
         | false=>
          have h5:decide (97≤r)=false:=by simp at h3 ⊢;omega
          have hl:letB r=false:=by simp at h2 h3 h5;simp[letB,h2];omega
          have HF2:=Lib.hid ((scan_miss (f:=alM l7) (by unfold alM;simp only[hl];rfl)).symm.trans HF1.out)
          clear HF1
          go_wp2_with fail
          have hr1:r+1=45+((i+1:Nat):Int):=by have:=HR0.out;omega
          exact⟨⟨i+1,y,by rw[hr1],by omega,HF2,by first | rfl | trivial⟩,by have:=HR0.out;simp[intOf];omega⟩
         | true=>
          cases h4:decide (r≤57) with
          | true=>
           have hl:letB r=true:=by simp at h3 h4;simp[letB];omega
           have K0:=Lib.hid (HO.out r)
           cases h9:ofB r l7 with
           | true=>
            rw[h9] at K0
            have HF2:=Lib.hid ((scan_miss (f:=alM l7) (by unfold alM;simp only[hl,h9];rfl)).symm.trans HF1.out)
            clear HF1
            go_wp2_with fail
            (with_reducible refine Calls.mono (K0.out y) ?_)
            rintro e w' ⟨rfl,y1,rfl⟩
            go_wp2_with fail
            have hr1:r+1=45+((i+1:Nat):Int):=by have:=HR0.out;omega
            exact⟨⟨i+1,y1,by rw[hr1],by omega,HF2,by first | rfl | trivial⟩,by have:=HR0.out;simp[intOf];omega⟩
           | false=>
            rw[h9] at K0
            have HR:=Lib.hid ((scan_hit (f:=alM l7) (by unfold alM;simp only[hl,h9];rfl)).symm.trans HF1.out)
            clear HF1
            go_wp2_with fail
            (with_reducible refine Calls.mono (K0.out y) ?_)
            rintro e w' ⟨rfl,y1,rfl⟩
            go_wp2_with fail
            have b3:=(((HA.out.keep (Keep.of_below y1.h (fun _=>False)) (by simp)).set 0 (.int .i64 5)).set 1 (.int .i64 8)).set 2 (.int .i64 0)
            have r0:=b3.cell 0
            have r1:=b3.cell 1
            have r2:=b3.cell 2
            refine bodyPost_ret (v:=.agg #[.int .i64 5,.int .i64 8,.int .i64 0]) (by simp[results,Tryz.results82,go_sem,r0,r1,r2]) rfl ?_
            exact⟨by rw[←HR.out];rfl,set3_below (HB.out.trans (y1.h.mono HB.out.size)) (by omega)⟩
          | false=>
           cases h5:decide (97≤r) with
           | true=>
            have hl:letB r=true:=by simp at h5;simp[letB];omega
            have K0:=Lib.hid (HO.out r)
            cases h9:ofB r l7 with
            | true=>
             rw[h9] at K0
             have HF2:=Lib.hid ((scan_miss (f:=alM l7) (by unfold alM;simp only[hl,h9];rfl)).symm.trans HF1.out)
             clear HF1
             go_wp2_with fail
             (with_reducible refine Calls.mono (K0.out y) ?_)
             rintro e w' ⟨rfl,y1,rfl⟩
             go_wp2_with fail
             have hr1:r+1=45+((i+1:Nat):Int):=by have:=HR0.out;omega
             exact⟨⟨i+1,y1,by rw[hr1],by omega,HF2,by first | rfl | trivial⟩,by have:=HR0.out;simp[intOf];omega⟩
            | false=>
             rw[h9] at K0
             have HR:=Lib.hid ((scan_hit (f:=alM l7) (by unfold alM;simp only[hl,h9];rfl)).symm.trans HF1.out)
             clear HF1
             go_wp2_with fail
             (with_reducible refine Calls.mono (K0.out y) ?_)
             rintro e w' ⟨rfl,y1,rfl⟩
             go_wp2_with fail
             have b3:=(((HA.out.keep (Keep.of_below y1.h (fun _=>False)) (by simp)).set 0 (.int .i64 5)).set 1 (.int .i64 8)).set 2 (.int .i64 0)
             have r0:=b3.cell 0
             have r1:=b3.cell 1
             have r2:=b3.cell 2
             refine bodyPost_ret (v:=.agg #[.int .i64 5,.int .i64 8,.int .i64 0]) (by simp[results,Tryz.results82,go_sem,r0,r1,r2]) rfl ?_
             exact⟨by rw[←HR.out];rfl,set3_below (HB.out.trans (y1.h.mono HB.out.size)) (by omega)⟩
           | false=>
            have hl:letB r=false:=by simp at h2 h3 h4 h5;simp[letB,h2];omega
            have HF2:=Lib.hid ((scan_miss (f:=alM l7) (by unfold alM;simp only[hl];rfl)).symm.trans HF1.out)
            clear HF1
            go_wp2_with fail
            have hr1:r+1=45+((i+1:Nat):Int):=by have:=HR0.out;omega
            exact⟨⟨i+1,y,by rw[hr1],by omega,HF2,by first | rfl | trivial⟩,by have:=HR0.out;simp[intOf];omega⟩
       ·obtain rfl:i=78:=by omega
        rw[show (45:Int)+((78:Nat):Int)=123 from rfl]
        have HF0:Hid ((0,0,0)=R):=Lib.hid (scan_end (by have:=HF.out;rwa [←letR_len] at this))
        clear hi hlt HF
        have HF:=Lib.hid HF0.out
        clear HF0
        have HR:=Lib.hid HF.out
        go_wp2_with fail
        have b3:=(((HA.out.keep (Keep.of_below y.h (fun _=>False)) (by simp)).set 0 (.int .i64 0)).set 1 (.int .i64 0)).set 2 (.int .i64 0)
        have r0:=b3.cell 0
        have r1:=b3.cell 1
        have r2:=b3.cell 2
        refine bodyPost_ret (v:=.agg #[.int .i64 0,.int .i64 0,.int .i64 0]) (by simp[results,Tryz.results82,go_sem,r0,r1,r2]) rfl ?_
        exact⟨by rw[←HR.out];rfl,set3_below (HB.out.trans (y.h.mono HB.out.size)) (by omega)⟩
 ·have d1:(x1.1 != 0)=true:=by simpa using g1
  have HR:=Lib.hid ((orK_yes g1).symm.trans HF.out)
  clear g1 HF
  go_wp2_with fail
  have b3:=(((HA.out.keep (Keep.of_below y.h (fun _=>False)) (by simp)).set 0 (.int .i64 x1.1)).set 1 (.int .i64 x1.2.1)).set 2 (.int .i64 x1.2.2)
  have r0:=b3.cell 0
  have r1:=b3.cell 1
  have r2:=b3.cell 2
  refine bodyPost_ret (v:=.agg #[.int .i64 x1.1,.int .i64 x1.2.1,.int .i64 x1.2.2]) (by simp[results,Tryz.results82,go_sem,r0,r1,r2]) rfl ?_
  exact⟨by rw[←HR.out];rfl,set3_below (HB.out.trans (y.h.mono HB.out.size)) (by omega)⟩
end Go.Proofs.YtioehfhdoohdmaaGreatDoor
