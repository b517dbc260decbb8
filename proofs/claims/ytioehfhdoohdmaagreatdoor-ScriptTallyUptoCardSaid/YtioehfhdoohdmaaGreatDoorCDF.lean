/- CDF: CDropsM, CFroms, CLong, CChains. -/
import Derived.Test.YtioehfhdoohdmaaGreatDoorChkA
set_option linter.unusedVariables false
set_option linter.unusedSimpArgs false
namespace Go.Proofs.YtioehfhdoohdmaaGreatDoor
open Go.RowKit Go.Shelf BigFrame
set_option maxRecDepth 100000 in
set_option maxHeartbeats 40000000 in
theorem cdrops_any (T:Tab) (a:TAddr) (M:MAddr) (W:World) (h:ChkAt W M T a) (hok:SpOk T.drops) (hm6:T.drops.length≤1048576):Calls Tryz.prog 71 #[.pointer (some ⟨M.bc,0,none⟩)] W fun e w'=>e=.returned (wV (dropsW T))∧Below W.heap.size W w':=by
 obtain⟨l0,l1,l2,l3,l4,l5,l6,l7⟩:=T
 obtain⟨o0,o1,o2,o3,o4,o5,o6,o7,c0,c1,c2,c3,c4,c5,c6,c7⟩:=a
 obtain⟨bc,bb,m1,m2,m3,m4,m5⟩:=M
 have hB1:Below W.heap.size W (W.alloc (.cells #[.pointer (some ⟨bc,0,none⟩)] 144)):=(Below.refl _ W).alloc (Nat.le_refl _) _
 have hB:Below W.heap.size W ((W.alloc (.cells #[.pointer (some ⟨bc,0,none⟩)] 144)).alloc (.cells #[.int .i64 0,.int .i64 0,.int .i64 0] 100)):=hB1.alloc hB1.size _
 have bA:=Blk.new' (W.alloc (.cells #[.pointer (some ⟨bc,0,none⟩)] 144)) #[.int .i64 0,.int .i64 0,.int .i64 0] 100
 rw[show (W.alloc (.cells #[.pointer (some ⟨bc,0,none⟩)] 144)).heap.size=W.heap.size+1 by simp] at bA
 have bP:=(Blk.new' W #[.pointer (some ⟨bc,0,none⟩)] 144).alloc (.cells #[.int .i64 0,.int .i64 0,.int .i64 0] 100)
 have hC:=h.below hB
 obtain⟨W0,hW0⟩:∃W0,(W.alloc (.cells #[.pointer (some ⟨bc,0,none⟩)] 144)).alloc (.cells #[.int .i64 0,.int .i64 0,.int .i64 0] 100)=W0:=⟨_,rfl⟩
 rw[hW0] at hB bA hC bP
 have HW0:=Lib.hid hW0
 have HB:=Lib.hid hB
 have HA:=Lib.hid bA
 have HZ:Hid (W.heap.size+1<W0.heap.size):=Lib.hid bA.lt
 have hT:=hC.tab
 have a0:∀y:WC W0,y.w.cell? ⟨W.heap.size+1,0,none⟩=some (.int .i64 0):=WC.cell (bA.cell 0)
 have f0:∀y:WC W0,y.w.frozen? ⟨W.heap.size+1,0,none⟩=false:=WC.frozen (bA.cell 0) (bA.frozen 0)
 have a1:∀y:WC W0,y.w.cell? ⟨W.heap.size+1,1,none⟩=some (.int .i64 0):=WC.cell (bA.cell 1)
 have f1:∀y:WC W0,y.w.frozen? ⟨W.heap.size+1,1,none⟩=false:=WC.frozen (bA.cell 1) (bA.frozen 1)
 have a2:∀y:WC W0,y.w.cell? ⟨W.heap.size+1,2,none⟩=some (.int .i64 0):=WC.cell (bA.cell 2)
 have f2:∀y:WC W0,y.w.frozen? ⟨W.heap.size+1,2,none⟩=false:=WC.frozen (bA.cell 2) (bA.frozen 2)
 have p0:∀y:WC W0,y.w.cell? ⟨W.heap.size,0,none⟩=some (.pointer (some ⟨bc,0,none⟩)):=WC.cell (bP.cell 0)
 have t2:∀y:WC W0,y.w.cell? ⟨bc,2,none⟩=some (.slice o2 l2.length c2):=WC.cell (hC.c 2 (.slice o2 l2.length c2) rfl)
 have m2x:l2.length≤9223372036854775807:=hT.m2
 have HL2:=Lib.hid hT.marks
 have t3:∀y:WC W0,y.w.cell? ⟨bc,3,none⟩=some (.slice o3 l3.length c3):=WC.cell (hC.c 3 (.slice o3 l3.length c3) rfl)
 have m3x:l3.length≤9223372036854775807:=hT.m3
 have HL3:=Lib.hid hT.pairs
 have t4:∀y:WC W0,y.w.cell? ⟨bc,4,none⟩=some (.slice o4 l4.length c4):=WC.cell (hC.c 4 (.slice o4 l4.length c4) rfl)
 have m4x:l4.length≤9223372036854775807:=hT.m4
 have HL4:=Lib.hid hT.folds
 have t5:∀y:WC W0,y.w.cell? ⟨bc,5,none⟩=some (.slice o5 l5.length c5):=WC.cell (hC.c 5 (.slice o5 l5.length c5) rfl)
 have m5x:l5.length≤9223372036854775807:=hT.m5
 have HL5:=Lib.hid hT.looks
 have t6:∀y:WC W0,y.w.cell? ⟨bc,6,none⟩=some (.slice o6 l6.length c6):=WC.cell (hC.c 6 (.slice o6 l6.length c6) rfl)
 have m6x:l6.length≤9223372036854775807:=hT.m6
 have HL6:=Lib.hid hT.drops
 have HG:Hid (∀(rs:List Int) (xo:Option Addr) (xc:Nat) (U:World),Below W0.heap.size W0 U→Rd U xo (rs.map (.int .i32))→rs.length≤1000→Calls Tryz.prog 105 #[.slice xo rs.length xc,.pointer (some ⟨W.heap.size,0,none⟩)] U fun e w'=>e=.returned (.bool (rs.any (fun r=>ofB r l6)))∧Below U.heap.size U w'):=Lib.hid (fun rs xo xc U hU hr hn=>gone_any l6 o6 c6 bc W.heap.size xo xc rs U (p0 ⟨U,hU⟩) (t6 ⟨U,hU⟩) (hT.drops.below hU) hm6 hok hr hn)
 clear hok hm6
 have HWr:Hid (∀(a b c:Int) (U:World),Calls Tryz.prog 99 #[.int .i64 a,.int .i64 b,.int .i64 c] U fun e w'=>e=.returned (.agg #[.int .i64 a,.int .i64 b,.int .i64 c])∧Below U.heap.size U w'):=Lib.hid (fun a b c U=>twrong_any a b c U)
 clear hC hT hB h bA hW0 hB1 bP
 obtain⟨R,hR⟩:∃R,dropsW ⟨l0,l1,l2,l3,l4,l5,l6,l7⟩=R:=⟨_,rfl⟩
 rw[hR]
 unfold dropsW at hR
 try dsimp only at hR
 have HF:=Lib.hid hR
 clear hR
 obtain⟨fn,hfn,Hres⟩:∃fn,Tryz.f71=fn∧Hid (fn.results=#[.cell 2 100]):=⟨_,rfl,Lib.hid Tryz.results71⟩
 go_enter Tryz.func71,Tryz.ntmps71
 rw[hfn]
 clear hfn
 go_upto_region 1 with fail
 try dsimp only
 rw[HW0.out]
 clear HW0
 obtain⟨y,hy⟩:∃y:WC W0,y.w=W0:=⟨WC.of W0,rfl⟩
 rw[←hy]
 clear hy
 go_wp2_with fail
 go_loopw [19] (fun v19 wr=>∃(i:Nat) (y:WC W0),v19=.int .i64 i∧i≤l2.length∧Hid (scan (dropM l6) (l2.drop i) i (scan (dropP l6) l3 0 (scan (dropF 5 l6) l4 0 (scan (dropF 6 l6) l5 0 ((0,0,0)))))=R)∧wr=y.w) (fun v19 _=>l2.length - (intOf v19).toNat)
 case atStart=>exact⟨0,y,rfl,Nat.zero_le _,HF,rfl⟩
 case round=>
  clear HF
  obtain⟨i,y,rfl,hi,HF,rfl⟩:=hrel
  have i0:(0:Int)≤(i:Int):=Int.natCast_nonneg _
  by_cases hlt:i<l2.length
  ·have i1:(i:Int)<(l2.length:Int):=by omega
   obtain⟨g,off,ho,hg,c0,c1⟩:=HL2.out i hlt
   subst ho
   have HF1:=Lib.hid (scan_step hlt HF.out)
   generalize l2[i]=x at *
   have e0:=fun y:WC W0=>y.cell c0
   have e1:=fun y:WC W0=>y.cell c1
   clear HF c0 c1
   go_upto_region 5 with fail
   have bX:=Blk.new' y.w #[.int .i32 x.1,.int .i64 x.2] 139
   have HV1:Hid (Below W0.heap.size W0 (y.w.alloc (.cells #[.int .i32 x.1,.int .i64 x.2] 139))):=Lib.hid (y.h.alloc y.h.size _)
   obtain⟨V,hV⟩:∃V,y.w.alloc (.cells #[.int .i32 x.1,.int .i64 x.2] 139)=V:=⟨_,rfl⟩
   rw[hV] at bX HV1 ⊢
   obtain⟨bx,hbx⟩:∃b,y.w.heap.size=b:=⟨_,rfl⟩
   rw[hbx] at bX ⊢
   clear hV hbx
   have x0:∀z:WC V,z.w.cell? ⟨bx,0,none⟩=some (.int .i32 x.1):=WC.cell (bX.cell 0)
   have x1:∀z:WC V,z.w.cell? ⟨bx,1,none⟩=some (.int .i64 x.2):=WC.cell (bX.cell 1)
   have HUp:Hid (∀z:WC V,Below W0.heap.size W0 z.w):=Lib.hid (fun z=>HV1.out.trans (z.h.mono HV1.out.size))
   have a0z:∀z:WC V,z.w.cell? ⟨W.heap.size+1,0,none⟩=some (.int .i64 0):=fun z=>a0 ⟨z.w,HUp.out z⟩
   have a1z:∀z:WC V,z.w.cell? ⟨W.heap.size+1,1,none⟩=some (.int .i64 0):=fun z=>a1 ⟨z.w,HUp.out z⟩
   have a2z:∀z:WC V,z.w.cell? ⟨W.heap.size+1,2,none⟩=some (.int .i64 0):=fun z=>a2 ⟨z.w,HUp.out z⟩
   have f0z:∀z:WC V,z.w.frozen? ⟨W.heap.size+1,0,none⟩=false:=fun z=>f0 ⟨z.w,HUp.out z⟩
   have f1z:∀z:WC V,z.w.frozen? ⟨W.heap.size+1,1,none⟩=false:=fun z=>f1 ⟨z.w,HUp.out z⟩
   have f2z:∀z:WC V,z.w.frozen? ⟨W.heap.size+1,2,none⟩=false:=fun z=>f2 ⟨z.w,HUp.out z⟩
   have p0z:∀z:WC V,z.w.cell? ⟨W.heap.size,0,none⟩=some (.pointer (some ⟨bc,0,none⟩)):=fun z=>p0 ⟨z.w,HUp.out z⟩
   have t2z:∀z:WC V,z.w.cell? ⟨bc,2,none⟩=some (.slice (some ⟨g,off,none⟩) l2.length c2):=fun z=>t2 ⟨z.w,HUp.out z⟩
   have t3z:∀z:WC V,z.w.cell? ⟨bc,3,none⟩=some (.slice o3 l3.length c3):=fun z=>t3 ⟨z.w,HUp.out z⟩
   have t4z:∀z:WC V,z.w.cell? ⟨bc,4,none⟩=some (.slice o4 l4.length c4):=fun z=>t4 ⟨z.w,HUp.out z⟩
   have t5z:∀z:WC V,z.w.cell? ⟨bc,5,none⟩=some (.slice o5 l5.length c5):=fun z=>t5 ⟨z.w,HUp.out z⟩
   have t6z:∀z:WC V,z.w.cell? ⟨bc,6,none⟩=some (.slice o6 l6.length c6):=fun z=>t6 ⟨z.w,HUp.out z⟩
   clear bX HV1
   obtain⟨z,hz⟩:∃z:WC V,z.w=V:=⟨WC.of V,rfl⟩
   conv=>arg 5;rw[←hz]
   clear hz
   have KG:Hid (∀z:WC V,Calls Tryz.prog 105 #[.slice (some ⟨z.w.heap.size,0,none⟩) 1 1,.pointer (some ⟨W.heap.size,0,none⟩)] (z.w.alloc (.cells #[.int .i32 x.1] 21)) fun e w'=>e=.returned (.bool (List.any [x.1] (fun r=>ofB r l6)))∧∃u:WC V,w'=u.w):=Lib.hid (fun z=>by
    have hU:Below z.w.heap.size z.w (z.w.alloc (.cells #[.int .i32 x.1] 21)):=(Below.refl _ _).alloc (Nat.le_refl _) _
    have hU0:Below W0.heap.size W0 (z.w.alloc (.cells #[.int .i32 x.1] 21)):=(HUp.out z).trans (hU.mono (HUp.out z).size)
    have bb:=Blk.new' z.w #[.int .i32 x.1] 21
    refine Calls.mono (HG.out [x.1] (some ⟨z.w.heap.size,0,none⟩) 1 _ hU0 ?_ (by simp)) (fun e w' hh=>⟨hh.1,⟨w',z.h.trans ((hU.trans (hh.2.mono hU.size)).mono z.h.size)⟩,rfl⟩)
    intro j u hj
    exact⟨z.w.heap.size,0,rfl,by rw[Nat.zero_add,bb.cell j];exact hj⟩)
   cases h0:ofB x.1 l6 with
   | true=>
    have HR:=Lib.hid ((scan_hit (f:=dropM l6) (by unfold dropM;simp only[h0];rfl)).symm.trans HF1.out)
    clear HF1
    simp only[List.any_cons,List.any_nil,Bool.or_false,h0,Bool.true_or,Bool.or_true,Bool.false_or] at KG
    clear h0
    go_wp2_with fail
    (with_reducible refine Calls.mono (KG.out z) ?_)
    rintro e w' ⟨rfl,z1,rfl⟩
    clear KG
    have KW:Hid (∀z:WC V,Calls Tryz.prog 99 #[.int .i64 37,.int .i64 3,.int .i64 i] z.w fun e w'=>e=.returned (.agg #[.int .i64 37,.int .i64 3,.int .i64 i])∧∃u:WC V,w'=u.w):=Lib.hid (fun z=>WC.call (HWr.out 37 3 i z.w))
    go_wp2_with fail
    (with_reducible refine Calls.mono (KW.out z1) ?_)
    rintro e w' ⟨rfl,zr,rfl⟩
    clear KW
    go_wp2_with fail
    have b3:=(((HA.out.keep (Keep.of_below (HUp.out zr) (fun _=>False)) (by simp)).set 0 (.int .i64 37)).set 1 (.int .i64 3)).set 2 (.int .i64 i)
    have r0:=b3.cell 0
    have r1:=b3.cell 1
    have r2:=b3.cell 2
    refine bodyPost_ret (v:=.agg #[.int .i64 37,.int .i64 3,.int .i64 i]) (res_wrong Hres.out (by rfl) r0 r1 r2) rfl ?_
    exact⟨by rw[←HR.out];rfl,set3_below (HB.out.trans ((HUp.out zr).mono HB.out.size)) (by omega)⟩
   | false=>
    have HF2:=Lib.hid ((scan_miss (f:=dropM l6) (by unfold dropM;simp only[h0];rfl)).symm.trans HF1.out)
    clear HF1
    simp only[List.any_cons,List.any_nil,Bool.or_false,h0,Bool.true_or,Bool.or_true,Bool.false_or] at KG
    clear h0
    go_wp2_with fail
    (with_reducible refine Calls.mono (KG.out z) ?_)
    rintro e w' ⟨rfl,z1,rfl⟩
    clear KG
    go_wp2_with fail
    exact⟨⟨i+1,⟨z1.w,HUp.out z1⟩,by go_num,by omega,HF2,by first | rfl | trivial⟩,by simp[intOf];omega⟩
  ·obtain rfl:i=l2.length:=by omega
   have HF0:=Lib.hid (scan_end HF.out)
   clear hi hlt i0 HF
   have HF:=Lib.hid HF0.out
   clear HF0
   go_wp2_with fail
   go_loopw [38] (fun v38 wr=>∃(i:Nat) (y:WC W0),v38=.int .i64 i∧i≤l3.length∧Hid (scan (dropP l6) (l3.drop i) i (scan (dropF 5 l6) l4 0 (scan (dropF 6 l6) l5 0 ((0,0,0))))=R)∧wr=y.w) (fun v38 _=>l3.length - (intOf v38).toNat)
   case atStart=>exact⟨0,y,rfl,Nat.zero_le _,HF,rfl⟩
   case round=>
    clear HF
    obtain⟨i,y,rfl,hi,HF,rfl⟩:=hrel
    have i0:(0:Int)≤(i:Int):=Int.natCast_nonneg _
    by_cases hlt:i<l3.length
    ·have i1:(i:Int)<(l3.length:Int):=by omega
     obtain⟨g,off,ho,hg,c0,c1,c2⟩:=HL3.out i hlt
     subst ho
     have HF1:=Lib.hid (scan_step hlt HF.out)
     generalize l3[i]=x at *
     have e0:=fun y:WC W0=>y.cell c0
     have e1:=fun y:WC W0=>y.cell c1
     have e2:=fun y:WC W0=>y.cell c2
     clear HF c0 c1 c2
     go_upto_region 11 with fail
     have bX:=Blk.new' y.w #[.int .i32 x.1,.int .i32 x.2.1,.int .i32 x.2.2] 141
     have HV1:Hid (Below W0.heap.size W0 (y.w.alloc (.cells #[.int .i32 x.1,.int .i32 x.2.1,.int .i32 x.2.2] 141))):=Lib.hid (y.h.alloc y.h.size _)
     obtain⟨V,hV⟩:∃V,y.w.alloc (.cells #[.int .i32 x.1,.int .i32 x.2.1,.int .i32 x.2.2] 141)=V:=⟨_,rfl⟩
     rw[hV] at bX HV1 ⊢
     obtain⟨bx,hbx⟩:∃b,y.w.heap.size=b:=⟨_,rfl⟩
     rw[hbx] at bX ⊢
     clear hV hbx
     have x0:∀z:WC V,z.w.cell? ⟨bx,0,none⟩=some (.int .i32 x.1):=WC.cell (bX.cell 0)
     have x1:∀z:WC V,z.w.cell? ⟨bx,1,none⟩=some (.int .i32 x.2.1):=WC.cell (bX.cell 1)
     have x2:∀z:WC V,z.w.cell? ⟨bx,2,none⟩=some (.int .i32 x.2.2):=WC.cell (bX.cell 2)
     have HUp:Hid (∀z:WC V,Below W0.heap.size W0 z.w):=Lib.hid (fun z=>HV1.out.trans (z.h.mono HV1.out.size))
     have a0z:∀z:WC V,z.w.cell? ⟨W.heap.size+1,0,none⟩=some (.int .i64 0):=fun z=>a0 ⟨z.w,HUp.out z⟩
     have a1z:∀z:WC V,z.w.cell? ⟨W.heap.size+1,1,none⟩=some (.int .i64 0):=fun z=>a1 ⟨z.w,HUp.out z⟩
     have a2z:∀z:WC V,z.w.cell? ⟨W.heap.size+1,2,none⟩=some (.int .i64 0):=fun z=>a2 ⟨z.w,HUp.out z⟩
     have f0z:∀z:WC V,z.w.frozen? ⟨W.heap.size+1,0,none⟩=false:=fun z=>f0 ⟨z.w,HUp.out z⟩
     have f1z:∀z:WC V,z.w.frozen? ⟨W.heap.size+1,1,none⟩=false:=fun z=>f1 ⟨z.w,HUp.out z⟩
     have f2z:∀z:WC V,z.w.frozen? ⟨W.heap.size+1,2,none⟩=false:=fun z=>f2 ⟨z.w,HUp.out z⟩
     have p0z:∀z:WC V,z.w.cell? ⟨W.heap.size,0,none⟩=some (.pointer (some ⟨bc,0,none⟩)):=fun z=>p0 ⟨z.w,HUp.out z⟩
     have t3z:∀z:WC V,z.w.cell? ⟨bc,3,none⟩=some (.slice (some ⟨g,off,none⟩) l3.length c3):=fun z=>t3 ⟨z.w,HUp.out z⟩
     have t4z:∀z:WC V,z.w.cell? ⟨bc,4,none⟩=some (.slice o4 l4.length c4):=fun z=>t4 ⟨z.w,HUp.out z⟩
     have t5z:∀z:WC V,z.w.cell? ⟨bc,5,none⟩=some (.slice o5 l5.length c5):=fun z=>t5 ⟨z.w,HUp.out z⟩
     have t6z:∀z:WC V,z.w.cell? ⟨bc,6,none⟩=some (.slice o6 l6.length c6):=fun z=>t6 ⟨z.w,HUp.out z⟩
     clear bX HV1
     obtain⟨z,hz⟩:∃z:WC V,z.w=V:=⟨WC.of V,rfl⟩
     conv=>arg 5;rw[←hz]
     clear hz
     have KG:Hid (∀z:WC V,Calls Tryz.prog 105 #[.slice (some ⟨z.w.heap.size,0,none⟩) 3 3,.pointer (some ⟨W.heap.size,0,none⟩)] (z.w.alloc (.cells #[.int .i32 x.1,.int .i32 x.2.1,.int .i32 x.2.2] 21)) fun e w'=>e=.returned (.bool (List.any [x.1,x.2.1,x.2.2] (fun r=>ofB r l6)))∧∃u:WC V,w'=u.w):=Lib.hid (fun z=>by
      have hU:Below z.w.heap.size z.w (z.w.alloc (.cells #[.int .i32 x.1,.int .i32 x.2.1,.int .i32 x.2.2] 21)):=(Below.refl _ _).alloc (Nat.le_refl _) _
      have hU0:Below W0.heap.size W0 (z.w.alloc (.cells #[.int .i32 x.1,.int .i32 x.2.1,.int .i32 x.2.2] 21)):=(HUp.out z).trans (hU.mono (HUp.out z).size)
      have bb:=Blk.new' z.w #[.int .i32 x.1,.int .i32 x.2.1,.int .i32 x.2.2] 21
      refine Calls.mono (HG.out [x.1,x.2.1,x.2.2] (some ⟨z.w.heap.size,0,none⟩) 3 _ hU0 ?_ (by simp)) (fun e w' hh=>⟨hh.1,⟨w',z.h.trans ((hU.trans (hh.2.mono hU.size)).mono z.h.size)⟩,rfl⟩)
      intro j u hj
      exact⟨z.w.heap.size,0,rfl,by rw[Nat.zero_add,bb.cell j];exact hj⟩)
     cases h0:ofB x.1 l6 with
     | true=>
      have HR:=Lib.hid ((scan_hit (f:=dropP l6) (by unfold dropP;simp only[h0];rfl)).symm.trans HF1.out)
      clear HF1
      simp only[List.any_cons,List.any_nil,Bool.or_false,h0,Bool.true_or,Bool.or_true,Bool.false_or] at KG
      clear h0
      go_wp2_with fail
      (with_reducible refine Calls.mono (KG.out z) ?_)
      rintro e w' ⟨rfl,z1,rfl⟩
      clear KG
      have KW:Hid (∀z:WC V,Calls Tryz.prog 99 #[.int .i64 37,.int .i64 4,.int .i64 i] z.w fun e w'=>e=.returned (.agg #[.int .i64 37,.int .i64 4,.int .i64 i])∧∃u:WC V,w'=u.w):=Lib.hid (fun z=>WC.call (HWr.out 37 4 i z.w))
      go_wp2_with fail
      (with_reducible refine Calls.mono (KW.out z1) ?_)
      rintro e w' ⟨rfl,zr,rfl⟩
      clear KW
      go_wp2_with fail
      have b3:=(((HA.out.keep (Keep.of_below (HUp.out zr) (fun _=>False)) (by simp)).set 0 (.int .i64 37)).set 1 (.int .i64 4)).set 2 (.int .i64 i)
      have r0:=b3.cell 0
      have r1:=b3.cell 1
      have r2:=b3.cell 2
      refine bodyPost_ret (v:=.agg #[.int .i64 37,.int .i64 4,.int .i64 i]) (res_wrong Hres.out (by rfl) r0 r1 r2) rfl ?_
      exact⟨by rw[←HR.out];rfl,set3_below (HB.out.trans ((HUp.out zr).mono HB.out.size)) (by omega)⟩
     | false=>
      cases h1:ofB x.2.1 l6 with
      | true=>
       have HR:=Lib.hid ((scan_hit (f:=dropP l6) (by unfold dropP;simp only[h0,h1];rfl)).symm.trans HF1.out)
       clear HF1
       simp only[List.any_cons,List.any_nil,Bool.or_false,h0,h1,Bool.true_or,Bool.or_true,Bool.false_or] at KG
       clear h0 h1
       go_wp2_with fail
       (with_reducible refine Calls.mono (KG.out z) ?_)
       rintro e w' ⟨rfl,z1,rfl⟩
       clear KG
       have KW:Hid (∀z:WC V,Calls Tryz.prog 99 #[.int .i64 37,.int .i64 4,.int .i64 i] z.w fun e w'=>e=.returned (.agg #[.int .i64 37,.int .i64 4,.int .i64 i])∧∃u:WC V,w'=u.w):=Lib.hid (fun z=>WC.call (HWr.out 37 4 i z.w))
       go_wp2_with fail
       (with_reducible refine Calls.mono (KW.out z1) ?_)
       rintro e w' ⟨rfl,zr,rfl⟩
       clear KW
       go_wp2_with fail
       have b3:=(((HA.out.keep (Keep.of_below (HUp.out zr) (fun _=>False)) (by simp)).set 0 (.int .i64 37)).set 1 (.int .i64 4)).set 2 (.int .i64 i)
       have r0:=b3.cell 0
       have r1:=b3.cell 1
       have r2:=b3.cell 2
       refine bodyPost_ret (v:=.agg #[.int .i64 37,.int .i64 4,.int .i64 i]) (res_wrong Hres.out (by rfl) r0 r1 r2) rfl ?_
       exact⟨by rw[←HR.out];rfl,set3_below (HB.out.trans ((HUp.out zr).mono HB.out.size)) (by omega)⟩
      | false=>
       cases h2:ofB x.2.2 l6 with
       | true=>
        have HR:=Lib.hid ((scan_hit (f:=dropP l6) (by unfold dropP;simp only[h0,h1,h2];rfl)).symm.trans HF1.out)
        clear HF1
        simp only[List.any_cons,List.any_nil,Bool.or_false,h0,h1,h2,Bool.true_or,Bool.or_true,Bool.false_or] at KG
        clear h0 h1 h2
        go_wp2_with fail
        (with_reducible refine Calls.mono (KG.out z) ?_)
        rintro e w' ⟨rfl,z1,rfl⟩
        clear KG
        have KW:Hid (∀z:WC V,Calls Tryz.prog 99 #[.int .i64 37,.int .i64 4,.int .i64 i] z.w fun e w'=>e=.returned (.agg #[.int .i64 37,.int .i64 4,.int .i64 i])∧∃u:WC V,w'=u.w):=Lib.hid (fun z=>WC.call (HWr.out 37 4 i z.w))
        go_wp2_with fail
        (with_reducible refine Calls.mono (KW.out z1) ?_)
        rintro e w' ⟨rfl,zr,rfl⟩
        clear KW
        go_wp2_with fail
        have b3:=(((HA.out.keep (Keep.of_below (HUp.out zr) (fun _=>False)) (by simp)).set 0 (.int .i64 37)).set 1 (.int .i64 4)).set 2 (.int .i64 i)
        have r0:=b3.cell 0
        have r1:=b3.cell 1
        have r2:=b3.cell 2
        refine bodyPost_ret (v:=.agg #[.int .i64 37,.int .i64 4,.int .i64 i]) (res_wrong Hres.out (by rfl) r0 r1 r2) rfl ?_
        exact⟨by rw[←HR.out];rfl,set3_below (HB.out.trans ((HUp.out zr).mono HB.out.size)) (by omega)⟩
       | false=>
        have HF2:=Lib.hid ((scan_miss (f:=dropP l6) (by unfold dropP;simp only[h0,h1,h2];rfl)).symm.trans HF1.out)
        clear HF1
        simp only[List.any_cons,List.any_nil,Bool.or_false,h0,h1,h2,Bool.true_or,Bool.or_true,Bool.false_or] at KG
        clear h0 h1 h2
        go_wp2_with fail
        (with_reducible refine Calls.mono (KG.out z) ?_)
        rintro e w' ⟨rfl,z1,rfl⟩
        clear KG
        go_wp2_with fail
        exact⟨⟨i+1,⟨z1.w,HUp.out z1⟩,by go_num,by omega,HF2,by first | rfl | trivial⟩,by simp[intOf];omega⟩
    ·obtain rfl:i=l3.length:=by omega
     have HF0:=Lib.hid (scan_end HF.out)
     clear hi hlt i0 HF
     have HF:=Lib.hid HF0.out
     clear HF0
     go_wp2_with fail
     try dsimp only
     have hz9:W.heap.size<W0.heap.size:=by have:=HZ.out;omega
     go_big_region
     clear hz9
     have hE9:Below W0.heap.size W0 ((y.w.alloc (.cells #[.slice o4 l4.length c4,.slice o5 l5.length c5] 26)).drew):=(y.h.alloc y.h.size _).drew
     have bX9:Blk ((y.w.alloc (.cells #[.slice o4 l4.length c4,.slice o5 l5.length c5] 26)).drew) y.w.heap.size [.slice o4 l4.length c4,.slice o5 l5.length c5] 26:=Blk.new' y.w #[.slice o4 l4.length c4,.slice o5 l5.length c5] 26
     obtain⟨W9,hW9⟩:∃W9,(y.w.alloc (.cells #[.slice o4 l4.length c4,.slice o5 l5.length c5] 26)).drew=W9:=⟨_,rfl⟩
     rw[hW9] at hE9 bX9 ⊢
     obtain⟨b9,hb9⟩:∃b,y.w.heap.size=b:=⟨_,rfl⟩
     rw[hb9] at bX9 ⊢
     clear hW9 hb9
     have HUp9:Hid (∀z:WC W9,Below W0.heap.size W0 z.w):=Lib.hid (fun z=>hE9.trans (z.h.mono hE9.size))
     replace a0:∀y:WC W9,y.w.cell? ⟨W.heap.size+1,0,none⟩=some (.int .i64 0):=fun z=>a0 ⟨z.w,HUp9.out z⟩
     replace f0:∀y:WC W9,y.w.frozen? ⟨W.heap.size+1,0,none⟩=false:=fun z=>f0 ⟨z.w,HUp9.out z⟩
     replace a1:∀y:WC W9,y.w.cell? ⟨W.heap.size+1,1,none⟩=some (.int .i64 0):=fun z=>a1 ⟨z.w,HUp9.out z⟩
     replace f1:∀y:WC W9,y.w.frozen? ⟨W.heap.size+1,1,none⟩=false:=fun z=>f1 ⟨z.w,HUp9.out z⟩
     replace a2:∀y:WC W9,y.w.cell? ⟨W.heap.size+1,2,none⟩=some (.int .i64 0):=fun z=>a2 ⟨z.w,HUp9.out z⟩
     replace f2:∀y:WC W9,y.w.frozen? ⟨W.heap.size+1,2,none⟩=false:=fun z=>f2 ⟨z.w,HUp9.out z⟩
     replace p0:∀y:WC W9,y.w.cell? ⟨W.heap.size,0,none⟩=some (.pointer (some ⟨bc,0,none⟩)):=fun z=>p0 ⟨z.w,HUp9.out z⟩
     replace t2:∀y:WC W9,y.w.cell? ⟨bc,2,none⟩=some (.slice o2 l2.length c2):=fun z=>t2 ⟨z.w,HUp9.out z⟩
     replace t3:∀y:WC W9,y.w.cell? ⟨bc,3,none⟩=some (.slice o3 l3.length c3):=fun z=>t3 ⟨z.w,HUp9.out z⟩
     replace t4:∀y:WC W9,y.w.cell? ⟨bc,4,none⟩=some (.slice o4 l4.length c4):=fun z=>t4 ⟨z.w,HUp9.out z⟩
     replace t5:∀y:WC W9,y.w.cell? ⟨bc,5,none⟩=some (.slice o5 l5.length c5):=fun z=>t5 ⟨z.w,HUp9.out z⟩
     replace t6:∀y:WC W9,y.w.cell? ⟨bc,6,none⟩=some (.slice o6 l6.length c6):=fun z=>t6 ⟨z.w,HUp9.out z⟩
     replace HG:=Lib.hid (fun rs xo xc U (hU:Below W9.heap.size W9 U)=>HG.out rs xo xc U (hE9.trans (hU.mono hE9.size)))
     replace HL2:=Lib.hid (HL2.out.below hE9)
     replace HL3:=Lib.hid (HL3.out.below hE9)
     replace HL4:=Lib.hid (HL4.out.below hE9)
     replace HL5:=Lib.hid (HL5.out.below hE9)
     replace HL6:=Lib.hid (HL6.out.below hE9)
     replace HA:=Lib.hid (HA.out.keep (Keep.of_below hE9 (fun _=>False)) (by simp))
     replace HZ:=Lib.hid (Nat.lt_of_lt_of_le HZ.out hE9.size)
     replace HB:=Lib.hid (HB.out.trans (hE9.mono HB.out.size))
     have s0:∀y:WC W9,y.w.cell? ⟨b9,0,none⟩=some (.slice o4 l4.length c4):=WC.cell (bX9.cell 0)
     have s1:∀y:WC W9,y.w.cell? ⟨b9,1,none⟩=some (.slice o5 l5.length c5):=WC.cell (bX9.cell 1)
     clear hE9 bX9 HUp9
     try clear y
     obtain⟨W0,h9⟩:∃X,X=W9:=⟨_,rfl⟩
     subst h9
     obtain⟨y,hy⟩:∃y:WC W0,y.w=W0:=⟨WC.of W0,rfl⟩
     conv=>arg 5;rw[←hy]
     clear hy
     have HF2:Hid (twoW (fun n=>dropF (n) l6) 5 l4 l5 (0,0,0) 0=R):=Lib.hid HF.out
     clear HF
     have HF:=Lib.hid HF2.out
     clear HF2
     go_wp2_with fail
     go_loopw [67] (fun v67 wr=>∃(k:Nat) (y:WC W0),v67=.int .i64 k∧k≤2∧Hid (twoW (fun n=>dropF (n) l6) 5 l4 l5 (0,0,0) k=R)∧wr=y.w) (fun v67 _=>2 - (intOf v67).toNat)
     case atStart=>exact⟨0,y,rfl,by omega,HF,rfl⟩
     case round=>
      clear HF
      obtain⟨k,y,rfl,hk2,HF,rfl⟩:=hrel
      have k0:(0:Int)≤(k:Int):=Int.natCast_nonneg _
      by_cases hk:k<2
      ·have k1:(k:Int)<2:=by omega
       obtain⟨L,ob,cb,sL,HLL,mL,HF1⟩:∃(L:List (Int×ByteArray)) (ob:Option Addr) (cb:Nat),(∀y:WC W0,y.w.cell? ⟨b9,k,none⟩=some (.slice ob L.length cb))∧Hid (MapsAt W0 ob L)∧L.length≤9223372036854775807∧Hid (scan (dropF (5+(k:Int)) l6) L 0 (twoW (fun n=>dropF (n) l6) 5 l4 l5 (0,0,0) (k+1))=R):=by
        rcases (by omega:k=0∨k=1) with rfl | rfl
        ·refine⟨l4,o4,c4,s0,HL4,m4x,Lib.hid ?_⟩
         exact HF.out
        ·refine⟨l5,o5,c5,s1,HL5,m5x,Lib.hid ?_⟩
         exact HF.out
       clear HF s0 s1
       have HF:=Lib.hid HF1.out
       clear HF1
       go_wp2_with fail
       go_loopw [74] (fun v74 wr=>∃(i:Nat) (y:WC W0),v74=.int .i64 i∧i≤L.length∧Hid (scan (dropF (5+(k:Int)) l6) (L.drop i) i (twoW (fun n=>dropF (n) l6) 5 l4 l5 (0,0,0) (k+1))=R)∧wr=y.w) (fun v74 _=>L.length - (intOf v74).toNat)
       case atStart=>exact⟨0,y,rfl,Nat.zero_le _,HF,rfl⟩
       case round=>
        clear HF y
        obtain⟨i,y,rfl,hi,HF,rfl⟩:=hrel
        have i0:(0:Int)≤(i:Int):=Int.natCast_nonneg _
        by_cases hlt:i<L.length
        ·have i1:(i:Int)<(L.length:Int):=by omega
         obtain⟨g,off,ho,hg,c0,c1,cz⟩:=HLL.out i hlt
         subst ho
         have HF1:=Lib.hid (scan_step hlt HF.out)
         have hxm:=List.getElem_mem hlt
         generalize L[i]=x at *
         have e0:=fun y:WC W0=>y.cell c0
         have e1:=fun y:WC W0=>y.cell c1
         clear HF c0 c1
         go_upto_region 20 with fail
         have bX:=Blk.new' y.w #[.int .i32 x.1,.string x.2] 143
         have HV1:Hid (Below W0.heap.size W0 (y.w.alloc (.cells #[.int .i32 x.1,.string x.2] 143))):=Lib.hid (y.h.alloc y.h.size _)
         obtain⟨V,hV⟩:∃V,y.w.alloc (.cells #[.int .i32 x.1,.string x.2] 143)=V:=⟨_,rfl⟩
         rw[hV] at bX HV1 ⊢
         obtain⟨bx,hbx⟩:∃b,y.w.heap.size=b:=⟨_,rfl⟩
         rw[hbx] at bX ⊢
         clear hV hbx
         have x0:∀z:WC V,z.w.cell? ⟨bx,0,none⟩=some (.int .i32 x.1):=WC.cell (bX.cell 0)
         have x1:∀z:WC V,z.w.cell? ⟨bx,1,none⟩=some (.string x.2):=WC.cell (bX.cell 1)
         have HUp:Hid (∀z:WC V,Below W0.heap.size W0 z.w):=Lib.hid (fun z=>HV1.out.trans (z.h.mono HV1.out.size))
         have a0z:∀z:WC V,z.w.cell? ⟨W.heap.size+1,0,none⟩=some (.int .i64 0):=fun z=>a0 ⟨z.w,HUp.out z⟩
         have a1z:∀z:WC V,z.w.cell? ⟨W.heap.size+1,1,none⟩=some (.int .i64 0):=fun z=>a1 ⟨z.w,HUp.out z⟩
         have a2z:∀z:WC V,z.w.cell? ⟨W.heap.size+1,2,none⟩=some (.int .i64 0):=fun z=>a2 ⟨z.w,HUp.out z⟩
         have f0z:∀z:WC V,z.w.frozen? ⟨W.heap.size+1,0,none⟩=false:=fun z=>f0 ⟨z.w,HUp.out z⟩
         have f1z:∀z:WC V,z.w.frozen? ⟨W.heap.size+1,1,none⟩=false:=fun z=>f1 ⟨z.w,HUp.out z⟩
         have f2z:∀z:WC V,z.w.frozen? ⟨W.heap.size+1,2,none⟩=false:=fun z=>f2 ⟨z.w,HUp.out z⟩
         have p0z:∀z:WC V,z.w.cell? ⟨W.heap.size,0,none⟩=some (.pointer (some ⟨bc,0,none⟩)):=fun z=>p0 ⟨z.w,HUp.out z⟩
         clear bX HV1
         obtain⟨z,hz⟩:∃z:WC V,z.w=V:=⟨WC.of V,rfl⟩
         conv=>arg 5;rw[←hz]
         clear hz
         have KG:Hid (∀z:WC V,Calls Tryz.prog 105 #[.slice (some ⟨z.w.heap.size,0,none⟩) 1 1,.pointer (some ⟨W.heap.size,0,none⟩)] (z.w.alloc (.cells #[.int .i32 x.1] 21)) fun e w'=>e=.returned (.bool (List.any [x.1] (fun r=>ofB r l6)))∧∃u:WC V,w'=u.w):=Lib.hid (fun z=>by
          have hU:Below z.w.heap.size z.w (z.w.alloc (.cells #[.int .i32 x.1] 21)):=(Below.refl _ _).alloc (Nat.le_refl _) _
          have hU0:Below W0.heap.size W0 (z.w.alloc (.cells #[.int .i32 x.1] 21)):=(HUp.out z).trans (hU.mono (HUp.out z).size)
          have bb:=Blk.new' z.w #[.int .i32 x.1] 21
          refine Calls.mono (HG.out [x.1] (some ⟨z.w.heap.size,0,none⟩) 1 _ hU0 ?_ (by simp)) (fun e w' hh=>⟨hh.1,⟨w',z.h.trans ((hU.trans (hh.2.mono hU.size)).mono z.h.size)⟩,rfl⟩)
          intro j u hj
          exact⟨z.w.heap.size,0,rfl,by rw[Nat.zero_add,bb.cell j];exact hj⟩)
         cases h0:ofB x.1 l6 with
         | true=>
          have HR:=Lib.hid ((scan_hit (f:=dropF (5+(k:Int)) l6) (by unfold dropF;simp only[h0];rfl)).symm.trans HF1.out)
          clear HF1
          simp only[List.any_cons,List.any_nil,Bool.or_false,h0,Bool.true_or,Bool.or_true,Bool.false_or] at KG
          clear h0
          go_wp2_with fail
          (with_reducible refine Calls.mono (KG.out z) ?_)
          rintro e w' ⟨rfl,z1,rfl⟩
          clear KG
          have KW:Hid (∀z:WC V,Calls Tryz.prog 99 #[.int .i64 37,.int .i64 (5+(k:Int)),.int .i64 i] z.w fun e w'=>e=.returned (.agg #[.int .i64 37,.int .i64 (5+(k:Int)),.int .i64 i])∧∃u:WC V,w'=u.w):=Lib.hid (fun z=>WC.call (HWr.out 37 (5+(k:Int)) i z.w))
          go_wp2_with fail
          (with_reducible refine Calls.mono (KW.out z1) ?_)
          rintro e w' ⟨rfl,zr,rfl⟩
          clear KW
          go_wp2_with fail
          have b3:=(((HA.out.keep (Keep.of_below (HUp.out zr) (fun _=>False)) (by simp)).set 0 (.int .i64 37)).set 1 (.int .i64 (5+(k:Int)))).set 2 (.int .i64 i)
          have r0:=b3.cell 0
          have r1:=b3.cell 1
          have r2:=b3.cell 2
          refine bodyPost_ret (v:=.agg #[.int .i64 37,.int .i64 (5+(k:Int)),.int .i64 i]) (res_wrong Hres.out (by rfl) r0 r1 r2) rfl ?_
          exact⟨by rw[←HR.out];rfl,set3_below (HB.out.trans ((HUp.out zr).mono HB.out.size)) (by omega)⟩
         | false=>
          have HF2:=Lib.hid ((scan_miss (f:=dropF (5+(k:Int)) l6) (by unfold dropF;simp only[h0];rfl)).symm.trans HF1.out)
          clear HF1
          simp only[List.any_cons,List.any_nil,Bool.or_false,h0,Bool.true_or,Bool.or_true,Bool.false_or] at KG
          clear h0
          go_wp2_with fail
          (with_reducible refine Calls.mono (KG.out z) ?_)
          rintro e w' ⟨rfl,z1,rfl⟩
          clear KG
          go_wp2_with fail
          exact⟨⟨i+1,⟨z1.w,HUp.out z1⟩,by go_num,by omega,HF2,by first | rfl | trivial⟩,by simp[intOf];omega⟩
        ·obtain rfl:i=L.length:=by omega
         have HF0:=Lib.hid (scan_end HF.out)
         clear hi hlt i0 HF
         have HF:=Lib.hid HF0.out
         clear HF0
         go_wp2_with fail
         exact⟨⟨k+1,y,by go_num,by omega,HF,by first | rfl | trivial⟩,by simp[intOf];omega⟩
      ·obtain rfl:k=2:=by omega
       have HF2:Hid ((0,0,0)=R):=Lib.hid HF.out
       clear HF hk2 hk k0
       have HF:=Lib.hid HF2.out
       clear HF2
       try simp only[Int.cast_ofNat_Int]
       have HR:=Lib.hid HF.out
       go_wp2_with fail
       have b3:=(((HA.out.keep (Keep.of_below y.h (fun _=>False)) (by simp)).set 0 (.int .i64 0)).set 1 (.int .i64 0)).set 2 (.int .i64 0)
       have r0:=b3.cell 0
       have r1:=b3.cell 1
       have r2:=b3.cell 2
       refine bodyPost_ret (v:=.agg #[.int .i64 0,.int .i64 0,.int .i64 0]) (res_wrong Hres.out (by rfl) r0 r1 r2) rfl ?_
       exact⟨by rw[←HR.out];rfl,set3_below (HB.out.trans (y.h.mono HB.out.size)) (by omega)⟩
end Go.Proofs.YtioehfhdoohdmaaGreatDoor
namespace Go.Proofs.YtioehfhdoohdmaaGreatDoor
open Go.RowKit Go.Shelf BigFrame
set_option maxRecDepth 100000 in
set_option maxHeartbeats 40000000 in
theorem cfroms_any (T:Tab) (a:TAddr) (M:MAddr) (W:World) (h:ChkAt W M T a) (hM:MapsAt5 W M T) (hk:∀m∈T.marks,m.2≠0) (hf:∀x∈T.folds,runeB x.1=true) (hl:∀x∈T.looks,runeB x.1=true):Calls Tryz.prog 72 #[.pointer (some ⟨M.bc,0,none⟩)] W fun e w'=>e=.returned (wV (scan (fromM 5 T) T.folds 0 (scan (fromM 6 T) T.looks 0 (0,0,0))))∧Below W.heap.size W w':=by
 obtain⟨l0,l1,l2,l3,l4,l5,l6,l7⟩:=T
 obtain⟨o0,o1,o2,o3,o4,o5,o6,o7,c0,c1,c2,c3,c4,c5,c6,c7⟩:=a
 obtain⟨bc,bb,m1,m2,m3,m4,m5⟩:=M
 have hB:Below W.heap.size W (W.alloc (.cells #[.int .i64 0,.int .i64 0,.int .i64 0] 100)):=(Below.refl _ W).alloc (Nat.le_refl _) _
 have bA:=Blk.new' W #[.int .i64 0,.int .i64 0,.int .i64 0] 100
 have hC:=h.below hB
 have hMM:=hM.below hB
 obtain⟨W0,hW0⟩:∃W0,W.alloc (.cells #[.int .i64 0,.int .i64 0,.int .i64 0] 100)=W0:=⟨_,rfl⟩
 rw[hW0] at hB bA hC hMM
 have HW0:=Lib.hid hW0
 have HB:=Lib.hid hB
 have HA:=Lib.hid bA
 have HZ:Hid (W.heap.size<W0.heap.size):=Lib.hid bA.lt
 have hT:=hC.tab
 have a0:∀y:WC W0,y.w.cell? ⟨W.heap.size,0,none⟩=some (.int .i64 0):=WC.cell (bA.cell 0)
 have f0:∀y:WC W0,y.w.frozen? ⟨W.heap.size,0,none⟩=false:=WC.frozen (bA.cell 0) (bA.frozen 0)
 have a1:∀y:WC W0,y.w.cell? ⟨W.heap.size,1,none⟩=some (.int .i64 0):=WC.cell (bA.cell 1)
 have f1:∀y:WC W0,y.w.frozen? ⟨W.heap.size,1,none⟩=false:=WC.frozen (bA.cell 1) (bA.frozen 1)
 have a2:∀y:WC W0,y.w.cell? ⟨W.heap.size,2,none⟩=some (.int .i64 0):=WC.cell (bA.cell 2)
 have f2:∀y:WC W0,y.w.frozen? ⟨W.heap.size,2,none⟩=false:=WC.frozen (bA.cell 2) (bA.frozen 2)
 have t4:∀y:WC W0,y.w.cell? ⟨bc,4,none⟩=some (.slice o4 l4.length c4):=WC.cell (hC.c 4 (.slice o4 l4.length c4) rfl)
 have m4x:l4.length≤9223372036854775807:=hT.m4
 have HL4:=Lib.hid hT.folds
 have t5:∀y:WC W0,y.w.cell? ⟨bc,5,none⟩=some (.slice o5 l5.length c5):=WC.cell (hC.c 5 (.slice o5 l5.length c5) rfl)
 have m5x:l5.length≤9223372036854775807:=hT.m5
 have HL5:=Lib.hid hT.looks
 have t8:∀y:WC W0,y.w.cell? ⟨bc,8,none⟩=some (.pointer (some ⟨bb,0,none⟩)):=WC.cell hC.p
 have q1:∀y:WC W0,y.w.cell? ⟨bb,8,none⟩=some (.map (some m1)):=WC.cell hC.q1
 have q2:∀y:WC W0,y.w.cell? ⟨bb,9,none⟩=some (.map (some m2)):=WC.cell hC.q2
 have q3:∀y:WC W0,y.w.cell? ⟨bb,10,none⟩=some (.map (some m3)):=WC.cell hC.q3
 have q4:∀y:WC W0,y.w.cell? ⟨bb,11,none⟩=some (.map (some m4)):=WC.cell hC.q4
 have q5:∀y:WC W0,y.w.cell? ⟨bb,12,none⟩=some (.map (some m5)):=WC.cell hC.q5
 have HLk:Hid (∀(r:Int) (hr:runeB r=true) (U:World),Below W0.heap.size W0 U→(Instr.lookup 121 (.map (some m1)) (.int .i32 r) false).run Tryz.prog U=.ok (.int .i64 (classN ⟨l0,l1,l2,l3,l4,l5,l6,l7⟩ r)) U):=Lib.hid (fun r hr U hU=>look_class (hMM.m1.keep hU) (i32_of hr))
 have HLp:Hid (∀(r:Int) (hr:runeB r=true) (U:World),Below W0.heap.size W0 U→(Instr.lookup 122 (.map (some m2)) (.int .i32 r) true).run Tryz.prog U=.ok (.tuple #[.agg #[.int .i32 (pairA ⟨l0,l1,l2,l3,l4,l5,l6,l7⟩ r).1,.int .i32 (pairA ⟨l0,l1,l2,l3,l4,l5,l6,l7⟩ r).2],.bool (pairO ⟨l0,l1,l2,l3,l4,l5,l6,l7⟩ r).isSome]) U):=Lib.hid (fun r hr U hU=>look_pair (hMM.m2.keep hU) (i32_of hr))
 have HKm:Hid (∀r,(classN ⟨l0,l1,l2,l3,l4,l5,l6,l7⟩ r != 0)=markB ⟨l0,l1,l2,l3,l4,l5,l6,l7⟩ r):=Lib.hid (fun r=>class_mark hk r)
 have HPf:=Lib.hid hf
 have HPl:=Lib.hid hl
 clear hk hf hl
 have HWr:Hid (∀(a b c:Int) (U:World),Calls Tryz.prog 99 #[.int .i64 a,.int .i64 b,.int .i64 c] U fun e w'=>e=.returned (.agg #[.int .i64 a,.int .i64 b,.int .i64 c])∧Below U.heap.size U w'):=Lib.hid (fun a b c U=>twrong_any a b c U)
 clear hC hT hB h bA hW0 hM hMM
 obtain⟨R,hR⟩:∃R,scan (fromM 5 ⟨l0,l1,l2,l3,l4,l5,l6,l7⟩) l4 0 (scan (fromM 6 ⟨l0,l1,l2,l3,l4,l5,l6,l7⟩) l5 0 (0,0,0))=R:=⟨_,rfl⟩
 rw[hR]
 try dsimp only at hR
 have HF:=Lib.hid hR
 clear hR
 obtain⟨TT,hTT⟩:∃TT:Tab,TT=⟨l0,l1,l2,l3,l4,l5,l6,l7⟩:=⟨_,rfl⟩
 rw[←hTT] at HLk HLp HKm HF
 clear hTT
 obtain⟨fn,hfn,Hres⟩:∃fn,Tryz.f72=fn∧Hid (fn.results=#[.cell 2 100]):=⟨_,rfl,Lib.hid Tryz.results72⟩
 go_enter Tryz.func72,Tryz.ntmps72
 rw[hfn]
 clear hfn
 go_upto_region 1 with fail
 try dsimp only
 rw[HW0.out]
 clear HW0
 obtain⟨y,hy⟩:∃y:WC W0,y.w=W0:=⟨WC.of W0,rfl⟩
 rw[←hy]
 clear hy
 go_wp2_with fail
 have hz9:W.heap.size<W0.heap.size:=by have:=HZ.out;omega
 go_big_region
 clear hz9
 have hE9:Below W0.heap.size W0 ((y.w.alloc (.cells #[.slice o4 l4.length c4,.slice o5 l5.length c5] 26)).drew):=(y.h.alloc y.h.size _).drew
 have bX9:Blk ((y.w.alloc (.cells #[.slice o4 l4.length c4,.slice o5 l5.length c5] 26)).drew) y.w.heap.size [.slice o4 l4.length c4,.slice o5 l5.length c5] 26:=Blk.new' y.w #[.slice o4 l4.length c4,.slice o5 l5.length c5] 26
 obtain⟨W9,hW9⟩:∃W9,(y.w.alloc (.cells #[.slice o4 l4.length c4,.slice o5 l5.length c5] 26)).drew=W9:=⟨_,rfl⟩
 rw[hW9] at hE9 bX9 ⊢
 obtain⟨b9,hb9⟩:∃b,y.w.heap.size=b:=⟨_,rfl⟩
 rw[hb9] at bX9 ⊢
 clear hW9 hb9
 have HUp9:Hid (∀z:WC W9,Below W0.heap.size W0 z.w):=Lib.hid (fun z=>hE9.trans (z.h.mono hE9.size))
 replace a0:∀y:WC W9,y.w.cell? ⟨W.heap.size,0,none⟩=some (.int .i64 0):=fun z=>a0 ⟨z.w,HUp9.out z⟩
 replace f0:∀y:WC W9,y.w.frozen? ⟨W.heap.size,0,none⟩=false:=fun z=>f0 ⟨z.w,HUp9.out z⟩
 replace a1:∀y:WC W9,y.w.cell? ⟨W.heap.size,1,none⟩=some (.int .i64 0):=fun z=>a1 ⟨z.w,HUp9.out z⟩
 replace f1:∀y:WC W9,y.w.frozen? ⟨W.heap.size,1,none⟩=false:=fun z=>f1 ⟨z.w,HUp9.out z⟩
 replace a2:∀y:WC W9,y.w.cell? ⟨W.heap.size,2,none⟩=some (.int .i64 0):=fun z=>a2 ⟨z.w,HUp9.out z⟩
 replace f2:∀y:WC W9,y.w.frozen? ⟨W.heap.size,2,none⟩=false:=fun z=>f2 ⟨z.w,HUp9.out z⟩
 replace t4:∀y:WC W9,y.w.cell? ⟨bc,4,none⟩=some (.slice o4 l4.length c4):=fun z=>t4 ⟨z.w,HUp9.out z⟩
 replace t5:∀y:WC W9,y.w.cell? ⟨bc,5,none⟩=some (.slice o5 l5.length c5):=fun z=>t5 ⟨z.w,HUp9.out z⟩
 replace t8:∀y:WC W9,y.w.cell? ⟨bc,8,none⟩=some (.pointer (some ⟨bb,0,none⟩)):=fun z=>t8 ⟨z.w,HUp9.out z⟩
 replace q1:∀y:WC W9,y.w.cell? ⟨bb,8,none⟩=some (.map (some m1)):=fun z=>q1 ⟨z.w,HUp9.out z⟩
 replace q2:∀y:WC W9,y.w.cell? ⟨bb,9,none⟩=some (.map (some m2)):=fun z=>q2 ⟨z.w,HUp9.out z⟩
 replace q3:∀y:WC W9,y.w.cell? ⟨bb,10,none⟩=some (.map (some m3)):=fun z=>q3 ⟨z.w,HUp9.out z⟩
 replace q4:∀y:WC W9,y.w.cell? ⟨bb,11,none⟩=some (.map (some m4)):=fun z=>q4 ⟨z.w,HUp9.out z⟩
 replace q5:∀y:WC W9,y.w.cell? ⟨bb,12,none⟩=some (.map (some m5)):=fun z=>q5 ⟨z.w,HUp9.out z⟩
 replace HLk:=Lib.hid (fun r hr U (hU:Below W9.heap.size W9 U)=>HLk.out r hr U (hE9.trans (hU.mono hE9.size)))
 replace HLp:=Lib.hid (fun r hr U (hU:Below W9.heap.size W9 U)=>HLp.out r hr U (hE9.trans (hU.mono hE9.size)))
 replace HL4:=Lib.hid (HL4.out.below hE9)
 replace HL5:=Lib.hid (HL5.out.below hE9)
 replace HA:=Lib.hid (HA.out.keep (Keep.of_below hE9 (fun _=>False)) (by simp))
 replace HZ:=Lib.hid (Nat.lt_of_lt_of_le HZ.out hE9.size)
 replace HB:=Lib.hid (HB.out.trans (hE9.mono HB.out.size))
 have s0:∀y:WC W9,y.w.cell? ⟨b9,0,none⟩=some (.slice o4 l4.length c4):=WC.cell (bX9.cell 0)
 have s1:∀y:WC W9,y.w.cell? ⟨b9,1,none⟩=some (.slice o5 l5.length c5):=WC.cell (bX9.cell 1)
 clear hE9 bX9 HUp9
 try clear y
 obtain⟨W0,h9⟩:∃X,X=W9:=⟨_,rfl⟩
 subst h9
 obtain⟨y,hy⟩:∃y:WC W0,y.w=W0:=⟨WC.of W0,rfl⟩
 conv=>arg 5;rw[←hy]
 clear hy
 have HF2:Hid (twoW (fun n=>fromM (n) TT) 5 l4 l5 (0,0,0) 0=R):=Lib.hid HF.out
 clear HF
 have HF:=Lib.hid HF2.out
 clear HF2
 go_wp2_with fail
 go_loopw [21] (fun v21 wr=>∃(k:Nat) (y:WC W0),v21=.int .i64 k∧k≤2∧Hid (twoW (fun n=>fromM (n) TT) 5 l4 l5 (0,0,0) k=R)∧wr=y.w) (fun v21 _=>2 - (intOf v21).toNat)
 case atStart=>exact⟨0,y,rfl,by omega,HF,rfl⟩
 case round=>
  clear HF
  obtain⟨k,y,rfl,hk2,HF,rfl⟩:=hrel
  have k0:(0:Int)≤(k:Int):=Int.natCast_nonneg _
  by_cases hk:k<2
  ·have k1:(k:Int)<2:=by omega
   obtain⟨L,ob,cb,sL,HLL,mL,HPr,HF1⟩:∃(L:List (Int×ByteArray)) (ob:Option Addr) (cb:Nat),(∀y:WC W0,y.w.cell? ⟨b9,k,none⟩=some (.slice ob L.length cb))∧Hid (MapsAt W0 ob L)∧L.length≤9223372036854775807∧Hid (∀x∈L,runeB x.1=true)∧Hid (scan (fromM (5+(k:Int)) TT) L 0 (twoW (fun n=>fromM (n) TT) 5 l4 l5 (0,0,0) (k+1))=R):=by
    rcases (by omega:k=0∨k=1) with rfl | rfl
    ·refine⟨l4,o4,c4,s0,HL4,m4x,HPf,Lib.hid ?_⟩
     exact HF.out
    ·refine⟨l5,o5,c5,s1,HL5,m5x,HPl,Lib.hid ?_⟩
     exact HF.out
   clear HF s0 s1
   have HF:=Lib.hid HF1.out
   clear HF1
   go_wp2_with fail
   go_loopw [28] (fun v28 wr=>∃(i:Nat) (y:WC W0),v28=.int .i64 i∧i≤L.length∧Hid (scan (fromM (5+(k:Int)) TT) (L.drop i) i (twoW (fun n=>fromM (n) TT) 5 l4 l5 (0,0,0) (k+1))=R)∧wr=y.w) (fun v28 _=>L.length - (intOf v28).toNat)
   case atStart=>exact⟨0,y,rfl,Nat.zero_le _,HF,rfl⟩
   case round=>
    clear HF y
    obtain⟨i,y,rfl,hi,HF,rfl⟩:=hrel
    have i0:(0:Int)≤(i:Int):=Int.natCast_nonneg _
    by_cases hlt:i<L.length
    ·have i1:(i:Int)<(L.length:Int):=by omega
     obtain⟨g,off,ho,hg,c0,c1,cz⟩:=HLL.out i hlt
     subst ho
     have HF1:=Lib.hid (scan_step hlt HF.out)
     have hxm:=List.getElem_mem hlt
     generalize L[i]=x at *
     have e0:=fun y:WC W0=>y.cell c0
     have e1:=fun y:WC W0=>y.cell c1
     clear HF c0 c1
     have hx1:=HPr.out x hxm
     go_upto_region 7 with fail
     have bX:=Blk.new' y.w #[.int .i32 x.1,.string x.2] 143
     have HV1:Hid (Below W0.heap.size W0 (y.w.alloc (.cells #[.int .i32 x.1,.string x.2] 143))):=Lib.hid (y.h.alloc y.h.size _)
     obtain⟨V,hV⟩:∃V,y.w.alloc (.cells #[.int .i32 x.1,.string x.2] 143)=V:=⟨_,rfl⟩
     rw[hV] at bX HV1 ⊢
     obtain⟨bx,hbx⟩:∃b,y.w.heap.size=b:=⟨_,rfl⟩
     rw[hbx] at bX ⊢
     clear hV hbx
     have x0:∀z:WC V,z.w.cell? ⟨bx,0,none⟩=some (.int .i32 x.1):=WC.cell (bX.cell 0)
     have x1:∀z:WC V,z.w.cell? ⟨bx,1,none⟩=some (.string x.2):=WC.cell (bX.cell 1)
     have HUp:Hid (∀z:WC V,Below W0.heap.size W0 z.w):=Lib.hid (fun z=>HV1.out.trans (z.h.mono HV1.out.size))
     have a0z:∀z:WC V,z.w.cell? ⟨W.heap.size,0,none⟩=some (.int .i64 0):=fun z=>a0 ⟨z.w,HUp.out z⟩
     have a1z:∀z:WC V,z.w.cell? ⟨W.heap.size,1,none⟩=some (.int .i64 0):=fun z=>a1 ⟨z.w,HUp.out z⟩
     have a2z:∀z:WC V,z.w.cell? ⟨W.heap.size,2,none⟩=some (.int .i64 0):=fun z=>a2 ⟨z.w,HUp.out z⟩
     have f0z:∀z:WC V,z.w.frozen? ⟨W.heap.size,0,none⟩=false:=fun z=>f0 ⟨z.w,HUp.out z⟩
     have f1z:∀z:WC V,z.w.frozen? ⟨W.heap.size,1,none⟩=false:=fun z=>f1 ⟨z.w,HUp.out z⟩
     have f2z:∀z:WC V,z.w.frozen? ⟨W.heap.size,2,none⟩=false:=fun z=>f2 ⟨z.w,HUp.out z⟩
     have t8z:∀z:WC V,z.w.cell? ⟨bc,8,none⟩=some (.pointer (some ⟨bb,0,none⟩)):=fun z=>t8 ⟨z.w,HUp.out z⟩
     have q1z:∀z:WC V,z.w.cell? ⟨bb,8,none⟩=some (.map (some m1)):=fun z=>q1 ⟨z.w,HUp.out z⟩
     have q2z:∀z:WC V,z.w.cell? ⟨bb,9,none⟩=some (.map (some m2)):=fun z=>q2 ⟨z.w,HUp.out z⟩
     clear bX HV1
     obtain⟨z,hz⟩:∃z:WC V,z.w=V:=⟨WC.of V,rfl⟩
     conv=>arg 5;rw[←hz]
     clear hz
     have kp0:=HLp.out x.1 hx1 z.w.drew ((HUp.out z).drew)
     have kp1:=HLp.out x.1 hx1 (z.w.alloc (.cells #[.int .i32 0,.int .i32 0] 171)).drew (((HUp.out z).alloc (HUp.out z).size _).drew)
     have g0:=fun z:WC V=>HLk.out x.1 hx1 z.w (HUp.out z)
     have g1:=HKm.out x.1
     generalize classN TT x.1=n1 at *
     obtain⟨p1,p2,hpp⟩:∃p1 p2,pairA TT x.1=(p1,p2):=⟨_,_,rfl⟩
     rw[hpp] at kp0 kp1
     clear hpp
     dsimp only at kp0 kp1
     have HW:=whole_pair TT x.1
     generalize (pairO TT x.1).isSome=bo at *
     have z9:Below V.heap.size V (z.w.alloc (.cells #[.int .i32 0,.int .i32 0] 171)):=z.h.alloc z.h.size _
     have yx0:(z.w.alloc (.cells #[.int .i32 0,.int .i32 0] 171)).cell? ⟨bx,0,none⟩=some (.int .i32 x.1):=x0 ⟨_,z9⟩
     have yt8:(z.w.alloc (.cells #[.int .i32 0,.int .i32 0] 171)).cell? ⟨bc,8,none⟩=some (.pointer (some ⟨bb,0,none⟩)):=t8z ⟨_,z9⟩
     have yq2:(z.w.alloc (.cells #[.int .i32 0,.int .i32 0] 171)).cell? ⟨bb,9,none⟩=some (.map (some m2)):=q2z ⟨_,z9⟩
     go_big_region
     all_goals (refine ?hJ)
     clear kp0 kp1 yx0 yt8 yq2 z9
     obtain⟨z1,hz1⟩:∃z1:WC V,z1.w=(z.w.alloc (.cells #[.int .i32 p1,.int .i32 p2] 171)).drew:=⟨⟨_,(z.h.alloc z.h.size _).drew⟩,rfl⟩
     conv=>arg 5;rw[←hz1]
     clear hz1
     go_upto_region 8 with fail
     cases bo with
     | true=>
      have hs:fromM (5+(k:Int)) TT x i=some (31,5+(k:Int),(i:Int)):=by unfold fromM;rw[HW];cases markB TT x.1 <;> rfl
      have HR:=Lib.hid ((scan_hit hs).symm.trans HF1.out)
      clear HF1 hs
      refine wp_region_wc (W0:=V) (by kernel_rfl) (by kernel_rfl) z1.h ?_
      repeat (first | go_big_quiet_step ((fail)) | quiet_step ((fail)))
      refine wpQuiet_nil ?_
      rintro _ ⟨z2,rfl⟩
      have KW:Hid (∀z:WC V,Calls Tryz.prog 99 #[.int .i64 31,.int .i64 (5+(k:Int)),.int .i64 i] z.w fun e w'=>e=.returned (.agg #[.int .i64 31,.int .i64 (5+(k:Int)),.int .i64 i])∧∃u:WC V,w'=u.w):=Lib.hid (fun z=>WC.call (HWr.out 31 (5+(k:Int)) i z.w))
      go_wp2_with fail
      (with_reducible refine Calls.mono (KW.out z2) ?_)
      rintro e w' ⟨rfl,zr,rfl⟩
      clear KW
      go_wp2_with fail
      have b3:=(((HA.out.keep (Keep.of_below (HUp.out zr) (fun _=>False)) (by simp)).set 0 (.int .i64 31)).set 1 (.int .i64 (5+(k:Int)))).set 2 (.int .i64 i)
      have r0:=b3.cell 0
      have r1:=b3.cell 1
      have r2:=b3.cell 2
      refine bodyPost_ret (v:=.agg #[.int .i64 31,.int .i64 (5+(k:Int)),.int .i64 i]) (res_wrong Hres.out (by rfl) r0 r1 r2) rfl ?_
      exact⟨by rw[←HR.out];rfl,set3_below (HB.out.trans ((HUp.out zr).mono HB.out.size)) (by omega)⟩
     | false=>
      cases h0:markB TT x.1 with
      | true=>
       rw[h0] at g1
       have hs:fromM (5+(k:Int)) TT x i=some (31,5+(k:Int),(i:Int)):=by unfold fromM;rw[h0];rfl
       clear h0 HW
       have HR:=Lib.hid ((scan_hit hs).symm.trans HF1.out)
       clear HF1 hs
       refine wp_region_wc (W0:=V) (by kernel_rfl) (by kernel_rfl) z1.h ?_
       repeat (first | go_big_quiet_step ((fail)) | quiet_step ((fail)))
       refine wpQuiet_nil ?_
       rintro _ ⟨z2,rfl⟩
       have KW:Hid (∀z:WC V,Calls Tryz.prog 99 #[.int .i64 31,.int .i64 (5+(k:Int)),.int .i64 i] z.w fun e w'=>e=.returned (.agg #[.int .i64 31,.int .i64 (5+(k:Int)),.int .i64 i])∧∃u:WC V,w'=u.w):=Lib.hid (fun z=>WC.call (HWr.out 31 (5+(k:Int)) i z.w))
       go_wp2_with fail
       (with_reducible refine Calls.mono (KW.out z2) ?_)
       rintro e w' ⟨rfl,zr,rfl⟩
       clear KW
       go_wp2_with fail
       have b3:=(((HA.out.keep (Keep.of_below (HUp.out zr) (fun _=>False)) (by simp)).set 0 (.int .i64 31)).set 1 (.int .i64 (5+(k:Int)))).set 2 (.int .i64 i)
       have r0:=b3.cell 0
       have r1:=b3.cell 1
       have r2:=b3.cell 2
       refine bodyPost_ret (v:=.agg #[.int .i64 31,.int .i64 (5+(k:Int)),.int .i64 i]) (res_wrong Hres.out (by rfl) r0 r1 r2) rfl ?_
       exact⟨by rw[←HR.out];rfl,set3_below (HB.out.trans ((HUp.out zr).mono HB.out.size)) (by omega)⟩
      | false=>
       rw[h0] at g1
       have hs:fromM (5+(k:Int)) TT x i=none:=by unfold fromM;rw[h0,HW];rfl
       have HF2:=Lib.hid ((scan_miss hs).symm.trans HF1.out)
       clear HF1 h0 HW hs
       refine wp_region_wc (W0:=V) (by kernel_rfl) (by kernel_rfl) z1.h ?_
       repeat (first | go_big_quiet_step ((fail)) | quiet_step ((fail)))
       refine wpQuiet_nil ?_
       rintro _ ⟨z2,rfl⟩
       go_wp2_with fail
       exact⟨⟨i+1,⟨z2.w,HUp.out z2⟩,by go_num,by omega,HF2,by first | rfl | trivial⟩,by simp[intOf];omega⟩
    ·obtain rfl:i=L.length:=by omega
     have HF0:=Lib.hid (scan_end HF.out)
     clear hi hlt i0 HF
     have HF:=Lib.hid HF0.out
     clear HF0
     go_wp2_with fail
     exact⟨⟨k+1,y,by go_num,by omega,HF,by first | rfl | trivial⟩,by simp[intOf];omega⟩
  ·obtain rfl:k=2:=by omega
   have HF2:Hid ((0,0,0)=R):=Lib.hid HF.out
   clear HF hk2 hk k0
   have HF:=Lib.hid HF2.out
   clear HF2
   try simp only[Int.cast_ofNat_Int]
   have HR:=Lib.hid HF.out
   go_wp2_with fail
   have b3:=(((HA.out.keep (Keep.of_below y.h (fun _=>False)) (by simp)).set 0 (.int .i64 0)).set 1 (.int .i64 0)).set 2 (.int .i64 0)
   have r0:=b3.cell 0
   have r1:=b3.cell 1
   have r2:=b3.cell 2
   refine bodyPost_ret (v:=.agg #[.int .i64 0,.int .i64 0,.int .i64 0]) (res_wrong Hres.out (by rfl) r0 r1 r2) rfl ?_
   exact⟨by rw[←HR.out];rfl,set3_below (HB.out.trans (y.h.mono HB.out.size)) (by omega)⟩
end Go.Proofs.YtioehfhdoohdmaaGreatDoor
namespace Go.Proofs.YtioehfhdoohdmaaGreatDoor
open Go.RowKit Go.Shelf BigFrame
set_option maxRecDepth 100000 in
set_option maxHeartbeats 40000000 in
theorem clong_any (T:Tab) (a:TAddr) (M:MAddr) (W:World) (h:ChkAt W M T a):Calls Tryz.prog 66 #[.pointer (some ⟨M.bc,0,none⟩)] W fun e w'=>e=.returned (wV (longW T))∧Below W.heap.size W w':=by
 obtain⟨l0,l1,l2,l3,l4,l5,l6,l7⟩:=T
 obtain⟨o0,o1,o2,o3,o4,o5,o6,o7,c0,c1,c2,c3,c4,c5,c6,c7⟩:=a
 obtain⟨bc,bb,m1,m2,m3,m4,m5⟩:=M
 have hB:Below W.heap.size W (W.alloc (.cells #[.int .i64 0,.int .i64 0,.int .i64 0] 100)):=(Below.refl _ W).alloc (Nat.le_refl _) _
 have bA:=Blk.new' W #[.int .i64 0,.int .i64 0,.int .i64 0] 100
 have hC:=h.below hB
 obtain⟨W0,hW0⟩:∃W0,W.alloc (.cells #[.int .i64 0,.int .i64 0,.int .i64 0] 100)=W0:=⟨_,rfl⟩
 rw[hW0] at hB bA hC
 have HW0:=Lib.hid hW0
 have HB:=Lib.hid hB
 have HA:=Lib.hid bA
 have HZ:Hid (W.heap.size<W0.heap.size):=Lib.hid bA.lt
 have hT:=hC.tab
 have a0:∀y:WC W0,y.w.cell? ⟨W.heap.size,0,none⟩=some (.int .i64 0):=WC.cell (bA.cell 0)
 have f0:∀y:WC W0,y.w.frozen? ⟨W.heap.size,0,none⟩=false:=WC.frozen (bA.cell 0) (bA.frozen 0)
 have a1:∀y:WC W0,y.w.cell? ⟨W.heap.size,1,none⟩=some (.int .i64 0):=WC.cell (bA.cell 1)
 have f1:∀y:WC W0,y.w.frozen? ⟨W.heap.size,1,none⟩=false:=WC.frozen (bA.cell 1) (bA.frozen 1)
 have a2:∀y:WC W0,y.w.cell? ⟨W.heap.size,2,none⟩=some (.int .i64 0):=WC.cell (bA.cell 2)
 have f2:∀y:WC W0,y.w.frozen? ⟨W.heap.size,2,none⟩=false:=WC.frozen (bA.cell 2) (bA.frozen 2)
 have t0:∀y:WC W0,y.w.cell? ⟨bc,0,none⟩=some (.slice o0 l0.length c0):=WC.cell (hC.c 0 (.slice o0 l0.length c0) rfl)
 have m0x:l0.length≤9223372036854775807:=hT.m0
 have HL0:=Lib.hid hT.scripts
 have t1:∀y:WC W0,y.w.cell? ⟨bc,1,none⟩=some (.slice o1 l1.length c1):=WC.cell (hC.c 1 (.slice o1 l1.length c1) rfl)
 have m1x:l1.length≤9223372036854775807:=hT.m1
 have HL1:=Lib.hid hT.common
 have t2:∀y:WC W0,y.w.cell? ⟨bc,2,none⟩=some (.slice o2 l2.length c2):=WC.cell (hC.c 2 (.slice o2 l2.length c2) rfl)
 have m2x:l2.length≤9223372036854775807:=hT.m2
 have HL2:=Lib.hid hT.marks
 have t3:∀y:WC W0,y.w.cell? ⟨bc,3,none⟩=some (.slice o3 l3.length c3):=WC.cell (hC.c 3 (.slice o3 l3.length c3) rfl)
 have m3x:l3.length≤9223372036854775807:=hT.m3
 have HL3:=Lib.hid hT.pairs
 have t4:∀y:WC W0,y.w.cell? ⟨bc,4,none⟩=some (.slice o4 l4.length c4):=WC.cell (hC.c 4 (.slice o4 l4.length c4) rfl)
 have m4x:l4.length≤9223372036854775807:=hT.m4
 have HL4:=Lib.hid hT.folds
 have t5:∀y:WC W0,y.w.cell? ⟨bc,5,none⟩=some (.slice o5 l5.length c5):=WC.cell (hC.c 5 (.slice o5 l5.length c5) rfl)
 have m5x:l5.length≤9223372036854775807:=hT.m5
 have HL5:=Lib.hid hT.looks
 have t6:∀y:WC W0,y.w.cell? ⟨bc,6,none⟩=some (.slice o6 l6.length c6):=WC.cell (hC.c 6 (.slice o6 l6.length c6) rfl)
 have m6x:l6.length≤9223372036854775807:=hT.m6
 have HL6:=Lib.hid hT.drops
 have t7:∀y:WC W0,y.w.cell? ⟨bc,7,none⟩=some (.slice o7 l7.length c7):=WC.cell (hC.c 7 (.slice o7 l7.length c7) rfl)
 have m7x:l7.length≤9223372036854775807:=hT.m7
 have HL7:=Lib.hid hT.allowed
 have HWr:Hid (∀(a b c:Int) (U:World),Calls Tryz.prog 99 #[.int .i64 a,.int .i64 b,.int .i64 c] U fun e w'=>e=.returned (.agg #[.int .i64 a,.int .i64 b,.int .i64 c])∧Below U.heap.size U w'):=Lib.hid (fun a b c U=>twrong_any a b c U)
 clear hC hT hB h bA hW0
 obtain⟨R,hR⟩:∃R,longW ⟨l0,l1,l2,l3,l4,l5,l6,l7⟩=R:=⟨_,rfl⟩
 rw[hR]
 unfold longW at hR
 try dsimp only at hR
 have HF:=Lib.hid hR
 clear hR
 obtain⟨LN,hLN⟩:∃LN,lens ⟨l0,l1,l2,l3,l4,l5,l6,l7⟩=LN:=⟨_,rfl⟩
 have HLN:=Lib.hid hLN
 rw[hLN] at HF
 clear hLN
 obtain⟨fn,hfn,Hres⟩:∃fn,Tryz.f66=fn∧Hid (fn.results=#[.cell 2 100]):=⟨_,rfl,Lib.hid Tryz.results66⟩
 go_enter Tryz.func66,Tryz.ntmps66
 rw[hfn]
 clear hfn
 go_upto_region 1 with fail
 try dsimp only
 rw[HW0.out]
 clear HW0
 obtain⟨y,hy⟩:∃y:WC W0,y.w=W0:=⟨WC.of W0,rfl⟩
 rw[←hy]
 clear hy
 by_cases h64:64<l0.length
 ·have d64:decide ((64:Int)<(l0.length:Int))=true:=by rw[decide_eq_true_iff];omega
  have HR:Hid (((4,1,64):W3)=R):=Lib.hid (by rw[←HF.out,if_pos h64])
  clear HF h64
  have KW:Hid (∀z:WC W0,Calls Tryz.prog 99 #[.int .i64 4,.int .i64 1,.int .i64 64] z.w fun e w'=>e=.returned (.agg #[.int .i64 4,.int .i64 1,.int .i64 64])∧∃u:WC W0,w'=u.w):=Lib.hid (fun z=>WC.call (HWr.out 4 1 64 z.w))
  go_wp2_with fail
  (with_reducible refine Calls.mono (KW.out y) ?_)
  rintro e w' ⟨rfl,zr,rfl⟩
  clear KW
  go_wp2_with fail
  have b3:=(((HA.out.keep (Keep.of_below zr.h (fun _=>False)) (by simp)).set 0 (.int .i64 4)).set 1 (.int .i64 1)).set 2 (.int .i64 64)
  have r0:=b3.cell 0
  have r1:=b3.cell 1
  have r2:=b3.cell 2
  refine bodyPost_ret (v:=.agg #[.int .i64 4,.int .i64 1,.int .i64 64]) (res_wrong Hres.out (by rfl) r0 r1 r2) rfl ?_
  exact⟨by rw[←HR.out];rfl,set3_below (HB.out.trans (zr.h.mono HB.out.size)) (by omega)⟩
 ·have d64:decide ((64:Int)<(l0.length:Int))=false:=by rw[decide_eq_false_iff_not];omega
  have HF2:Hid (scan longS l0 0 (scan lenM LN 0 (0,0,0))=R):=Lib.hid (by rw[←HF.out,if_neg h64])
  clear HF h64
  have HF:=Lib.hid HF2.out
  clear HF2
  go_wp2_with fail
  go_loopw [21] (fun v21 wr=>∃(i:Nat) (y:WC W0),v21=.int .i64 i∧i≤l0.length∧Hid (scan (longS) (l0.drop i) i (scan lenM LN 0 (0,0,0))=R)∧wr=y.w) (fun v21 _=>l0.length - (intOf v21).toNat)
  case atStart=>exact⟨0,y,rfl,Nat.zero_le _,HF,rfl⟩
  case round=>
   clear HF
   obtain⟨i,y,rfl,hi,HF,rfl⟩:=hrel
   have i0:(0:Int)≤(i:Int):=Int.natCast_nonneg _
   by_cases hlt:i<l0.length
   ·have i1:(i:Int)<(l0.length:Int):=by omega
    obtain⟨g,off,so,sc,ho,hg,c0,c1,cs,cz,cy⟩:=HL0.out i hlt
    subst ho
    have HF1:=Lib.hid (scan_step hlt HF.out)
    generalize l0[i]=x at *
    have e0:=fun y:WC W0=>y.cell c0
    have e1:=fun y:WC W0=>y.cell c1
    clear HF c0 c1 cs cz
    go_upto_region 6 with fail
    have bX:=Blk.new' y.w #[.string x.1,.slice so x.2.length sc] 128
    have HV1:Hid (Below W0.heap.size W0 (y.w.alloc (.cells #[.string x.1,.slice so x.2.length sc] 128))):=Lib.hid (y.h.alloc y.h.size _)
    obtain⟨V,hV⟩:∃V,y.w.alloc (.cells #[.string x.1,.slice so x.2.length sc] 128)=V:=⟨_,rfl⟩
    rw[hV] at bX HV1 ⊢
    obtain⟨bx,hbx⟩:∃b,y.w.heap.size=b:=⟨_,rfl⟩
    rw[hbx] at bX ⊢
    clear hV hbx
    have x0:∀z:WC V,z.w.cell? ⟨bx,0,none⟩=some (.string x.1):=WC.cell (bX.cell 0)
    have x1:∀z:WC V,z.w.cell? ⟨bx,1,none⟩=some (.slice so x.2.length sc):=WC.cell (bX.cell 1)
    have HUp:Hid (∀z:WC V,Below W0.heap.size W0 z.w):=Lib.hid (fun z=>HV1.out.trans (z.h.mono HV1.out.size))
    have a0z:∀z:WC V,z.w.cell? ⟨W.heap.size,0,none⟩=some (.int .i64 0):=fun z=>a0 ⟨z.w,HUp.out z⟩
    have a1z:∀z:WC V,z.w.cell? ⟨W.heap.size,1,none⟩=some (.int .i64 0):=fun z=>a1 ⟨z.w,HUp.out z⟩
    have a2z:∀z:WC V,z.w.cell? ⟨W.heap.size,2,none⟩=some (.int .i64 0):=fun z=>a2 ⟨z.w,HUp.out z⟩
    have f0z:∀z:WC V,z.w.frozen? ⟨W.heap.size,0,none⟩=false:=fun z=>f0 ⟨z.w,HUp.out z⟩
    have f1z:∀z:WC V,z.w.frozen? ⟨W.heap.size,1,none⟩=false:=fun z=>f1 ⟨z.w,HUp.out z⟩
    have f2z:∀z:WC V,z.w.frozen? ⟨W.heap.size,2,none⟩=false:=fun z=>f2 ⟨z.w,HUp.out z⟩
    clear bX HV1
    obtain⟨z,hz⟩:∃z:WC V,z.w=V:=⟨WC.of V,rfl⟩
    conv=>arg 5;rw[←hz]
    clear hz
    cases h0:decide ((1024:Int)<(x.2.length:Int)) with
    | true=>
     have HR:=Lib.hid ((scan_hit (f:=longS) (by unfold longS;simp only[h0];rfl)).symm.trans HF1.out)
     clear HF1
     have KW:Hid (∀z:WC V,Calls Tryz.prog 99 #[.int .i64 4,.int .i64 1,.int .i64 i] z.w fun e w'=>e=.returned (.agg #[.int .i64 4,.int .i64 1,.int .i64 i])∧∃u:WC V,w'=u.w):=Lib.hid (fun z=>WC.call (HWr.out 4 1 i z.w))
     go_wp2_with fail
     (with_reducible refine Calls.mono (KW.out z) ?_)
     rintro e w' ⟨rfl,zr,rfl⟩
     clear KW
     go_wp2_with fail
     have b3:=(((HA.out.keep (Keep.of_below (HUp.out zr) (fun _=>False)) (by simp)).set 0 (.int .i64 4)).set 1 (.int .i64 1)).set 2 (.int .i64 i)
     have r0:=b3.cell 0
     have r1:=b3.cell 1
     have r2:=b3.cell 2
     refine bodyPost_ret (v:=.agg #[.int .i64 4,.int .i64 1,.int .i64 i]) (res_wrong Hres.out (by rfl) r0 r1 r2) rfl ?_
     exact⟨by rw[←HR.out];rfl,set3_below (HB.out.trans ((HUp.out zr).mono HB.out.size)) (by omega)⟩
    | false=>
     have HF2:=Lib.hid ((scan_miss (f:=longS) (by unfold longS;simp only[h0];rfl)).symm.trans HF1.out)
     clear HF1
     go_wp2_with fail
     exact⟨⟨i+1,⟨z.w,HUp.out z⟩,by go_num,by omega,HF2,by first | rfl | trivial⟩,by simp[intOf];omega⟩
   ·obtain rfl:i=l0.length:=by omega
    have HF0:=Lib.hid (scan_end HF.out)
    clear hi hlt i0 HF
    have HF:=Lib.hid HF0.out
    clear HF0
    go_wp2_with fail
    have HS:=Lib.hid (fun w' (hb:Below W0.heap.size W0 w')=>((⟨t1 ⟨w',hb⟩,t2 ⟨w',hb⟩,t3 ⟨w',hb⟩,t4 ⟨w',hb⟩,t5 ⟨w',hb⟩,t6 ⟨w',hb⟩,t7 ⟨w',hb⟩⟩):w'.cell? ⟨bc,1,none⟩=some (.slice o1 l1.length c1)∧w'.cell? ⟨bc,2,none⟩=some (.slice o2 l2.length c2)∧w'.cell? ⟨bc,3,none⟩=some (.slice o3 l3.length c3)∧w'.cell? ⟨bc,4,none⟩=some (.slice o4 l4.length c4)∧w'.cell? ⟨bc,5,none⟩=some (.slice o5 l5.length c5)∧w'.cell? ⟨bc,6,none⟩=some (.slice o6 l6.length c6)∧w'.cell? ⟨bc,7,none⟩=some (.slice o7 l7.length c7)))
    have hy0:=y.h.drew
    have hy1:=y.h.drew.size
    go_region_held3 (fun w'=>w'.cell? ⟨bc,1,none⟩=some (.slice o1 l1.length c1)∧w'.cell? ⟨bc,2,none⟩=some (.slice o2 l2.length c2)∧w'.cell? ⟨bc,3,none⟩=some (.slice o3 l3.length c3)∧w'.cell? ⟨bc,4,none⟩=some (.slice o4 l4.length c4)∧w'.cell? ⟨bc,5,none⟩=some (.slice o5 l5.length c5)∧w'.cell? ⟨bc,6,none⟩=some (.slice o6 l6.length c6)∧w'.cell? ⟨bc,7,none⟩=some (.slice o7 l7.length c7)) (first | exact HS.out _ hy0 | exact HS.out _ (Below.alloc hy0 hy1 _) | exact HS.out _ (by exact Below.alloc hy0 hy1 _)) (fail)
    all_goals (refine ?hJ)
    clear HS hy0 hy1
    trace_state
    have hE9:Below W0.heap.size W0 ((y.w.alloc (.cells #[.int .i64 2,.int .i64 l1.length,.int .i64 1024,.int .i64 3,.int .i64 l2.length,.int .i64 512,.int .i64 4,.int .i64 l3.length,.int .i64 4096,.int .i64 5,.int .i64 l4.length,.int .i64 4096,.int .i64 6,.int .i64 l5.length,.int .i64 4096,.int .i64 7,.int .i64 l6.length,.int .i64 1024,.int .i64 8,.int .i64 l7.length,.int .i64 1024] 163)).drew):=(y.h.alloc y.h.size _).drew
    have bX9:Blk ((y.w.alloc (.cells #[.int .i64 2,.int .i64 l1.length,.int .i64 1024,.int .i64 3,.int .i64 l2.length,.int .i64 512,.int .i64 4,.int .i64 l3.length,.int .i64 4096,.int .i64 5,.int .i64 l4.length,.int .i64 4096,.int .i64 6,.int .i64 l5.length,.int .i64 4096,.int .i64 7,.int .i64 l6.length,.int .i64 1024,.int .i64 8,.int .i64 l7.length,.int .i64 1024] 163)).drew) y.w.heap.size [.int .i64 2,.int .i64 l1.length,.int .i64 1024,.int .i64 3,.int .i64 l2.length,.int .i64 512,.int .i64 4,.int .i64 l3.length,.int .i64 4096,.int .i64 5,.int .i64 l4.length,.int .i64 4096,.int .i64 6,.int .i64 l5.length,.int .i64 4096,.int .i64 7,.int .i64 l6.length,.int .i64 1024,.int .i64 8,.int .i64 l7.length,.int .i64 1024] 163:=Blk.new' y.w #[.int .i64 2,.int .i64 l1.length,.int .i64 1024,.int .i64 3,.int .i64 l2.length,.int .i64 512,.int .i64 4,.int .i64 l3.length,.int .i64 4096,.int .i64 5,.int .i64 l4.length,.int .i64 4096,.int .i64 6,.int .i64 l5.length,.int .i64 4096,.int .i64 7,.int .i64 l6.length,.int .i64 1024,.int .i64 8,.int .i64 l7.length,.int .i64 1024] 163
    obtain⟨W9,hW9⟩:∃W9,(y.w.alloc (.cells #[.int .i64 2,.int .i64 l1.length,.int .i64 1024,.int .i64 3,.int .i64 l2.length,.int .i64 512,.int .i64 4,.int .i64 l3.length,.int .i64 4096,.int .i64 5,.int .i64 l4.length,.int .i64 4096,.int .i64 6,.int .i64 l5.length,.int .i64 4096,.int .i64 7,.int .i64 l6.length,.int .i64 1024,.int .i64 8,.int .i64 l7.length,.int .i64 1024] 163)).drew=W9:=⟨_,rfl⟩
    rw[hW9] at hE9 bX9 ⊢
    obtain⟨b9,hb9⟩:∃b,y.w.heap.size=b:=⟨_,rfl⟩
    rw[hb9] at bX9 ⊢
    clear hW9 hb9
    have HUp9:Hid (∀z:WC W9,Below W0.heap.size W0 z.w):=Lib.hid (fun z=>hE9.trans (z.h.mono hE9.size))
    replace a0:∀y:WC W9,y.w.cell? ⟨W.heap.size,0,none⟩=some (.int .i64 0):=fun z=>a0 ⟨z.w,HUp9.out z⟩
    replace f0:∀y:WC W9,y.w.frozen? ⟨W.heap.size,0,none⟩=false:=fun z=>f0 ⟨z.w,HUp9.out z⟩
    replace a1:∀y:WC W9,y.w.cell? ⟨W.heap.size,1,none⟩=some (.int .i64 0):=fun z=>a1 ⟨z.w,HUp9.out z⟩
    replace f1:∀y:WC W9,y.w.frozen? ⟨W.heap.size,1,none⟩=false:=fun z=>f1 ⟨z.w,HUp9.out z⟩
    replace a2:∀y:WC W9,y.w.cell? ⟨W.heap.size,2,none⟩=some (.int .i64 0):=fun z=>a2 ⟨z.w,HUp9.out z⟩
    replace f2:∀y:WC W9,y.w.frozen? ⟨W.heap.size,2,none⟩=false:=fun z=>f2 ⟨z.w,HUp9.out z⟩
    replace t0:∀y:WC W9,y.w.cell? ⟨bc,0,none⟩=some (.slice o0 l0.length c0):=fun z=>t0 ⟨z.w,HUp9.out z⟩
    replace t1:∀y:WC W9,y.w.cell? ⟨bc,1,none⟩=some (.slice o1 l1.length c1):=fun z=>t1 ⟨z.w,HUp9.out z⟩
    replace t2:∀y:WC W9,y.w.cell? ⟨bc,2,none⟩=some (.slice o2 l2.length c2):=fun z=>t2 ⟨z.w,HUp9.out z⟩
    replace t3:∀y:WC W9,y.w.cell? ⟨bc,3,none⟩=some (.slice o3 l3.length c3):=fun z=>t3 ⟨z.w,HUp9.out z⟩
    replace t4:∀y:WC W9,y.w.cell? ⟨bc,4,none⟩=some (.slice o4 l4.length c4):=fun z=>t4 ⟨z.w,HUp9.out z⟩
    replace t5:∀y:WC W9,y.w.cell? ⟨bc,5,none⟩=some (.slice o5 l5.length c5):=fun z=>t5 ⟨z.w,HUp9.out z⟩
    replace t6:∀y:WC W9,y.w.cell? ⟨bc,6,none⟩=some (.slice o6 l6.length c6):=fun z=>t6 ⟨z.w,HUp9.out z⟩
    replace t7:∀y:WC W9,y.w.cell? ⟨bc,7,none⟩=some (.slice o7 l7.length c7):=fun z=>t7 ⟨z.w,HUp9.out z⟩
    replace HL0:=Lib.hid (HL0.out.below hE9)
    replace HL1:=Lib.hid (HL1.out.below hE9)
    replace HL2:=Lib.hid (HL2.out.below hE9)
    replace HL3:=Lib.hid (HL3.out.below hE9)
    replace HL4:=Lib.hid (HL4.out.below hE9)
    replace HL5:=Lib.hid (HL5.out.below hE9)
    replace HL6:=Lib.hid (HL6.out.below hE9)
    replace HL7:=Lib.hid (HL7.out.below hE9)
    replace HA:=Lib.hid (HA.out.keep (Keep.of_below hE9 (fun _=>False)) (by simp))
    replace HZ:=Lib.hid (Nat.lt_of_lt_of_le HZ.out hE9.size)
    replace HB:=Lib.hid (HB.out.trans (hE9.mono HB.out.size))
    have s0:∀y:WC W9,y.w.cell? ⟨b9,0,none⟩=some (.int .i64 2):=WC.cell (bX9.cell 0)
    have s1:∀y:WC W9,y.w.cell? ⟨b9,1,none⟩=some (.int .i64 l1.length):=WC.cell (bX9.cell 1)
    have s2:∀y:WC W9,y.w.cell? ⟨b9,2,none⟩=some (.int .i64 1024):=WC.cell (bX9.cell 2)
    have s3:∀y:WC W9,y.w.cell? ⟨b9,3,none⟩=some (.int .i64 3):=WC.cell (bX9.cell 3)
    have s4:∀y:WC W9,y.w.cell? ⟨b9,4,none⟩=some (.int .i64 l2.length):=WC.cell (bX9.cell 4)
    have s5:∀y:WC W9,y.w.cell? ⟨b9,5,none⟩=some (.int .i64 512):=WC.cell (bX9.cell 5)
    have s6:∀y:WC W9,y.w.cell? ⟨b9,6,none⟩=some (.int .i64 4):=WC.cell (bX9.cell 6)
    have s7:∀y:WC W9,y.w.cell? ⟨b9,7,none⟩=some (.int .i64 l3.length):=WC.cell (bX9.cell 7)
    have s8:∀y:WC W9,y.w.cell? ⟨b9,8,none⟩=some (.int .i64 4096):=WC.cell (bX9.cell 8)
    have s9:∀y:WC W9,y.w.cell? ⟨b9,9,none⟩=some (.int .i64 5):=WC.cell (bX9.cell 9)
    have s10:∀y:WC W9,y.w.cell? ⟨b9,10,none⟩=some (.int .i64 l4.length):=WC.cell (bX9.cell 10)
    have s11:∀y:WC W9,y.w.cell? ⟨b9,11,none⟩=some (.int .i64 4096):=WC.cell (bX9.cell 11)
    have s12:∀y:WC W9,y.w.cell? ⟨b9,12,none⟩=some (.int .i64 6):=WC.cell (bX9.cell 12)
    have s13:∀y:WC W9,y.w.cell? ⟨b9,13,none⟩=some (.int .i64 l5.length):=WC.cell (bX9.cell 13)
    have s14:∀y:WC W9,y.w.cell? ⟨b9,14,none⟩=some (.int .i64 4096):=WC.cell (bX9.cell 14)
    have s15:∀y:WC W9,y.w.cell? ⟨b9,15,none⟩=some (.int .i64 7):=WC.cell (bX9.cell 15)
    have s16:∀y:WC W9,y.w.cell? ⟨b9,16,none⟩=some (.int .i64 l6.length):=WC.cell (bX9.cell 16)
    have s17:∀y:WC W9,y.w.cell? ⟨b9,17,none⟩=some (.int .i64 1024):=WC.cell (bX9.cell 17)
    have s18:∀y:WC W9,y.w.cell? ⟨b9,18,none⟩=some (.int .i64 8):=WC.cell (bX9.cell 18)
    have s19:∀y:WC W9,y.w.cell? ⟨b9,19,none⟩=some (.int .i64 l7.length):=WC.cell (bX9.cell 19)
    have s20:∀y:WC W9,y.w.cell? ⟨b9,20,none⟩=some (.int .i64 1024):=WC.cell (bX9.cell 20)
    clear hE9 bX9 HUp9
    try clear y
    obtain⟨W0,h9⟩:∃X,X=W9:=⟨_,rfl⟩
    subst h9
    obtain⟨y,hy⟩:∃y:WC W0,y.w=W0:=⟨WC.of W0,rfl⟩
    conv=>arg 5;rw[←hy]
    clear hy
    have HF2:Hid (scan lenM (LN.drop 0) 0 (0,0,0)=R):=Lib.hid HF.out
    clear HF
    have HF:=Lib.hid HF2.out
    clear HF2
    go_wp2_with fail
    go_loopw [84] (fun v84 wr=>∃(i:Nat) (y:WC W0),v84=.int .i64 i∧i≤7∧Hid (scan lenM (LN.drop i) i (0,0,0)=R)∧wr=y.w) (fun v84 _=>7 - (intOf v84).toNat)
    case atStart=>exact⟨0,y,rfl,by omega,HF,rfl⟩
    case round=>
     clear HF y
     obtain⟨i,y,rfl,hi,HF,rfl⟩:=hrel
     have i0:(0:Int)≤(i:Int):=Int.natCast_nonneg _
     by_cases hlt:i<7
     ·have i1:(i:Int)<7:=by omega
      obtain⟨n,mo,e0,e1,e2,HF1⟩:∃n mo:Int,(∀y:WC W0,y.w.cell? ⟨b9,i*3,none⟩=some (.int .i64 (2+(i:Int))))∧(∀y:WC W0,y.w.cell? ⟨b9,i*3+1,none⟩=some (.int .i64 n))∧(∀y:WC W0,y.w.cell? ⟨b9,i*3+2,none⟩=some (.int .i64 mo))∧Hid (scan lenM ((n,mo)::LN.drop (i+1)) i (0,0,0)=R):=by
       have e:=HLN.out
       subst e
       rcases (by omega:i=0∨i=1∨i=2∨i=3∨i=4∨i=5∨i=6) with rfl | rfl | rfl | rfl | rfl | rfl | rfl
       ·exact⟨_,_,s0,s1,s2,HF⟩
       ·exact⟨_,_,s3,s4,s5,HF⟩
       ·exact⟨_,_,s6,s7,s8,HF⟩
       ·exact⟨_,_,s9,s10,s11,HF⟩
       ·exact⟨_,_,s12,s13,s14,HF⟩
       ·exact⟨_,_,s15,s16,s17,HF⟩
       ·exact⟨_,_,s18,s19,s20,HF⟩
      clear HF s0 s1 s2 s3 s4 s5 s6 s7 s8 s9 s10 s11 s12 s13 s14 s15 s16 s17 s18 s19 s20
      go_upto_region 12 with fail
      have bX:=Blk.new' y.w #[.int .i64 (2+(i:Int)),.int .i64 n,.int .i64 mo] 163
      have HV1:Hid (Below W0.heap.size W0 (y.w.alloc (.cells #[.int .i64 (2+(i:Int)),.int .i64 n,.int .i64 mo] 163))):=Lib.hid (y.h.alloc y.h.size _)
      obtain⟨V,hV⟩:∃V,y.w.alloc (.cells #[.int .i64 (2+(i:Int)),.int .i64 n,.int .i64 mo] 163)=V:=⟨_,rfl⟩
      rw[hV] at bX HV1 ⊢
      obtain⟨bx,hbx⟩:∃b,y.w.heap.size=b:=⟨_,rfl⟩
      rw[hbx] at bX ⊢
      clear hV hbx
      have x0:∀z:WC V,z.w.cell? ⟨bx,0,none⟩=some (.int .i64 (2+(i:Int))):=WC.cell (bX.cell 0)
      have x1:∀z:WC V,z.w.cell? ⟨bx,1,none⟩=some (.int .i64 n):=WC.cell (bX.cell 1)
      have x2:∀z:WC V,z.w.cell? ⟨bx,2,none⟩=some (.int .i64 mo):=WC.cell (bX.cell 2)
      have HUp:Hid (∀z:WC V,Below W0.heap.size W0 z.w):=Lib.hid (fun z=>HV1.out.trans (z.h.mono HV1.out.size))
      have a0z:∀z:WC V,z.w.cell? ⟨W.heap.size,0,none⟩=some (.int .i64 0):=fun z=>a0 ⟨z.w,HUp.out z⟩
      have a1z:∀z:WC V,z.w.cell? ⟨W.heap.size,1,none⟩=some (.int .i64 0):=fun z=>a1 ⟨z.w,HUp.out z⟩
      have a2z:∀z:WC V,z.w.cell? ⟨W.heap.size,2,none⟩=some (.int .i64 0):=fun z=>a2 ⟨z.w,HUp.out z⟩
      have f0z:∀z:WC V,z.w.frozen? ⟨W.heap.size,0,none⟩=false:=fun z=>f0 ⟨z.w,HUp.out z⟩
      have f1z:∀z:WC V,z.w.frozen? ⟨W.heap.size,1,none⟩=false:=fun z=>f1 ⟨z.w,HUp.out z⟩
      have f2z:∀z:WC V,z.w.frozen? ⟨W.heap.size,2,none⟩=false:=fun z=>f2 ⟨z.w,HUp.out z⟩
      clear bX HV1
      obtain⟨z,hz⟩:∃z:WC V,z.w=V:=⟨WC.of V,rfl⟩
      conv=>arg 5;rw[←hz]
      clear hz
      cases h0:decide (mo<n) with
      | true=>
       have HR:=Lib.hid ((scan_hit (f:=lenM) (by unfold lenM;simp only[h0];rfl)).symm.trans HF1.out)
       clear HF1
       have KW:Hid (∀z:WC V,Calls Tryz.prog 99 #[.int .i64 4,.int .i64 (2+(i:Int)),.int .i64 mo] z.w fun e w'=>e=.returned (.agg #[.int .i64 4,.int .i64 (2+(i:Int)),.int .i64 mo])∧∃u:WC V,w'=u.w):=Lib.hid (fun z=>WC.call (HWr.out 4 (2+(i:Int)) mo z.w))
       go_wp2_with fail
       (with_reducible refine Calls.mono (KW.out z) ?_)
       rintro e w' ⟨rfl,zr,rfl⟩
       clear KW
       go_wp2_with fail
       have b3:=(((HA.out.keep (Keep.of_below (HUp.out zr) (fun _=>False)) (by simp)).set 0 (.int .i64 4)).set 1 (.int .i64 (2+(i:Int)))).set 2 (.int .i64 mo)
       have r0:=b3.cell 0
       have r1:=b3.cell 1
       have r2:=b3.cell 2
       refine bodyPost_ret (v:=.agg #[.int .i64 4,.int .i64 (2+(i:Int)),.int .i64 mo]) (res_wrong Hres.out (by rfl) r0 r1 r2) rfl ?_
       exact⟨by rw[←HR.out];rfl,set3_below (HB.out.trans ((HUp.out zr).mono HB.out.size)) (by omega)⟩
      | false=>
       have HF2:=Lib.hid ((scan_miss (f:=lenM) (by unfold lenM;simp only[h0];rfl)).symm.trans HF1.out)
       clear HF1
       go_wp2_with fail
       exact⟨⟨i+1,⟨z.w,HUp.out z⟩,by go_num,by omega,HF2,by first | rfl | trivial⟩,by simp[intOf];omega⟩
     ·obtain rfl:i=7:=by omega
      have HF2:Hid (((0,0,0):W3)=R):=Lib.hid (by have e:=HLN.out;subst e;exact HF.out)
      clear HF hi hlt i0
      have HF:=Lib.hid HF2.out
      clear HF2
      have HR:=Lib.hid HF.out
      go_wp2_with fail
      have b3:=(((HA.out.keep (Keep.of_below y.h (fun _=>False)) (by simp)).set 0 (.int .i64 0)).set 1 (.int .i64 0)).set 2 (.int .i64 0)
      have r0:=b3.cell 0
      have r1:=b3.cell 1
      have r2:=b3.cell 2
      refine bodyPost_ret (v:=.agg #[.int .i64 0,.int .i64 0,.int .i64 0]) (res_wrong Hres.out (by rfl) r0 r1 r2) rfl ?_
      exact⟨by rw[←HR.out];rfl,set3_below (HB.out.trans (y.h.mono HB.out.size)) (by omega)⟩
end Go.Proofs.YtioehfhdoohdmaaGreatDoor
namespace Go.Proofs.YtioehfhdoohdmaaGreatDoor
open Go.RowKit Go.Shelf BigFrame
def chainB (T:Tab):Nat→Int→Int→Int
 | 0,_,_=>-1
 | k+1,b,n=>if (pairO T b).isSome then chainB T k (pairA T b).1 (n+1) else n
theorem firstGo_at {α:Type}(p:α→Bool):∀(l:List α) (i:Nat) (x:α),l.find? p=some x→∃j,firstGo p l i=((i+j:Nat):Int)∧l[j]?=some x:=by
 intro l
 induction l with
 | nil=>intro i x h;cases h
 | cons y t ih=>
  intro i x h
  unfold firstGo
  by_cases c:p y=true
  ·rw[List.find?_cons_of_pos c] at h
   cases h
   exact⟨0,by rw[if_pos c];rfl,rfl⟩
  ·rw[List.find?_cons_of_neg c] at h
   obtain⟨j,h1,h2⟩:=ih (i+1) x h
   exact⟨j+1,by rw[if_neg c,h1];congr 1;omega,h2⟩
theorem chain_base (T:Tab):∀(k i:Nat) (n:Int),chainGo T k i n=chainB T k (T.pairs.getD i (0,0,0)).2.1 n:=by
 intro k
 induction k with
 | zero=>intro i n;rfl
 | succ k ih=>
  intro i n
  unfold chainGo chainB
  generalize (T.pairs.getD i (0,0,0)).2.1=b
  have h:=whole_pair T b
  cases e:pairO T b with
  | none=>
   rw[e] at h
   have:wholeN T b<0:=by have:=of_decide_eq_false (h.trans rfl);omega
   rw[if_pos this];rfl
  | some p=>
   rw[e] at h
   have h0:¬ wholeN T b<0:=by have:=of_decide_eq_true (h.trans rfl);omega
   obtain⟨j,h1,h2⟩:=firstGo_at (pkey b) T.pairs 0 p e
   have h3:wholeN T b=(j:Int):=by unfold wholeN firstN;rw[h1,Nat.zero_add]
   rw[if_neg h0,ih,h3,Int.toNat_natCast]
   have h4:pairA T b=p.2:=by unfold pairA;rw[e]
   rw[List.getD_eq_getElem?_getD,h2,h4]
   rfl
theorem pair_rune {T:Tab}(hp:∀x∈T.pairs,runeB x.1=true∧runeB x.2.1=true∧runeB x.2.2=true) {b:Int}(h:(pairO T b).isSome=true):runeB (pairA T b).1=true:=by
 cases e:pairO T b with
 | none=>rw[e] at h;cases h
 | some p=>
  have:=hp p (List.mem_of_find?_eq_some e)
  unfold pairA;rw[e];exact this.2.1
set_option maxRecDepth 100000 in
set_option maxHeartbeats 40000000 in
theorem cchains_any (T:Tab) (a:TAddr) (M:MAddr) (W:World) (h:ChkAt W M T a) (hM:MapsAt5 W M T) (hm3:T.pairs.length≤1048576) (hp:∀x∈T.pairs,runeB x.1=true∧runeB x.2.1=true∧runeB x.2.2=true):Calls Tryz.prog 70 #[.pointer (some ⟨M.bc,0,none⟩)] W fun e w'=>e=.returned (wV (scan (chainM T) T.pairs 0 (0,0,0)))∧Below W.heap.size W w':=by
 obtain⟨l0,l1,l2,l3,l4,l5,l6,l7⟩:=T
 obtain⟨o0,o1,o2,o3,o4,o5,o6,o7,c0,c1,c2,c3,c4,c5,c6,c7⟩:=a
 obtain⟨bc,bb,m1,m2,m3,m4,m5⟩:=M
 have hB:Below W.heap.size W (W.alloc (.cells #[.int .i64 0,.int .i64 0,.int .i64 0] 100)):=(Below.refl _ W).alloc (Nat.le_refl _) _
 have bA:=Blk.new' W #[.int .i64 0,.int .i64 0,.int .i64 0] 100
 have hC:=h.below hB
 have hMM:=hM.below hB
 obtain⟨W0,hW0⟩:∃W0,W.alloc (.cells #[.int .i64 0,.int .i64 0,.int .i64 0] 100)=W0:=⟨_,rfl⟩
 rw[hW0] at hB bA hC hMM
 have HW0:=Lib.hid hW0
 have HB:=Lib.hid hB
 have HA:=Lib.hid bA
 have HZ:Hid (W.heap.size<W0.heap.size):=Lib.hid bA.lt
 have hT:=hC.tab
 have a0:∀y:WC W0,y.w.cell? ⟨W.heap.size,0,none⟩=some (.int .i64 0):=WC.cell (bA.cell 0)
 have f0:∀y:WC W0,y.w.frozen? ⟨W.heap.size,0,none⟩=false:=WC.frozen (bA.cell 0) (bA.frozen 0)
 have a1:∀y:WC W0,y.w.cell? ⟨W.heap.size,1,none⟩=some (.int .i64 0):=WC.cell (bA.cell 1)
 have f1:∀y:WC W0,y.w.frozen? ⟨W.heap.size,1,none⟩=false:=WC.frozen (bA.cell 1) (bA.frozen 1)
 have a2:∀y:WC W0,y.w.cell? ⟨W.heap.size,2,none⟩=some (.int .i64 0):=WC.cell (bA.cell 2)
 have f2:∀y:WC W0,y.w.frozen? ⟨W.heap.size,2,none⟩=false:=WC.frozen (bA.cell 2) (bA.frozen 2)
 have t3:∀y:WC W0,y.w.cell? ⟨bc,3,none⟩=some (.slice o3 l3.length c3):=WC.cell (hC.c 3 (.slice o3 l3.length c3) rfl)
 have m3x:l3.length≤9223372036854775807:=hT.m3
 have HL3:=Lib.hid hT.pairs
 have t8:∀y:WC W0,y.w.cell? ⟨bc,8,none⟩=some (.pointer (some ⟨bb,0,none⟩)):=WC.cell hC.p
 have q1:∀y:WC W0,y.w.cell? ⟨bb,8,none⟩=some (.map (some m1)):=WC.cell hC.q1
 have q2:∀y:WC W0,y.w.cell? ⟨bb,9,none⟩=some (.map (some m2)):=WC.cell hC.q2
 have q3:∀y:WC W0,y.w.cell? ⟨bb,10,none⟩=some (.map (some m3)):=WC.cell hC.q3
 have q4:∀y:WC W0,y.w.cell? ⟨bb,11,none⟩=some (.map (some m4)):=WC.cell hC.q4
 have q5:∀y:WC W0,y.w.cell? ⟨bb,12,none⟩=some (.map (some m5)):=WC.cell hC.q5
 have HLp:Hid (∀(r:Int) (hr:runeB r=true) (U:World),Below W0.heap.size W0 U→(Instr.lookup 122 (.map (some m2)) (.int .i32 r) true).run Tryz.prog U=.ok (.tuple #[.agg #[.int .i32 (pairA ⟨l0,l1,l2,l3,l4,l5,l6,l7⟩ r).1,.int .i32 (pairA ⟨l0,l1,l2,l3,l4,l5,l6,l7⟩ r).2],.bool (pairO ⟨l0,l1,l2,l3,l4,l5,l6,l7⟩ r).isSome]) U):=Lib.hid (fun r hr U hU=>look_pair (hMM.m2.keep hU) (i32_of hr))
 have HCb:Hid (∀i (h:i<l3.length),chainN ⟨l0,l1,l2,l3,l4,l5,l6,l7⟩ i=chainB ⟨l0,l1,l2,l3,l4,l5,l6,l7⟩ l3.length l3[i].2.1 1):=Lib.hid (fun i h=>by unfold chainN;rw[chain_base];show chainB _ _ (l3.getD i (0,0,0)).2.1 1=_;rw[getD_at h])
 have HPr:Hid (∀b,(pairO ⟨l0,l1,l2,l3,l4,l5,l6,l7⟩ b).isSome=true→runeB (pairA ⟨l0,l1,l2,l3,l4,l5,l6,l7⟩ b).1=true):=Lib.hid (fun b h=>pair_rune hp h)
 have HP:=Lib.hid hp
 have m3y:(l3.length:Int)≤1048576:=by simp only at hm3;omega
 clear hp hm3
 have HWr:Hid (∀(a b c:Int) (U:World),Calls Tryz.prog 99 #[.int .i64 a,.int .i64 b,.int .i64 c] U fun e w'=>e=.returned (.agg #[.int .i64 a,.int .i64 b,.int .i64 c])∧Below U.heap.size U w'):=Lib.hid (fun a b c U=>twrong_any a b c U)
 clear hC hT hB h bA hW0 hM hMM
 obtain⟨R,hR⟩:∃R,scan (chainM ⟨l0,l1,l2,l3,l4,l5,l6,l7⟩) l3 0 (0,0,0)=R:=⟨_,rfl⟩
 rw[hR]
 try dsimp only at hR
 have HF:=Lib.hid hR
 clear hR
 obtain⟨TT,hTT⟩:∃TT:Tab,TT=⟨l0,l1,l2,l3,l4,l5,l6,l7⟩:=⟨_,rfl⟩
 rw[←hTT] at HLp HCb HPr HF
 clear hTT
 obtain⟨fn,hfn,Hres⟩:∃fn,Tryz.f70=fn∧Hid (fn.results=#[.cell 2 100]):=⟨_,rfl,Lib.hid Tryz.results70⟩
 go_enter Tryz.func70,Tryz.ntmps70
 rw[hfn]
 clear hfn
 go_upto_region 1 with fail
 try dsimp only
 rw[HW0.out]
 clear HW0
 obtain⟨y,hy⟩:∃y:WC W0,y.w=W0:=⟨WC.of W0,rfl⟩
 rw[←hy]
 clear hy
 go_wp2_with fail
 go_loopw [15] (fun v15 wr=>∃(i:Nat) (y:WC W0),v15=.int .i64 i∧i≤l3.length∧Hid (scan (chainM TT) (l3.drop i) i ((0,0,0))=R)∧wr=y.w) (fun v15 _=>l3.length - (intOf v15).toNat)
 case atStart=>exact⟨0,y,rfl,Nat.zero_le _,HF,rfl⟩
 case round=>
  clear HF
  obtain⟨i,y,rfl,hi,HF,rfl⟩:=hrel
  have i0:(0:Int)≤(i:Int):=Int.natCast_nonneg _
  by_cases hlt:i<l3.length
  ·have i1:(i:Int)<(l3.length:Int):=by omega
   obtain⟨g,off,ho,hg,c0,c1,c2⟩:=HL3.out i hlt
   subst ho
   have HF1:=Lib.hid (scan_step hlt HF.out)
   have hx:=(HP.out l3[i] (List.getElem_mem hlt)).2.1
   have HC:=Lib.hid (HCb.out i hlt)
   generalize l3[i]=x at *
   have e0:=fun y:WC W0=>y.cell c0
   have e1:=fun y:WC W0=>y.cell c1
   have e2:=fun y:WC W0=>y.cell c2
   clear HF c0 c1 c2
   go_upto_region 4 with fail
   have bX:=Blk.new' y.w #[.int .i32 x.1,.int .i32 x.2.1,.int .i32 x.2.2] 141
   have HV1:Hid (Below W0.heap.size W0 (y.w.alloc (.cells #[.int .i32 x.1,.int .i32 x.2.1,.int .i32 x.2.2] 141))):=Lib.hid (y.h.alloc y.h.size _)
   obtain⟨V,hV⟩:∃V,y.w.alloc (.cells #[.int .i32 x.1,.int .i32 x.2.1,.int .i32 x.2.2] 141)=V:=⟨_,rfl⟩
   rw[hV] at bX HV1 ⊢
   obtain⟨bx,hbx⟩:∃b,y.w.heap.size=b:=⟨_,rfl⟩
   rw[hbx] at bX ⊢
   clear hV hbx
   have x0:∀z:WC V,z.w.cell? ⟨bx,0,none⟩=some (.int .i32 x.1):=WC.cell (bX.cell 0)
   have x1:∀z:WC V,z.w.cell? ⟨bx,1,none⟩=some (.int .i32 x.2.1):=WC.cell (bX.cell 1)
   have x2:∀z:WC V,z.w.cell? ⟨bx,2,none⟩=some (.int .i32 x.2.2):=WC.cell (bX.cell 2)
   have HUp:Hid (∀z:WC V,Below W0.heap.size W0 z.w):=Lib.hid (fun z=>HV1.out.trans (z.h.mono HV1.out.size))
   have a0z:∀z:WC V,z.w.cell? ⟨W.heap.size,0,none⟩=some (.int .i64 0):=fun z=>a0 ⟨z.w,HUp.out z⟩
   have a1z:∀z:WC V,z.w.cell? ⟨W.heap.size,1,none⟩=some (.int .i64 0):=fun z=>a1 ⟨z.w,HUp.out z⟩
   have a2z:∀z:WC V,z.w.cell? ⟨W.heap.size,2,none⟩=some (.int .i64 0):=fun z=>a2 ⟨z.w,HUp.out z⟩
   have f0z:∀z:WC V,z.w.frozen? ⟨W.heap.size,0,none⟩=false:=fun z=>f0 ⟨z.w,HUp.out z⟩
   have f1z:∀z:WC V,z.w.frozen? ⟨W.heap.size,1,none⟩=false:=fun z=>f1 ⟨z.w,HUp.out z⟩
   have f2z:∀z:WC V,z.w.frozen? ⟨W.heap.size,2,none⟩=false:=fun z=>f2 ⟨z.w,HUp.out z⟩
   have t3z:∀z:WC V,z.w.cell? ⟨bc,3,none⟩=some (.slice (some ⟨g,off,none⟩) l3.length c3):=fun z=>t3 ⟨z.w,HUp.out z⟩
   have t8z:∀z:WC V,z.w.cell? ⟨bc,8,none⟩=some (.pointer (some ⟨bb,0,none⟩)):=fun z=>t8 ⟨z.w,HUp.out z⟩
   have q2z:∀z:WC V,z.w.cell? ⟨bb,9,none⟩=some (.map (some m2)):=fun z=>q2 ⟨z.w,HUp.out z⟩
   clear bX HV1
   obtain⟨z,hz⟩:∃z:WC V,z.w=V:=⟨WC.of V,rfl⟩
   conv=>arg 5;rw[←hz]
   clear hz
   obtain⟨C,hC⟩:∃C,chainN TT i=C:=⟨_,rfl⟩
   rw[hC] at HC
   have HM:Hid (∀x,chainM TT x i=if decide (C<0) then some (33,4,(i:Int)) else if decide (4<C) then some (34,4,(i:Int)) else none):=Lib.hid (fun x=>by unfold chainM;rw[hC])
   clear hC
   refine wp_region_wc (W0:=V) (by kernel_rfl) (by kernel_rfl) z.h ?_
   repeat (first | go_big_quiet_step ((fail)) | quiet_step ((fail)))
   refine wpQuiet_nil ?_
   rintro _ ⟨z0,rfl⟩
   have HLq:Hid (∀(r:Int) (hr:runeB r=true) (z:WC V),(Instr.lookup 122 (.map (some m2)) (.int .i32 r) true).run Tryz.prog z.w=.ok (.tuple #[.agg #[.int .i32 (pairA TT r).1,.int .i32 (pairA TT r).2],.bool (pairO TT r).isSome]) z.w):=Lib.hid (fun r hr z=>HLp.out r hr z.w (HUp.out z))
   go_wp2_with fail
   go_loopw [5,6] (fun v5 v6 wr=>∃(n:Nat) (b:Int) (z:WC V),v5=.int .i64 n∧v6=.int .i32 b∧1≤n∧n≤l3.length+1∧runeB b=true∧Hid (C=chainB TT (l3.length+1 - n) b n)∧wr=z.w) (fun v5 _ _=>l3.length+1 - (intOf v5).toNat)
   case atStart=>exact⟨1,x.2.1,z0,rfl,rfl,Nat.le_refl _,by omega,hx,Lib.hid HC.out,rfl⟩
   case round=>
    clear HC
    obtain⟨n,b,z,rfl,rfl,hn1,hn2,hb,HC,rfl⟩:=hrel
    have n0:(1:Int)≤(n:Int):=by omega
    have n9:(n:Int)≤1048577:=by omega
    by_cases hn:n≤l3.length
    ·have hnI:(n:Int)≤(l3.length:Int):=by omega
     have hnI2:decide ((l3.length:Int)<(n:Int))=false:=by rw[decide_eq_false_iff_not];omega
     have kp:=fun z:WC V=>HLq.out b hb z
     have HPb:=Lib.hid (HPr.out b)
     have HC2:Hid (C=if (pairO TT b).isSome then chainB TT (l3.length+1 - (n+1)) (pairA TT b).1 ((n:Int)+1) else (n:Int)):=Lib.hid (by rw[HC.out,show l3.length+1 - n=(l3.length+1 - (n+1))+1 by omega];rfl)
     clear HC
     obtain⟨p1,p2,hpp⟩:∃p1 p2,pairA TT b=(p1,p2):=⟨_,_,rfl⟩
     rw[hpp] at kp HPb HC2
     clear hpp
     dsimp only at kp HPb HC2
     generalize (pairO TT b).isSome=bo at *
     cases bo with
     | true=>
      go_upto_region 8 with fail
      have ep:(z.w.alloc (.cells #[.int .i32 p1,.int .i32 p2] 171)).cell? ⟨z.w.heap.size,0,none⟩=some (.int .i32 p1):=(Blk.new' z.w #[.int .i32 p1,.int .i32 p2] 171).cell 0
      obtain⟨z2,hz1⟩:∃z2:WC V,z2.w=(z.w.alloc (.cells #[.int .i32 p1,.int .i32 p2] 171)):=⟨⟨_,z.h.alloc z.h.size _⟩,rfl⟩
      conv=>arg 5;rw[←hz1]
      rw[←hz1] at ep
      clear hz1
      go_wp2_with fail
      exact⟨⟨n+1,p1,z2,by go_num,rfl,by omega,by omega,HPb.out rfl,Lib.hid (HC2.out.trans (by rw[if_pos rfl];rfl)),rfl⟩,by simp[intOf];omega⟩
     | false=>
      have HCn:Hid (C=(n:Int)):=Lib.hid (HC2.out.trans (if_neg (by decide)))
      clear HC2 HPb
      have hc0:decide (C<0)=false:=by rw[decide_eq_false_iff_not,HCn.out];omega
      cases h5:decide ((4:Int)<(n:Int)) with
      | true=>
       have hc4:decide (4<C)=true:=by rw[HCn.out];exact h5
       have hs:chainM TT x i=some (34,4,(i:Int)):=by rw[HM.out,hc0,hc4];rfl
       have HR:=Lib.hid ((scan_hit hs).symm.trans HF1.out)
       clear HF1 hs HM HCn
       clear hc0 hc4
       go_upto_region 8 with fail
       have ep:(z.w.alloc (.cells #[.int .i32 p1,.int .i32 p2] 171)).cell? ⟨z.w.heap.size,0,none⟩=some (.int .i32 p1):=(Blk.new' z.w #[.int .i32 p1,.int .i32 p2] 171).cell 0
       obtain⟨z2,hz1⟩:∃z2:WC V,z2.w=(z.w.alloc (.cells #[.int .i32 p1,.int .i32 p2] 171)):=⟨⟨_,z.h.alloc z.h.size _⟩,rfl⟩
       conv=>arg 5;rw[←hz1]
       rw[←hz1] at ep
       clear hz1
       have KW:Hid (∀z:WC V,Calls Tryz.prog 99 #[.int .i64 34,.int .i64 4,.int .i64 i] z.w fun e w'=>e=.returned (.agg #[.int .i64 34,.int .i64 4,.int .i64 i])∧∃u:WC V,w'=u.w):=Lib.hid (fun z=>WC.call (HWr.out 34 4 i z.w))
       go_wp2_with fail
       (with_reducible refine Calls.mono (KW.out z2) ?_)
       rintro e w' ⟨rfl,zr,rfl⟩
       clear KW
       go_wp2_with fail
       have b3:=(((HA.out.keep (Keep.of_below (HUp.out zr) (fun _=>False)) (by simp)).set 0 (.int .i64 34)).set 1 (.int .i64 4)).set 2 (.int .i64 i)
       have r0:=b3.cell 0
       have r1:=b3.cell 1
       have r2:=b3.cell 2
       refine bodyPost_ret (v:=.agg #[.int .i64 34,.int .i64 4,.int .i64 i]) (res_wrong Hres.out (by rfl) r0 r1 r2) rfl ?_
       exact⟨by rw[←HR.out];rfl,set3_below (HB.out.trans ((HUp.out zr).mono HB.out.size)) (by omega)⟩
      | false=>
       have hc4:decide (4<C)=false:=by rw[HCn.out];exact h5
       have hs:chainM TT x i=none:=by rw[HM.out,hc0,hc4];rfl
       have HF2:=Lib.hid ((scan_miss hs).symm.trans HF1.out)
       clear HF1 hs HM HCn
       clear hc0 hc4
       go_upto_region 8 with fail
       have ep:(z.w.alloc (.cells #[.int .i32 p1,.int .i32 p2] 171)).cell? ⟨z.w.heap.size,0,none⟩=some (.int .i32 p1):=(Blk.new' z.w #[.int .i32 p1,.int .i32 p2] 171).cell 0
       obtain⟨z2,hz1⟩:∃z2:WC V,z2.w=(z.w.alloc (.cells #[.int .i32 p1,.int .i32 p2] 171)):=⟨⟨_,z.h.alloc z.h.size _⟩,rfl⟩
       conv=>arg 5;rw[←hz1]
       rw[←hz1] at ep
       clear hz1
       go_wp2_with fail
       exact⟨⟨i+1,⟨z2.w,HUp.out z2⟩,by go_num,by omega,HF2,by first | rfl | trivial⟩,by simp[intOf];omega⟩
    ·have hnI:decide ((n:Int)≤(l3.length:Int))=false:=by rw[decide_eq_false_iff_not];omega
     have hnI2:decide ((l3.length:Int)<(n:Int))=true:=by rw[decide_eq_true_iff];omega
     have hnN:decide (n≤l3.length)=false:=by rw[decide_eq_false_iff_not];omega
     have hnN2:decide (l3.length<n)=true:=by rw[decide_eq_true_iff];omega
     have HCn:Hid (C=-1):=Lib.hid (by rw[HC.out,show l3.length+1 - n=0 by omega];rfl)
     have hc0:decide (C<0)=true:=by rw[HCn.out];rfl
     clear HC
     have hs:chainM TT x i=some (33,4,(i:Int)):=by rw[HM.out,hc0];rfl
     have HR:=Lib.hid ((scan_hit hs).symm.trans HF1.out)
     clear HF1 hs HM HCn
     clear hc0 hn
     have KW:Hid (∀z:WC V,Calls Tryz.prog 99 #[.int .i64 33,.int .i64 4,.int .i64 i] z.w fun e w'=>e=.returned (.agg #[.int .i64 33,.int .i64 4,.int .i64 i])∧∃u:WC V,w'=u.w):=Lib.hid (fun z=>WC.call (HWr.out 33 4 i z.w))
     go_wp2_with fail
     (with_reducible refine Calls.mono (KW.out z) ?_)
     rintro e w' ⟨rfl,zr,rfl⟩
     clear KW
     go_wp2_with fail
     have b3:=(((HA.out.keep (Keep.of_below (HUp.out zr) (fun _=>False)) (by simp)).set 0 (.int .i64 33)).set 1 (.int .i64 4)).set 2 (.int .i64 i)
     have r0:=b3.cell 0
     have r1:=b3.cell 1
     have r2:=b3.cell 2
     refine bodyPost_ret (v:=.agg #[.int .i64 33,.int .i64 4,.int .i64 i]) (res_wrong Hres.out (by rfl) r0 r1 r2) rfl ?_
     exact⟨by rw[←HR.out];rfl,set3_below (HB.out.trans ((HUp.out zr).mono HB.out.size)) (by omega)⟩
  ·obtain rfl:i=l3.length:=by omega
   have HF0:=Lib.hid (scan_end HF.out)
   clear hi hlt i0 HF
   have HF:=Lib.hid HF0.out
   clear HF0
   have HR:=Lib.hid HF.out
   go_wp2_with fail
   have b3:=(((HA.out.keep (Keep.of_below y.h (fun _=>False)) (by simp)).set 0 (.int .i64 0)).set 1 (.int .i64 0)).set 2 (.int .i64 0)
   have r0:=b3.cell 0
   have r1:=b3.cell 1
   have r2:=b3.cell 2
   refine bodyPost_ret (v:=.agg #[.int .i64 0,.int .i64 0,.int .i64 0]) (res_wrong Hres.out (by rfl) r0 r1 r2) rfl ?_
   exact⟨by rw[←HR.out];rfl,set3_below (HB.out.trans (y.h.mono HB.out.size)) (by omega)⟩
end Go.Proofs.YtioehfhdoohdmaaGreatDoor
