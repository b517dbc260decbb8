/- (*tables.check).forms, walked. Printed by gen_cforms.py. -/
import Derived.Test.YtioehfhdoohdmaaGreatDoorChkA
import Derived.Test.YtioehfhdoohdmaaGreatDoorOfA
set_option linter.unusedVariables false
set_option linter.unusedSimpArgs false
namespace Go.Proofs.YtioehfhdoohdmaaGreatDoor
open Go.RowKit Go.Shelf BigFrame
theorem orK_zero (n:Int) (l:List Span):orK (spansW n l) (0,0,0)=spansW n l:=by
 unfold orK spansW
 by_cases h:(spansE l).1=0
 ·simp[h]
 ·simp[h]
theorem maps_orK (n:Int) (l:List (Int×ByteArray)) (hn:0≤n) (K:W3):orK (mapsW n l) K=scan (mapM n) l 0 K:=by
 unfold mapsW
 exact (scan_orK (fun x i w h=>by
  unfold mapM at h
  split at h
  ·cases h;show (12:Int)≠0;decide
  ·split at h
   ·cases h;show (35:Int)≠0;decide
   ·split at h
    ·cases h;show (35:Int)≠0;decide
    ·split at h <;> cases h <;> (show (35:Int)≠0;decide)) l 0 K).symm
def spW2 (n:Int) (A B:List Span):Nat→W3
 | 0=>orK (spansW n A) (orK (spansW (n+1) B) (0,0,0))
 | 1=>orK (spansW (n+1) B) (0,0,0)
 | _=>(0,0,0)
theorem forms_eq (T:Tab):formsW T=scan scriptM T.scripts 0 (orK (spansW 2 T.common) (scan markM T.marks 0 (scan pairF T.pairs 0 (twoW mapM 5 T.folds T.looks (spW2 7 T.drops T.allowed 0) 0)))):=by
 unfold formsW
 rw[maps_orK 5 _ (by decide),maps_orK 6 _ (by decide)]
 show _=scan scriptM T.scripts 0 (orK (spansW 2 T.common) (scan markM T.marks 0 (scan pairF T.pairs 0 (scan (mapM 5) T.folds 0 (scan (mapM (5+1)) T.looks 0 (orK (spansW 7 T.drops) (orK (spansW (7+1) T.allowed) (0,0,0))))))))
 rw[orK_zero]
 rfl
theorem rn_count {s:ByteArray}(h:(runesO s).isSome=true):Lib.runeCount s=(rnL s).length:=by
 unfold rnL
 cases e:runesO s with
 | none=>rw[e] at h;cases h
 | some l=>exact count_runes e
set_option maxRecDepth 100000 in
set_option maxHeartbeats 40000000 in
theorem cforms_any (T:Tab) (a:TAddr) (M:MAddr) (W:World) (h:ChkAt W M T a) (hz:Lib.Utf8Tabs 0 1 W) (hfit:TabFit T):Calls Tryz.prog 67 #[.pointer (some ⟨M.bc,0,none⟩)] W fun e w'=>e=.returned (wV (formsW T))∧Below W.heap.size W w':=by
 obtain⟨l0,l1,l2,l3,l4,l5,l6,l7⟩:=T
 obtain⟨o0,o1,o2,o3,o4,o5,o6,o7,c0,c1,c2,c3,c4,c5,c6,c7⟩:=a
 obtain⟨bc,bb,m1,m2,m3,m4,m5⟩:=M
 have hB:Below W.heap.size W (W.alloc (.cells #[.int .i64 0,.int .i64 0,.int .i64 0] 100)):=(Below.refl _ W).alloc (Nat.le_refl _) _
 have bA:=Blk.new' W #[.int .i64 0,.int .i64 0,.int .i64 0] 100
 have hC:=h.below hB
 obtain⟨W0,hW0⟩:∃W0,W.alloc (.cells #[.int .i64 0,.int .i64 0,.int .i64 0] 100)=W0:=⟨_,rfl⟩
 rw[hW0] at hB bA hC
 have HW0:=Lib.hid hW0
 have HB:=Lib.hid hB
 have HA:=Lib.hid bA
 have HZ:Hid (W.heap.size<W0.heap.size):=Lib.hid bA.lt
 have hT:=hC.tab
 have a0:∀y:WC W0,y.w.cell? ⟨W.heap.size,0,none⟩=some (.int .i64 0):=WC.cell (bA.cell 0)
 have f0:∀y:WC W0,y.w.frozen? ⟨W.heap.size,0,none⟩=false:=WC.frozen (bA.cell 0) (bA.frozen 0)
 have a1:∀y:WC W0,y.w.cell? ⟨W.heap.size,1,none⟩=some (.int .i64 0):=WC.cell (bA.cell 1)
 have f1:∀y:WC W0,y.w.frozen? ⟨W.heap.size,1,none⟩=false:=WC.frozen (bA.cell 1) (bA.frozen 1)
 have a2:∀y:WC W0,y.w.cell? ⟨W.heap.size,2,none⟩=some (.int .i64 0):=WC.cell (bA.cell 2)
 have f2:∀y:WC W0,y.w.frozen? ⟨W.heap.size,2,none⟩=false:=WC.frozen (bA.cell 2) (bA.frozen 2)
 have t0:∀y:WC W0,y.w.cell? ⟨bc,0,none⟩=some (.slice o0 l0.length c0):=WC.cell (hC.c 0 (.slice o0 l0.length c0) rfl)
 have m0x:l0.length≤9223372036854775807:=hT.m0
 have HL0:=Lib.hid hT.scripts
 have t1:∀y:WC W0,y.w.cell? ⟨bc,1,none⟩=some (.slice o1 l1.length c1):=WC.cell (hC.c 1 (.slice o1 l1.length c1) rfl)
 have m1x:l1.length≤9223372036854775807:=hT.m1
 have HL1:=Lib.hid hT.common
 have t2:∀y:WC W0,y.w.cell? ⟨bc,2,none⟩=some (.slice o2 l2.length c2):=WC.cell (hC.c 2 (.slice o2 l2.length c2) rfl)
 have m2x:l2.length≤9223372036854775807:=hT.m2
 have HL2:=Lib.hid hT.marks
 have t3:∀y:WC W0,y.w.cell? ⟨bc,3,none⟩=some (.slice o3 l3.length c3):=WC.cell (hC.c 3 (.slice o3 l3.length c3) rfl)
 have m3x:l3.length≤9223372036854775807:=hT.m3
 have HL3:=Lib.hid hT.pairs
 have t4:∀y:WC W0,y.w.cell? ⟨bc,4,none⟩=some (.slice o4 l4.length c4):=WC.cell (hC.c 4 (.slice o4 l4.length c4) rfl)
 have m4x:l4.length≤9223372036854775807:=hT.m4
 have HL4:=Lib.hid hT.folds
 have t5:∀y:WC W0,y.w.cell? ⟨bc,5,none⟩=some (.slice o5 l5.length c5):=WC.cell (hC.c 5 (.slice o5 l5.length c5) rfl)
 have m5x:l5.length≤9223372036854775807:=hT.m5
 have HL5:=Lib.hid hT.looks
 have t6:∀y:WC W0,y.w.cell? ⟨bc,6,none⟩=some (.slice o6 l6.length c6):=WC.cell (hC.c 6 (.slice o6 l6.length c6) rfl)
 have m6x:l6.length≤9223372036854775807:=hT.m6
 have HL6:=Lib.hid hT.drops
 have t7:∀y:WC W0,y.w.cell? ⟨bc,7,none⟩=some (.slice o7 l7.length c7):=WC.cell (hC.c 7 (.slice o7 l7.length c7) rfl)
 have m7x:l7.length≤9223372036854775807:=hT.m7
 have HL7:=Lib.hid hT.allowed
 have hz0:=tabs_below hz hB
 have HV:Hid (∀(r:Int) (U:World),Below W0.heap.size W0 U→Calls Tryz.prog 102 #[.int .i32 r] U fun e w'=>e=.returned (.bool (runeB r))∧Below U.heap.size U w'):=Lib.hid (fun r U hU=>((valid_any r U).mono fun e w' hh=>⟨hh.1,by rw[←hh.2];exact Below.refl _ _⟩))
 have HN:Hid (∀(s:ByteArray) (hs:s.size≤1048576) (U:World),Below W0.heap.size W0 U→Calls Tryz.prog 100 #[.string s] U fun e w'=>e=.returned (.bool (snameB s))∧Below U.heap.size U w'):=Lib.hid (fun s hs U hU=>tname_any s U hs)
 have HS:Hid (∀(s:ByteArray) (hs:s.size≤1048576) (U:World),Below W0.heap.size W0 U→Calls Tryz.prog 104 #[.string s] U fun e w'=>e=.returned (.bool (runesO s).isSome)∧Below U.heap.size U w'):=Lib.hid (fun s hs U hU=>vstr_any s U hs (tabs_below hz0 hU))
 have HC:Hid (∀(s:ByteArray) (hs:s.size≤1048576) (U:World),Below W0.heap.size W0 U→Calls Tryz.prog 103 #[.string s] U fun e w'=>e=.returned (.int .i64 (Lib.runeCount s))∧Below U.heap.size U w'):=Lib.hid (fun s hs U hU=>rcnt_any s U hs)
 have HRt:Hid (∀(l:List Span) (o:Option Addr) (c:Nat) (U:World),SpansAt U o l→l.length≤1048576→Calls Tryz.prog 101 #[.slice o l.length c] U fun e w'=>e=.returned (.tuple #[.int .i64 (spansE l).2,.int .i64 (spansE l).1])∧Below U.heap.size U w'):=Lib.hid (fun l o c U hl hm=>right_any o c l U hl hm)
 have HNm:=Lib.hid hfit.names
 have n0x:l0.length≤1048576:=hfit.l0
 have n1x:l1.length≤1048576:=hfit.l1
 have n2x:l2.length≤1048576:=hfit.l2
 have n3x:l3.length≤1048576:=hfit.l3
 have n4x:l4.length≤1048576:=hfit.l4
 have n5x:l5.length≤1048576:=hfit.l5
 have n6x:l6.length≤1048576:=hfit.l6
 have n7x:l7.length≤1048576:=hfit.l7
 have HSf:=Lib.hid hfit.small.folds
 have HSl:=Lib.hid hfit.small.looks
 clear hz hfit hz0
 have HWr:Hid (∀(a b c:Int) (U:World),Calls Tryz.prog 99 #[.int .i64 a,.int .i64 b,.int .i64 c] U fun e w'=>e=.returned (.agg #[.int .i64 a,.int .i64 b,.int .i64 c])∧Below U.heap.size U w'):=Lib.hid (fun a b c U=>twrong_any a b c U)
 clear hC hT hB h bA hW0
 obtain⟨R,hR⟩:∃R,formsW ⟨l0,l1,l2,l3,l4,l5,l6,l7⟩=R:=⟨_,rfl⟩
 rw[hR]
 try dsimp only at hR
 have HF:=Lib.hid hR
 clear hR
 have HF2:Hid (scan scriptM l0 0 (orK (spansW 2 l1) (scan markM l2 0 (scan pairF l3 0 (twoW mapM 5 l4 l5 (spW2 7 l6 l7 0) 0))))=R):=Lib.hid (by rw[←HF.out,forms_eq])
 clear HF
 have HF:=Lib.hid HF2.out
 clear HF2
 obtain⟨fn,hfn,Hres⟩:∃fn,Tryz.f67=fn∧Hid (fn.results=#[.cell 2 100]):=⟨_,rfl,Lib.hid Tryz.results67⟩
 go_enter Tryz.func67,Tryz.ntmps67
 rw[hfn]
 clear hfn
 go_upto_region 1 with fail
 try dsimp only
 rw[HW0.out]
 clear HW0
 obtain⟨y,hy⟩:∃y:WC W0,y.w=W0:=⟨WC.of W0,rfl⟩
 rw[←hy]
 clear hy
 go_wp2_with fail
 go_loopw [28] (fun v28 wr=>∃(i:Nat) (y:WC W0),v28=.int .i64 i∧i≤l0.length∧Hid (scan (scriptM) (l0.drop i) i (orK (spansW 2 l1) (scan markM l2 0 (scan pairF l3 0 (twoW mapM 5 l4 l5 (spW2 7 l6 l7 0) 0))))=R)∧wr=y.w) (fun v28 _=>l0.length - (intOf v28).toNat)
 case atStart=>exact⟨0,y,rfl,Nat.zero_le _,HF,rfl⟩
 case round=>
  clear HF
  obtain⟨i,y,rfl,hi,HF,rfl⟩:=hrel
  have i0:(0:Int)≤(i:Int):=Int.natCast_nonneg _
  by_cases hlt:i<l0.length
  ·have i1:(i:Int)<(l0.length:Int):=by omega
   obtain⟨g,off,so,sc,ho,hg,c0,c1,cs,cz,cy⟩:=HL0.out i hlt
   subst ho
   have HF1:=Lib.hid (scan_step hlt HF.out)
   obtain⟨hxn,hxl⟩:=HNm.out l0[i] (List.getElem_mem hlt)
   generalize l0[i]=x at *
   have e0:=fun y:WC W0=>y.cell c0
   have e1:=fun y:WC W0=>y.cell c1
   have HSp:=Lib.hid cs
   clear HF c0 c1 cs cz cy
   go_upto_region 4 with fail
   have bX:=Blk.new' y.w #[.string x.1,.slice so x.2.length sc] 128
   have HV1:Hid (Below W0.heap.size W0 (y.w.alloc (.cells #[.string x.1,.slice so x.2.length sc] 128))):=Lib.hid (y.h.alloc y.h.size _)
   obtain⟨V,hV⟩:∃V,y.w.alloc (.cells #[.string x.1,.slice so x.2.length sc] 128)=V:=⟨_,rfl⟩
   rw[hV] at bX HV1 ⊢
   obtain⟨bx,hbx⟩:∃b,y.w.heap.size=b:=⟨_,rfl⟩
   rw[hbx] at bX ⊢
   clear hV hbx
   have x0:∀z:WC V,z.w.cell? ⟨bx,0,none⟩=some (.string x.1):=WC.cell (bX.cell 0)
   have x1:∀z:WC V,z.w.cell? ⟨bx,1,none⟩=some (.slice so x.2.length sc):=WC.cell (bX.cell 1)
   have HUp:Hid (∀z:WC V,Below W0.heap.size W0 z.w):=Lib.hid (fun z=>HV1.out.trans (z.h.mono HV1.out.size))
   have a0z:∀z:WC V,z.w.cell? ⟨W.heap.size,0,none⟩=some (.int .i64 0):=fun z=>a0 ⟨z.w,HUp.out z⟩
   have a1z:∀z:WC V,z.w.cell? ⟨W.heap.size,1,none⟩=some (.int .i64 0):=fun z=>a1 ⟨z.w,HUp.out z⟩
   have a2z:∀z:WC V,z.w.cell? ⟨W.heap.size,2,none⟩=some (.int .i64 0):=fun z=>a2 ⟨z.w,HUp.out z⟩
   have f0z:∀z:WC V,z.w.frozen? ⟨W.heap.size,0,none⟩=false:=fun z=>f0 ⟨z.w,HUp.out z⟩
   have f1z:∀z:WC V,z.w.frozen? ⟨W.heap.size,1,none⟩=false:=fun z=>f1 ⟨z.w,HUp.out z⟩
   have f2z:∀z:WC V,z.w.frozen? ⟨W.heap.size,2,none⟩=false:=fun z=>f2 ⟨z.w,HUp.out z⟩
   clear bX HV1
   obtain⟨z,hz⟩:∃z:WC V,z.w=V:=⟨WC.of V,rfl⟩
   conv=>arg 5;rw[←hz]
   clear hz
   have KN:=Lib.hid (fun z:WC V=>HN.out x.1 hxn z.w (HUp.out z))
   have KR:=Lib.hid (fun z:WC V=>HRt.out x.2 so sc z.w (HSp.out.below (HUp.out z)) hxl)
   cases h0:snameB x.1 with
   | false=>
    rw[h0] at KN
    have HR:=Lib.hid ((scan_hit (f:=scriptM) (w:=(38,1,(i:Int))) (by unfold scriptM scriptE;rw[h0];rfl)).symm.trans HF1.out)
    clear HF1 KR HSp
    go_wp2_with fail
    (with_reducible refine Calls.mono (KN.out z) ?_)
    rintro e w' ⟨rfl,hBk⟩
    obtain⟨z1,hz1⟩:∃z1:WC V,z1.w=w':=⟨⟨_,z.h.trans (hBk.mono z.h.size)⟩,rfl⟩
    rw[←hz1]
    clear hz1 hBk
    clear KN
    have KW:Hid (∀z:WC V,Calls Tryz.prog 99 #[.int .i64 38,.int .i64 1,.int .i64 i] z.w fun e w'=>e=.returned (.agg #[.int .i64 38,.int .i64 1,.int .i64 i])∧∃u:WC V,w'=u.w):=Lib.hid (fun z=>WC.call (HWr.out 38 1 i z.w))
    go_wp2_with fail
    (with_reducible refine Calls.mono (KW.out z1) ?_)
    rintro e w' ⟨rfl,zr,rfl⟩
    clear KW
    go_wp2_with fail
    have b3:=(((HA.out.keep (Keep.of_below (HUp.out zr) (fun _=>False)) (by simp)).set 0 (.int .i64 38)).set 1 (.int .i64 1)).set 2 (.int .i64 i)
    have r0:=b3.cell 0
    have r1:=b3.cell 1
    have r2:=b3.cell 2
    refine bodyPost_ret (v:=.agg #[.int .i64 38,.int .i64 1,.int .i64 i]) (res_wrong Hres.out (by rfl) r0 r1 r2) rfl ?_
    exact⟨by rw[←HR.out];rfl,set3_below (HB.out.trans ((HUp.out zr).mono HB.out.size)) (by omega)⟩
   | true=>
    rw[h0] at KN
    obtain⟨e1v,e2v,hE⟩:∃a b,spansE x.2=(a,b):=⟨_,_,rfl⟩
    rw[hE] at KR
    dsimp only at KR
    by_cases he:e1v=0
    ·have d1:(e1v != 0)=false:=by simp[he]
     have HF2:=Lib.hid ((scan_miss (f:=scriptM) (by unfold scriptM scriptE;rw[h0,hE];simp[he])).symm.trans HF1.out)
     clear HF1 he hE
     go_wp2_with fail
     (with_reducible refine Calls.mono (KN.out z) ?_)
     rintro e w' ⟨rfl,hBk⟩
     obtain⟨z1,hz1⟩:∃z1:WC V,z1.w=w':=⟨⟨_,z.h.trans (hBk.mono z.h.size)⟩,rfl⟩
     rw[←hz1]
     clear hz1 hBk
     go_wp2_with fail
     (with_reducible refine Calls.mono (KR.out z1) ?_)
     rintro e w' ⟨rfl,hBk⟩
     obtain⟨z2,hz1⟩:∃z1:WC V,z1.w=w':=⟨⟨_,z1.h.trans (hBk.mono z1.h.size)⟩,rfl⟩
     rw[←hz1]
     clear hz1 hBk
     go_wp2_with fail
     exact⟨⟨i+1,⟨z2.w,HUp.out z2⟩,by go_num,by omega,HF2,by first | rfl | trivial⟩,by simp[intOf];omega⟩
    ·have d1:(e1v != 0)=true:=by simp[he]
     have HR:=Lib.hid ((scan_hit (f:=scriptM) (w:=(e1v,1,(i:Int))) (by unfold scriptM scriptE;rw[h0,hE];simp[he])).symm.trans HF1.out)
     clear HF1 he hE
     go_wp2_with fail
     (with_reducible refine Calls.mono (KN.out z) ?_)
     rintro e w' ⟨rfl,hBk⟩
     obtain⟨z1,hz1⟩:∃z1:WC V,z1.w=w':=⟨⟨_,z.h.trans (hBk.mono z.h.size)⟩,rfl⟩
     rw[←hz1]
     clear hz1 hBk
     go_wp2_with fail
     (with_reducible refine Calls.mono (KR.out z1) ?_)
     rintro e w' ⟨rfl,hBk⟩
     obtain⟨z2,hz1⟩:∃z1:WC V,z1.w=w':=⟨⟨_,z1.h.trans (hBk.mono z1.h.size)⟩,rfl⟩
     rw[←hz1]
     clear hz1 hBk
     clear KN KR HSp
     have KW:Hid (∀z:WC V,Calls Tryz.prog 99 #[.int .i64 e1v,.int .i64 1,.int .i64 i] z.w fun e w'=>e=.returned (.agg #[.int .i64 e1v,.int .i64 1,.int .i64 i])∧∃u:WC V,w'=u.w):=Lib.hid (fun z=>WC.call (HWr.out e1v 1 i z.w))
     go_wp2_with fail
     (with_reducible refine Calls.mono (KW.out z2) ?_)
     rintro e w' ⟨rfl,zr,rfl⟩
     clear KW
     go_wp2_with fail
     have b3:=(((HA.out.keep (Keep.of_below (HUp.out zr) (fun _=>False)) (by simp)).set 0 (.int .i64 e1v)).set 1 (.int .i64 1)).set 2 (.int .i64 i)
     have r0:=b3.cell 0
     have r1:=b3.cell 1
     have r2:=b3.cell 2
     refine bodyPost_ret (v:=.agg #[.int .i64 e1v,.int .i64 1,.int .i64 i]) (res_wrong Hres.out (by rfl) r0 r1 r2) rfl ?_
     exact⟨by rw[←HR.out];rfl,set3_below (HB.out.trans ((HUp.out zr).mono HB.out.size)) (by omega)⟩
  ·obtain rfl:i=l0.length:=by omega
   have HF0:=Lib.hid (scan_end HF.out)
   clear hi hlt i0 HF
   have HF:=Lib.hid HF0.out
   clear HF0
   go_wp2_with fail
   have KR:=Lib.hid (fun y:WC W0=>HRt.out l1 o1 c1 y.w (HL1.out.below y.h) n1x)
   obtain⟨e1v,e2v,hE⟩:∃a b,spansE l1=(a,b):=⟨_,_,rfl⟩
   rw[hE] at KR
   dsimp only at KR
   by_cases he:e1v=0
   ·have d1:(e1v != 0)=false:=by simp[he]
    have HF2:Hid (scan markM l2 0 (scan pairF l3 0 (twoW mapM 5 l4 l5 (spW2 7 l6 l7 0) 0))=R):=Lib.hid (by rw[←HF.out];unfold orK spansW;rw[hE];simp[he])
    clear HF he hE
    have HF:=Lib.hid HF2.out
    clear HF2
    go_wp2_with fail
    (with_reducible refine Calls.mono (KR.out y) ?_)
    rintro e w' ⟨rfl,hBk⟩
    obtain⟨y1,hz1⟩:∃z1:WC W0,z1.w=w':=⟨⟨_,y.h.trans (hBk.mono y.h.size)⟩,rfl⟩
    rw[←hz1]
    clear hz1 hBk
    clear KR
    clear y
    go_wp2_with fail
    obtain⟨y,hy⟩:∃y:WC W0,y=y1:=⟨y1,rfl⟩
    subst hy
    go_loopw [71] (fun v71 wr=>∃(i:Nat) (y:WC W0),v71=.int .i64 i∧i≤l2.length∧Hid (scan (markM) (l2.drop i) i (scan pairF l3 0 (twoW mapM 5 l4 l5 (spW2 7 l6 l7 0) 0))=R)∧wr=y.w) (fun v71 _=>l2.length - (intOf v71).toNat)
    case atStart=>exact⟨0,y,rfl,Nat.zero_le _,HF,rfl⟩
    case round=>
     clear HF
     obtain⟨i,y,rfl,hi,HF,rfl⟩:=hrel
     have i0:(0:Int)≤(i:Int):=Int.natCast_nonneg _
     by_cases hlt:i<l2.length
     ·have i1:(i:Int)<(l2.length:Int):=by omega
      obtain⟨g,off,ho,hg,c0,c1⟩:=HL2.out i hlt
      subst ho
      have HF1:=Lib.hid (scan_step hlt HF.out)
      generalize l2[i]=x at *
      have e0:=fun y:WC W0=>y.cell c0
      have e1:=fun y:WC W0=>y.cell c1
      clear HF c0 c1
      go_upto_region 16 with fail
      have bX:=Blk.new' y.w #[.int .i32 x.1,.int .i64 x.2] 139
      have HV1:Hid (Below W0.heap.size W0 (y.w.alloc (.cells #[.int .i32 x.1,.int .i64 x.2] 139))):=Lib.hid (y.h.alloc y.h.size _)
      obtain⟨V,hV⟩:∃V,y.w.alloc (.cells #[.int .i32 x.1,.int .i64 x.2] 139)=V:=⟨_,rfl⟩
      rw[hV] at bX HV1 ⊢
      obtain⟨bx,hbx⟩:∃b,y.w.heap.size=b:=⟨_,rfl⟩
      rw[hbx] at bX ⊢
      clear hV hbx
      have x0:∀z:WC V,z.w.cell? ⟨bx,0,none⟩=some (.int .i32 x.1):=WC.cell (bX.cell 0)
      have x1:∀z:WC V,z.w.cell? ⟨bx,1,none⟩=some (.int .i64 x.2):=WC.cell (bX.cell 1)
      have HUp:Hid (∀z:WC V,Below W0.heap.size W0 z.w):=Lib.hid (fun z=>HV1.out.trans (z.h.mono HV1.out.size))
      have a0z:∀z:WC V,z.w.cell? ⟨W.heap.size,0,none⟩=some (.int .i64 0):=fun z=>a0 ⟨z.w,HUp.out z⟩
      have a1z:∀z:WC V,z.w.cell? ⟨W.heap.size,1,none⟩=some (.int .i64 0):=fun z=>a1 ⟨z.w,HUp.out z⟩
      have a2z:∀z:WC V,z.w.cell? ⟨W.heap.size,2,none⟩=some (.int .i64 0):=fun z=>a2 ⟨z.w,HUp.out z⟩
      have f0z:∀z:WC V,z.w.frozen? ⟨W.heap.size,0,none⟩=false:=fun z=>f0 ⟨z.w,HUp.out z⟩
      have f1z:∀z:WC V,z.w.frozen? ⟨W.heap.size,1,none⟩=false:=fun z=>f1 ⟨z.w,HUp.out z⟩
      have f2z:∀z:WC V,z.w.frozen? ⟨W.heap.size,2,none⟩=false:=fun z=>f2 ⟨z.w,HUp.out z⟩
      clear bX HV1
      obtain⟨z,hz⟩:∃z:WC V,z.w=V:=⟨WC.of V,rfl⟩
      conv=>arg 5;rw[←hz]
      clear hz
      have KV:=Lib.hid (fun z:WC V=>HV.out x.1 z.w (HUp.out z))
      cases h0:runeB x.1 with
      | false=>
       rw[h0] at KV
       have HR:=Lib.hid ((scan_hit (f:=markM) (by unfold markM;simp only[h0];rfl)).symm.trans HF1.out)
       clear HF1
       go_wp2_with fail
       (with_reducible refine Calls.mono (KV.out z) ?_)
       rintro e w' ⟨rfl,hBk⟩
       obtain⟨z1,hz1⟩:∃z1:WC V,z1.w=w':=⟨⟨_,z.h.trans (hBk.mono z.h.size)⟩,rfl⟩
       rw[←hz1]
       clear hz1 hBk
       clear KV
       have KW:Hid (∀z:WC V,Calls Tryz.prog 99 #[.int .i64 12,.int .i64 3,.int .i64 i] z.w fun e w'=>e=.returned (.agg #[.int .i64 12,.int .i64 3,.int .i64 i])∧∃u:WC V,w'=u.w):=Lib.hid (fun z=>WC.call (HWr.out 12 3 i z.w))
       go_wp2_with fail
       (with_reducible refine Calls.mono (KW.out z1) ?_)
       rintro e w' ⟨rfl,zr,rfl⟩
       clear KW
       go_wp2_with fail
       have b3:=(((HA.out.keep (Keep.of_below (HUp.out zr) (fun _=>False)) (by simp)).set 0 (.int .i64 12)).set 1 (.int .i64 3)).set 2 (.int .i64 i)
       have r0:=b3.cell 0
       have r1:=b3.cell 1
       have r2:=b3.cell 2
       refine bodyPost_ret (v:=.agg #[.int .i64 12,.int .i64 3,.int .i64 i]) (res_wrong Hres.out (by rfl) r0 r1 r2) rfl ?_
       exact⟨by rw[←HR.out];rfl,set3_below (HB.out.trans ((HUp.out zr).mono HB.out.size)) (by omega)⟩
      | true=>
       rw[h0] at KV
       cases h1:decide (x.2<1) with
       | true=>
        have HR:=Lib.hid ((scan_hit (f:=markM) (by unfold markM;simp only[h0,h1];rfl)).symm.trans HF1.out)
        clear HF1
        go_wp2_with fail
        (with_reducible refine Calls.mono (KV.out z) ?_)
        rintro e w' ⟨rfl,hBk⟩
        obtain⟨z1,hz1⟩:∃z1:WC V,z1.w=w':=⟨⟨_,z.h.trans (hBk.mono z.h.size)⟩,rfl⟩
        rw[←hz1]
        clear hz1 hBk
        clear KV
        have KW:Hid (∀z:WC V,Calls Tryz.prog 99 #[.int .i64 30,.int .i64 3,.int .i64 i] z.w fun e w'=>e=.returned (.agg #[.int .i64 30,.int .i64 3,.int .i64 i])∧∃u:WC V,w'=u.w):=Lib.hid (fun z=>WC.call (HWr.out 30 3 i z.w))
        go_wp2_with fail
        (with_reducible refine Calls.mono (KW.out z1) ?_)
        rintro e w' ⟨rfl,zr,rfl⟩
        clear KW
        go_wp2_with fail
        have b3:=(((HA.out.keep (Keep.of_below (HUp.out zr) (fun _=>False)) (by simp)).set 0 (.int .i64 30)).set 1 (.int .i64 3)).set 2 (.int .i64 i)
        have r0:=b3.cell 0
        have r1:=b3.cell 1
        have r2:=b3.cell 2
        refine bodyPost_ret (v:=.agg #[.int .i64 30,.int .i64 3,.int .i64 i]) (res_wrong Hres.out (by rfl) r0 r1 r2) rfl ?_
        exact⟨by rw[←HR.out];rfl,set3_below (HB.out.trans ((HUp.out zr).mono HB.out.size)) (by omega)⟩
       | false=>
        cases h2:decide (254<x.2) with
        | true=>
         have HR:=Lib.hid ((scan_hit (f:=markM) (by unfold markM;simp only[h0,h1,h2];rfl)).symm.trans HF1.out)
         clear HF1
         go_wp2_with fail
         (with_reducible refine Calls.mono (KV.out z) ?_)
         rintro e w' ⟨rfl,hBk⟩
         obtain⟨z1,hz1⟩:∃z1:WC V,z1.w=w':=⟨⟨_,z.h.trans (hBk.mono z.h.size)⟩,rfl⟩
         rw[←hz1]
         clear hz1 hBk
         clear KV
         have KW:Hid (∀z:WC V,Calls Tryz.prog 99 #[.int .i64 30,.int .i64 3,.int .i64 i] z.w fun e w'=>e=.returned (.agg #[.int .i64 30,.int .i64 3,.int .i64 i])∧∃u:WC V,w'=u.w):=Lib.hid (fun z=>WC.call (HWr.out 30 3 i z.w))
         go_wp2_with fail
         (with_reducible refine Calls.mono (KW.out z1) ?_)
         rintro e w' ⟨rfl,zr,rfl⟩
         clear KW
         go_wp2_with fail
         have b3:=(((HA.out.keep (Keep.of_below (HUp.out zr) (fun _=>False)) (by simp)).set 0 (.int .i64 30)).set 1 (.int .i64 3)).set 2 (.int .i64 i)
         have r0:=b3.cell 0
         have r1:=b3.cell 1
         have r2:=b3.cell 2
         refine bodyPost_ret (v:=.agg #[.int .i64 30,.int .i64 3,.int .i64 i]) (res_wrong Hres.out (by rfl) r0 r1 r2) rfl ?_
         exact⟨by rw[←HR.out];rfl,set3_below (HB.out.trans ((HUp.out zr).mono HB.out.size)) (by omega)⟩
        | false=>
         have HF2:=Lib.hid ((scan_miss (f:=markM) (by unfold markM;simp only[h0,h1,h2];rfl)).symm.trans HF1.out)
         clear HF1
         go_wp2_with fail
         (with_reducible refine Calls.mono (KV.out z) ?_)
         rintro e w' ⟨rfl,hBk⟩
         obtain⟨z1,hz1⟩:∃z1:WC V,z1.w=w':=⟨⟨_,z.h.trans (hBk.mono z.h.size)⟩,rfl⟩
         rw[←hz1]
         clear hz1 hBk
         go_wp2_with fail
         exact⟨⟨i+1,⟨z1.w,HUp.out z1⟩,by go_num,by omega,HF2,by first | rfl | trivial⟩,by simp[intOf];omega⟩
     ·obtain rfl:i=l2.length:=by omega
      have HF0:=Lib.hid (scan_end HF.out)
      clear hi hlt i0 HF
      have HF:=Lib.hid HF0.out
      clear HF0
      go_wp2_with fail
      go_loopw [101] (fun v101 wr=>∃(i:Nat) (y:WC W0),v101=.int .i64 i∧i≤l3.length∧Hid (scan (pairF) (l3.drop i) i (twoW mapM 5 l4 l5 (spW2 7 l6 l7 0) 0)=R)∧wr=y.w) (fun v101 _=>l3.length - (intOf v101).toNat)
      case atStart=>exact⟨0,y,rfl,Nat.zero_le _,HF,rfl⟩
      case round=>
       clear HF
       obtain⟨i,y,rfl,hi,HF,rfl⟩:=hrel
       have i0:(0:Int)≤(i:Int):=Int.natCast_nonneg _
       by_cases hlt:i<l3.length
       ·have i1:(i:Int)<(l3.length:Int):=by omega
        obtain⟨g,off,ho,hg,c0,c1,c2⟩:=HL3.out i hlt
        subst ho
        have HF1:=Lib.hid (scan_step hlt HF.out)
        generalize l3[i]=x at *
        have e0:=fun y:WC W0=>y.cell c0
        have e1:=fun y:WC W0=>y.cell c1
        have e2:=fun y:WC W0=>y.cell c2
        clear HF c0 c1 c2
        go_upto_region 24 with fail
        have bX:=Blk.new' y.w #[.int .i32 x.1,.int .i32 x.2.1,.int .i32 x.2.2] 141
        have HV1:Hid (Below W0.heap.size W0 (y.w.alloc (.cells #[.int .i32 x.1,.int .i32 x.2.1,.int .i32 x.2.2] 141))):=Lib.hid (y.h.alloc y.h.size _)
        obtain⟨V,hV⟩:∃V,y.w.alloc (.cells #[.int .i32 x.1,.int .i32 x.2.1,.int .i32 x.2.2] 141)=V:=⟨_,rfl⟩
        rw[hV] at bX HV1 ⊢
        obtain⟨bx,hbx⟩:∃b,y.w.heap.size=b:=⟨_,rfl⟩
        rw[hbx] at bX ⊢
        clear hV hbx
        have x0:∀z:WC V,z.w.cell? ⟨bx,0,none⟩=some (.int .i32 x.1):=WC.cell (bX.cell 0)
        have x1:∀z:WC V,z.w.cell? ⟨bx,1,none⟩=some (.int .i32 x.2.1):=WC.cell (bX.cell 1)
        have x2:∀z:WC V,z.w.cell? ⟨bx,2,none⟩=some (.int .i32 x.2.2):=WC.cell (bX.cell 2)
        have HUp:Hid (∀z:WC V,Below W0.heap.size W0 z.w):=Lib.hid (fun z=>HV1.out.trans (z.h.mono HV1.out.size))
        have a0z:∀z:WC V,z.w.cell? ⟨W.heap.size,0,none⟩=some (.int .i64 0):=fun z=>a0 ⟨z.w,HUp.out z⟩
        have a1z:∀z:WC V,z.w.cell? ⟨W.heap.size,1,none⟩=some (.int .i64 0):=fun z=>a1 ⟨z.w,HUp.out z⟩
        have a2z:∀z:WC V,z.w.cell? ⟨W.heap.size,2,none⟩=some (.int .i64 0):=fun z=>a2 ⟨z.w,HUp.out z⟩
        have f0z:∀z:WC V,z.w.frozen? ⟨W.heap.size,0,none⟩=false:=fun z=>f0 ⟨z.w,HUp.out z⟩
        have f1z:∀z:WC V,z.w.frozen? ⟨W.heap.size,1,none⟩=false:=fun z=>f1 ⟨z.w,HUp.out z⟩
        have f2z:∀z:WC V,z.w.frozen? ⟨W.heap.size,2,none⟩=false:=fun z=>f2 ⟨z.w,HUp.out z⟩
        clear bX HV1
        obtain⟨z,hz⟩:∃z:WC V,z.w=V:=⟨WC.of V,rfl⟩
        conv=>arg 5;rw[←hz]
        clear hz
        have KV0:=Lib.hid (fun z:WC V=>HV.out (x.1) z.w (HUp.out z))
        have KV1:=Lib.hid (fun z:WC V=>HV.out (x.2.1) z.w (HUp.out z))
        have KV2:=Lib.hid (fun z:WC V=>HV.out (x.2.2) z.w (HUp.out z))
        cases h0:runeB x.1 with
        | false=>
         rw[h0] at KV0
         have HR:=Lib.hid ((scan_hit (f:=pairF) (by unfold pairF;simp only[h0];rfl)).symm.trans HF1.out)
         clear HF1
         go_wp2_with fail
         (with_reducible refine Calls.mono (KV0.out z) ?_)
         rintro e w' ⟨rfl,hBk⟩
         obtain⟨z1,hz1⟩:∃z1:WC V,z1.w=w':=⟨⟨_,z.h.trans (hBk.mono z.h.size)⟩,rfl⟩
         rw[←hz1]
         clear hz1 hBk
         clear KV0 KV1 KV2
         have KW:Hid (∀z:WC V,Calls Tryz.prog 99 #[.int .i64 12,.int .i64 4,.int .i64 i] z.w fun e w'=>e=.returned (.agg #[.int .i64 12,.int .i64 4,.int .i64 i])∧∃u:WC V,w'=u.w):=Lib.hid (fun z=>WC.call (HWr.out 12 4 i z.w))
         go_wp2_with fail
         (with_reducible refine Calls.mono (KW.out z1) ?_)
         rintro e w' ⟨rfl,zr,rfl⟩
         clear KW
         go_wp2_with fail
         have b3:=(((HA.out.keep (Keep.of_below (HUp.out zr) (fun _=>False)) (by simp)).set 0 (.int .i64 12)).set 1 (.int .i64 4)).set 2 (.int .i64 i)
         have r0:=b3.cell 0
         have r1:=b3.cell 1
         have r2:=b3.cell 2
         refine bodyPost_ret (v:=.agg #[.int .i64 12,.int .i64 4,.int .i64 i]) (res_wrong Hres.out (by rfl) r0 r1 r2) rfl ?_
         exact⟨by rw[←HR.out];rfl,set3_below (HB.out.trans ((HUp.out zr).mono HB.out.size)) (by omega)⟩
        | true=>
         rw[h0] at KV0
         cases h1:runeB x.2.1 with
         | false=>
          rw[h1] at KV1
          have HR:=Lib.hid ((scan_hit (f:=pairF) (by unfold pairF;simp only[h0,h1];rfl)).symm.trans HF1.out)
          clear HF1
          go_wp2_with fail
          (with_reducible refine Calls.mono (KV0.out z) ?_)
          rintro e w' ⟨rfl,hBk⟩
          obtain⟨z1,hz1⟩:∃z1:WC V,z1.w=w':=⟨⟨_,z.h.trans (hBk.mono z.h.size)⟩,rfl⟩
          rw[←hz1]
          clear hz1 hBk
          go_wp2_with fail
          (with_reducible refine Calls.mono (KV1.out z1) ?_)
          rintro e w' ⟨rfl,hBk⟩
          obtain⟨z2,hz1⟩:∃z1:WC V,z1.w=w':=⟨⟨_,z1.h.trans (hBk.mono z1.h.size)⟩,rfl⟩
          rw[←hz1]
          clear hz1 hBk
          clear KV0 KV1 KV2
          have KW:Hid (∀z:WC V,Calls Tryz.prog 99 #[.int .i64 12,.int .i64 4,.int .i64 i] z.w fun e w'=>e=.returned (.agg #[.int .i64 12,.int .i64 4,.int .i64 i])∧∃u:WC V,w'=u.w):=Lib.hid (fun z=>WC.call (HWr.out 12 4 i z.w))
          go_wp2_with fail
          (with_reducible refine Calls.mono (KW.out z2) ?_)
          rintro e w' ⟨rfl,zr,rfl⟩
          clear KW
          go_wp2_with fail
          have b3:=(((HA.out.keep (Keep.of_below (HUp.out zr) (fun _=>False)) (by simp)).set 0 (.int .i64 12)).set 1 (.int .i64 4)).set 2 (.int .i64 i)
          have r0:=b3.cell 0
          have r1:=b3.cell 1
          have r2:=b3.cell 2
          refine bodyPost_ret (v:=.agg #[.int .i64 12,.int .i64 4,.int .i64 i]) (res_wrong Hres.out (by rfl) r0 r1 r2) rfl ?_
          exact⟨by rw[←HR.out];rfl,set3_below (HB.out.trans ((HUp.out zr).mono HB.out.size)) (by omega)⟩
         | true=>
          rw[h1] at KV1
          cases h2:runeB x.2.2 with
          | false=>
           rw[h2] at KV2
           have HR:=Lib.hid ((scan_hit (f:=pairF) (by unfold pairF;simp only[h0,h1,h2];rfl)).symm.trans HF1.out)
           clear HF1
           go_wp2_with fail
           (with_reducible refine Calls.mono (KV0.out z) ?_)
           rintro e w' ⟨rfl,hBk⟩
           obtain⟨z1,hz1⟩:∃z1:WC V,z1.w=w':=⟨⟨_,z.h.trans (hBk.mono z.h.size)⟩,rfl⟩
           rw[←hz1]
           clear hz1 hBk
           go_wp2_with fail
           (with_reducible refine Calls.mono (KV1.out z1) ?_)
           rintro e w' ⟨rfl,hBk⟩
           obtain⟨z2,hz1⟩:∃z1:WC V,z1.w=w':=⟨⟨_,z1.h.trans (hBk.mono z1.h.size)⟩,rfl⟩
           rw[←hz1]
           clear hz1 hBk
           go_wp2_with fail
           (with_reducible refine Calls.mono (KV2.out z2) ?_)
           rintro e w' ⟨rfl,hBk⟩
           obtain⟨z3,hz1⟩:∃z1:WC V,z1.w=w':=⟨⟨_,z2.h.trans (hBk.mono z2.h.size)⟩,rfl⟩
           rw[←hz1]
           clear hz1 hBk
           clear KV0 KV1 KV2
           have KW:Hid (∀z:WC V,Calls Tryz.prog 99 #[.int .i64 12,.int .i64 4,.int .i64 i] z.w fun e w'=>e=.returned (.agg #[.int .i64 12,.int .i64 4,.int .i64 i])∧∃u:WC V,w'=u.w):=Lib.hid (fun z=>WC.call (HWr.out 12 4 i z.w))
           go_wp2_with fail
           (with_reducible refine Calls.mono (KW.out z3) ?_)
           rintro e w' ⟨rfl,zr,rfl⟩
           clear KW
           go_wp2_with fail
           have b3:=(((HA.out.keep (Keep.of_below (HUp.out zr) (fun _=>False)) (by simp)).set 0 (.int .i64 12)).set 1 (.int .i64 4)).set 2 (.int .i64 i)
           have r0:=b3.cell 0
           have r1:=b3.cell 1
           have r2:=b3.cell 2
           refine bodyPost_ret (v:=.agg #[.int .i64 12,.int .i64 4,.int .i64 i]) (res_wrong Hres.out (by rfl) r0 r1 r2) rfl ?_
           exact⟨by rw[←HR.out];rfl,set3_below (HB.out.trans ((HUp.out zr).mono HB.out.size)) (by omega)⟩
          | true=>
           rw[h2] at KV2
           have HF2:=Lib.hid ((scan_miss (f:=pairF) (by unfold pairF;simp only[h0,h1,h2];rfl)).symm.trans HF1.out)
           clear HF1
           go_wp2_with fail
           (with_reducible refine Calls.mono (KV0.out z) ?_)
           rintro e w' ⟨rfl,hBk⟩
           obtain⟨z1,hz1⟩:∃z1:WC V,z1.w=w':=⟨⟨_,z.h.trans (hBk.mono z.h.size)⟩,rfl⟩
           rw[←hz1]
           clear hz1 hBk
           go_wp2_with fail
           (with_reducible refine Calls.mono (KV1.out z1) ?_)
           rintro e w' ⟨rfl,hBk⟩
           obtain⟨z2,hz1⟩:∃z1:WC V,z1.w=w':=⟨⟨_,z1.h.trans (hBk.mono z1.h.size)⟩,rfl⟩
           rw[←hz1]
           clear hz1 hBk
           go_wp2_with fail
           (with_reducible refine Calls.mono (KV2.out z2) ?_)
           rintro e w' ⟨rfl,hBk⟩
           obtain⟨z3,hz1⟩:∃z1:WC V,z1.w=w':=⟨⟨_,z2.h.trans (hBk.mono z2.h.size)⟩,rfl⟩
           rw[←hz1]
           clear hz1 hBk
           go_wp2_with fail
           exact⟨⟨i+1,⟨z3.w,HUp.out z3⟩,by go_num,by omega,HF2,by first | rfl | trivial⟩,by simp[intOf];omega⟩
       ·obtain rfl:i=l3.length:=by omega
        have HF0:=Lib.hid (scan_end HF.out)
        clear hi hlt i0 HF
        have HF:=Lib.hid HF0.out
        clear HF0
        go_wp2_with fail
        have hz9:W.heap.size<W0.heap.size:=by have:=HZ.out;omega
        go_big_region
        clear hz9
        have hE9:Below W0.heap.size W0 ((y.w.alloc (.cells #[.slice o4 l4.length c4,.slice o5 l5.length c5] 26)).drew):=(y.h.alloc y.h.size _).drew
        have bX9:Blk ((y.w.alloc (.cells #[.slice o4 l4.length c4,.slice o5 l5.length c5] 26)).drew) y.w.heap.size [.slice o4 l4.length c4,.slice o5 l5.length c5] 26:=Blk.new' y.w #[.slice o4 l4.length c4,.slice o5 l5.length c5] 26
        obtain⟨W9,hW9⟩:∃W9,(y.w.alloc (.cells #[.slice o4 l4.length c4,.slice o5 l5.length c5] 26)).drew=W9:=⟨_,rfl⟩
        rw[hW9] at hE9 bX9 ⊢
        obtain⟨b9,hb9⟩:∃b,y.w.heap.size=b:=⟨_,rfl⟩
        rw[hb9] at bX9 ⊢
        clear hW9 hb9
        have HUp9:Hid (∀z:WC W9,Below W0.heap.size W0 z.w):=Lib.hid (fun z=>hE9.trans (z.h.mono hE9.size))
        replace a0:∀y:WC W9,y.w.cell? ⟨W.heap.size,0,none⟩=some (.int .i64 0):=fun z=>a0 ⟨z.w,HUp9.out z⟩
        replace f0:∀y:WC W9,y.w.frozen? ⟨W.heap.size,0,none⟩=false:=fun z=>f0 ⟨z.w,HUp9.out z⟩
        replace a1:∀y:WC W9,y.w.cell? ⟨W.heap.size,1,none⟩=some (.int .i64 0):=fun z=>a1 ⟨z.w,HUp9.out z⟩
        replace f1:∀y:WC W9,y.w.frozen? ⟨W.heap.size,1,none⟩=false:=fun z=>f1 ⟨z.w,HUp9.out z⟩
        replace a2:∀y:WC W9,y.w.cell? ⟨W.heap.size,2,none⟩=some (.int .i64 0):=fun z=>a2 ⟨z.w,HUp9.out z⟩
        replace f2:∀y:WC W9,y.w.frozen? ⟨W.heap.size,2,none⟩=false:=fun z=>f2 ⟨z.w,HUp9.out z⟩
        replace t0:∀y:WC W9,y.w.cell? ⟨bc,0,none⟩=some (.slice o0 l0.length c0):=fun z=>t0 ⟨z.w,HUp9.out z⟩
        replace t1:∀y:WC W9,y.w.cell? ⟨bc,1,none⟩=some (.slice o1 l1.length c1):=fun z=>t1 ⟨z.w,HUp9.out z⟩
        replace t2:∀y:WC W9,y.w.cell? ⟨bc,2,none⟩=some (.slice o2 l2.length c2):=fun z=>t2 ⟨z.w,HUp9.out z⟩
        replace t3:∀y:WC W9,y.w.cell? ⟨bc,3,none⟩=some (.slice o3 l3.length c3):=fun z=>t3 ⟨z.w,HUp9.out z⟩
        replace t4:∀y:WC W9,y.w.cell? ⟨bc,4,none⟩=some (.slice o4 l4.length c4):=fun z=>t4 ⟨z.w,HUp9.out z⟩
        replace t5:∀y:WC W9,y.w.cell? ⟨bc,5,none⟩=some (.slice o5 l5.length c5):=fun z=>t5 ⟨z.w,HUp9.out z⟩
        replace t6:∀y:WC W9,y.w.cell? ⟨bc,6,none⟩=some (.slice o6 l6.length c6):=fun z=>t6 ⟨z.w,HUp9.out z⟩
        replace t7:∀y:WC W9,y.w.cell? ⟨bc,7,none⟩=some (.slice o7 l7.length c7):=fun z=>t7 ⟨z.w,HUp9.out z⟩
        replace HV:=Lib.hid (fun r U (hU:Below W9.heap.size W9 U)=>HV.out r U (hE9.trans (hU.mono hE9.size)))
        replace HN:=Lib.hid (fun s hs U (hU:Below W9.heap.size W9 U)=>HN.out s hs U (hE9.trans (hU.mono hE9.size)))
        replace HS:=Lib.hid (fun s hs U (hU:Below W9.heap.size W9 U)=>HS.out s hs U (hE9.trans (hU.mono hE9.size)))
        replace HC:=Lib.hid (fun s hs U (hU:Below W9.heap.size W9 U)=>HC.out s hs U (hE9.trans (hU.mono hE9.size)))
        replace HL0:=Lib.hid (HL0.out.below hE9)
        replace HL1:=Lib.hid (HL1.out.below hE9)
        replace HL2:=Lib.hid (HL2.out.below hE9)
        replace HL3:=Lib.hid (HL3.out.below hE9)
        replace HL4:=Lib.hid (HL4.out.below hE9)
        replace HL5:=Lib.hid (HL5.out.below hE9)
        replace HL6:=Lib.hid (HL6.out.below hE9)
        replace HL7:=Lib.hid (HL7.out.below hE9)
        replace HA:=Lib.hid (HA.out.keep (Keep.of_below hE9 (fun _=>False)) (by simp))
        replace HZ:=Lib.hid (Nat.lt_of_lt_of_le HZ.out hE9.size)
        replace HB:=Lib.hid (HB.out.trans (hE9.mono HB.out.size))
        have s0:∀y:WC W9,y.w.cell? ⟨b9,0,none⟩=some (.slice o4 l4.length c4):=WC.cell (bX9.cell 0)
        have s1:∀y:WC W9,y.w.cell? ⟨b9,1,none⟩=some (.slice o5 l5.length c5):=WC.cell (bX9.cell 1)
        clear hE9 bX9 HUp9
        try clear y
        obtain⟨W0,h9⟩:∃X,X=W9:=⟨_,rfl⟩
        subst h9
        obtain⟨y,hy⟩:∃y:WC W0,y.w=W0:=⟨WC.of W0,rfl⟩
        conv=>arg 5;rw[←hy]
        clear hy
        have HF2:Hid (twoW (fun n=>mapM (n)) 5 l4 l5 (spW2 7 l6 l7 0) 0=R):=Lib.hid HF.out
        clear HF
        have HF:=Lib.hid HF2.out
        clear HF2
        go_wp2_with fail
        go_loopw [137] (fun v137 wr=>∃(k:Nat) (y:WC W0),v137=.int .i64 k∧k≤2∧Hid (twoW (fun n=>mapM (n)) 5 l4 l5 (spW2 7 l6 l7 0) k=R)∧wr=y.w) (fun v137 _=>2 - (intOf v137).toNat)
        case atStart=>exact⟨0,y,rfl,by omega,HF,rfl⟩
        case round=>
         clear HF
         obtain⟨k,y,rfl,hk2,HF,rfl⟩:=hrel
         have k0:(0:Int)≤(k:Int):=Int.natCast_nonneg _
         by_cases hk:k<2
         ·have k1:(k:Int)<2:=by omega
          obtain⟨L,ob,cb,sL,HLL,mL,HPr,HF1⟩:∃(L:List (Int×ByteArray)) (ob:Option Addr) (cb:Nat),(∀y:WC W0,y.w.cell? ⟨b9,k,none⟩=some (.slice ob L.length cb))∧Hid (MapsAt W0 ob L)∧L.length≤9223372036854775807∧Hid (∀x∈L,x.2.size≤1048576)∧Hid (scan (mapM (5+(k:Int))) L 0 (twoW (fun n=>mapM (n)) 5 l4 l5 (spW2 7 l6 l7 0) (k+1))=R):=by
           rcases (by omega:k=0∨k=1) with rfl | rfl
           ·refine⟨l4,o4,c4,s0,HL4,m4x,HSf,Lib.hid ?_⟩
            exact HF.out
           ·refine⟨l5,o5,c5,s1,HL5,m5x,HSl,Lib.hid ?_⟩
            exact HF.out
          clear HF s0 s1
          have HF:=Lib.hid HF1.out
          clear HF1
          go_wp2_with fail
          go_loopw [144] (fun v144 wr=>∃(i:Nat) (y:WC W0),v144=.int .i64 i∧i≤L.length∧Hid (scan (mapM (5+(k:Int))) (L.drop i) i (twoW (fun n=>mapM (n)) 5 l4 l5 (spW2 7 l6 l7 0) (k+1))=R)∧wr=y.w) (fun v144 _=>L.length - (intOf v144).toNat)
          case atStart=>exact⟨0,y,rfl,Nat.zero_le _,HF,rfl⟩
          case round=>
           clear HF y
           obtain⟨i,y,rfl,hi,HF,rfl⟩:=hrel
           have i0:(0:Int)≤(i:Int):=Int.natCast_nonneg _
           by_cases hlt:i<L.length
           ·have i1:(i:Int)<(L.length:Int):=by omega
            obtain⟨g,off,ho,hg,c0,c1,cz⟩:=HLL.out i hlt
            subst ho
            have HF1:=Lib.hid (scan_step hlt HF.out)
            have hxm:=List.getElem_mem hlt
            generalize L[i]=x at *
            have e0:=fun y:WC W0=>y.cell c0
            have e1:=fun y:WC W0=>y.cell c1
            clear HF c0 c1
            have hxs:=HPr.out x hxm
            go_upto_region 33 with fail
            have bX:=Blk.new' y.w #[.int .i32 x.1,.string x.2] 143
            have HV1:Hid (Below W0.heap.size W0 (y.w.alloc (.cells #[.int .i32 x.1,.string x.2] 143))):=Lib.hid (y.h.alloc y.h.size _)
            obtain⟨V,hV⟩:∃V,y.w.alloc (.cells #[.int .i32 x.1,.string x.2] 143)=V:=⟨_,rfl⟩
            rw[hV] at bX HV1 ⊢
            obtain⟨bx,hbx⟩:∃b,y.w.heap.size=b:=⟨_,rfl⟩
            rw[hbx] at bX ⊢
            clear hV hbx
            have x0:∀z:WC V,z.w.cell? ⟨bx,0,none⟩=some (.int .i32 x.1):=WC.cell (bX.cell 0)
            have x1:∀z:WC V,z.w.cell? ⟨bx,1,none⟩=some (.string x.2):=WC.cell (bX.cell 1)
            have HUp:Hid (∀z:WC V,Below W0.heap.size W0 z.w):=Lib.hid (fun z=>HV1.out.trans (z.h.mono HV1.out.size))
            have a0z:∀z:WC V,z.w.cell? ⟨W.heap.size,0,none⟩=some (.int .i64 0):=fun z=>a0 ⟨z.w,HUp.out z⟩
            have a1z:∀z:WC V,z.w.cell? ⟨W.heap.size,1,none⟩=some (.int .i64 0):=fun z=>a1 ⟨z.w,HUp.out z⟩
            have a2z:∀z:WC V,z.w.cell? ⟨W.heap.size,2,none⟩=some (.int .i64 0):=fun z=>a2 ⟨z.w,HUp.out z⟩
            have f0z:∀z:WC V,z.w.frozen? ⟨W.heap.size,0,none⟩=false:=fun z=>f0 ⟨z.w,HUp.out z⟩
            have f1z:∀z:WC V,z.w.frozen? ⟨W.heap.size,1,none⟩=false:=fun z=>f1 ⟨z.w,HUp.out z⟩
            have f2z:∀z:WC V,z.w.frozen? ⟨W.heap.size,2,none⟩=false:=fun z=>f2 ⟨z.w,HUp.out z⟩
            clear bX HV1
            obtain⟨z,hz⟩:∃z:WC V,z.w=V:=⟨WC.of V,rfl⟩
            conv=>arg 5;rw[←hz]
            clear hz
            have KC:=Lib.hid (fun z:WC V=>HC.out x.2 hxs z.w (HUp.out z))
            have KS:=Lib.hid (fun z:WC V=>HS.out x.2 hxs z.w (HUp.out z))
            have KV:=Lib.hid (fun z:WC V=>HV.out x.1 z.w (HUp.out z))
            cases h0:runeB x.1 with
            | false=>
             rw[h0] at KV
             have HR:=Lib.hid ((scan_hit (f:=mapM (5+(k:Int))) (by unfold mapM;simp only[h0];rfl)).symm.trans HF1.out)
             clear HF1
             go_wp2_with fail
             (with_reducible refine Calls.mono (KC.out z) ?_)
             rintro e w' ⟨rfl,hBk⟩
             obtain⟨z1,hz1⟩:∃z1:WC V,z1.w=w':=⟨⟨_,z.h.trans (hBk.mono z.h.size)⟩,rfl⟩
             rw[←hz1]
             clear hz1 hBk
             go_wp2_with fail
             (with_reducible refine Calls.mono (KV.out z1) ?_)
             rintro e w' ⟨rfl,hBk⟩
             obtain⟨zz,hz1⟩:∃z1:WC V,z1.w=w':=⟨⟨_,z1.h.trans (hBk.mono z1.h.size)⟩,rfl⟩
             rw[←hz1]
             clear hz1 hBk
             clear KV KC KS
             have KW:Hid (∀z:WC V,Calls Tryz.prog 99 #[.int .i64 12,.int .i64 (5+(k:Int)),.int .i64 i] z.w fun e w'=>e=.returned (.agg #[.int .i64 12,.int .i64 (5+(k:Int)),.int .i64 i])∧∃u:WC V,w'=u.w):=Lib.hid (fun z=>WC.call (HWr.out 12 (5+(k:Int)) i z.w))
             go_wp2_with fail
             (with_reducible refine Calls.mono (KW.out zz) ?_)
             rintro e w' ⟨rfl,zr,rfl⟩
             clear KW
             go_wp2_with fail
             have b3:=(((HA.out.keep (Keep.of_below (HUp.out zr) (fun _=>False)) (by simp)).set 0 (.int .i64 12)).set 1 (.int .i64 (5+(k:Int)))).set 2 (.int .i64 i)
             have r0:=b3.cell 0
             have r1:=b3.cell 1
             have r2:=b3.cell 2
             refine bodyPost_ret (v:=.agg #[.int .i64 12,.int .i64 (5+(k:Int)),.int .i64 i]) (res_wrong Hres.out (by rfl) r0 r1 r2) rfl ?_
             exact⟨by rw[←HR.out];rfl,set3_below (HB.out.trans ((HUp.out zr).mono HB.out.size)) (by omega)⟩
            | true=>
             rw[h0] at KV
             cases h1:(runesO x.2).isSome with
             | false=>
              rw[h1] at KS
              have HR:=Lib.hid ((scan_hit (f:=mapM (5+(k:Int))) (by unfold mapM;simp only[h0,h1];rfl)).symm.trans HF1.out)
              clear HF1
              go_wp2_with fail
              (with_reducible refine Calls.mono (KC.out z) ?_)
              rintro e w' ⟨rfl,hBk⟩
              obtain⟨z1,hz1⟩:∃z1:WC V,z1.w=w':=⟨⟨_,z.h.trans (hBk.mono z.h.size)⟩,rfl⟩
              rw[←hz1]
              clear hz1 hBk
              go_wp2_with fail
              (with_reducible refine Calls.mono (KV.out z1) ?_)
              rintro e w' ⟨rfl,hBk⟩
              obtain⟨z2,hz1⟩:∃z1:WC V,z1.w=w':=⟨⟨_,z1.h.trans (hBk.mono z1.h.size)⟩,rfl⟩
              rw[←hz1]
              clear hz1 hBk
              go_wp2_with fail
              (with_reducible refine Calls.mono (KS.out z2) ?_)
              rintro e w' ⟨rfl,hBk⟩
              obtain⟨zz,hz1⟩:∃z1:WC V,z1.w=w':=⟨⟨_,z2.h.trans (hBk.mono z2.h.size)⟩,rfl⟩
              rw[←hz1]
              clear hz1 hBk
              clear KV KC KS
              have KW:Hid (∀z:WC V,Calls Tryz.prog 99 #[.int .i64 35,.int .i64 (5+(k:Int)),.int .i64 i] z.w fun e w'=>e=.returned (.agg #[.int .i64 35,.int .i64 (5+(k:Int)),.int .i64 i])∧∃u:WC V,w'=u.w):=Lib.hid (fun z=>WC.call (HWr.out 35 (5+(k:Int)) i z.w))
              go_wp2_with fail
              (with_reducible refine Calls.mono (KW.out zz) ?_)
              rintro e w' ⟨rfl,zr,rfl⟩
              clear KW
              go_wp2_with fail
              have b3:=(((HA.out.keep (Keep.of_below (HUp.out zr) (fun _=>False)) (by simp)).set 0 (.int .i64 35)).set 1 (.int .i64 (5+(k:Int)))).set 2 (.int .i64 i)
              have r0:=b3.cell 0
              have r1:=b3.cell 1
              have r2:=b3.cell 2
              refine bodyPost_ret (v:=.agg #[.int .i64 35,.int .i64 (5+(k:Int)),.int .i64 i]) (res_wrong Hres.out (by rfl) r0 r1 r2) rfl ?_
              exact⟨by rw[←HR.out];rfl,set3_below (HB.out.trans ((HUp.out zr).mono HB.out.size)) (by omega)⟩
             | true=>
              rw[h1] at KS
              rw[rn_count h1] at KC
              cases h2:decide (((rnL x.2).length:Int)<1) with
              | true=>
               have h2n:decide ((rnL x.2).length<1)=true:=by have:=of_decide_eq_true h2;rw[decide_eq_true_iff];omega
               have HR:=Lib.hid ((scan_hit (f:=mapM (5+(k:Int))) (by unfold mapM;simp only[h0,h1,h2];rfl)).symm.trans HF1.out)
               clear HF1
               go_wp2_with fail
               (with_reducible refine Calls.mono (KC.out z) ?_)
               rintro e w' ⟨rfl,hBk⟩
               obtain⟨z1,hz1⟩:∃z1:WC V,z1.w=w':=⟨⟨_,z.h.trans (hBk.mono z.h.size)⟩,rfl⟩
               rw[←hz1]
               clear hz1 hBk
               go_wp2_with fail
               (with_reducible refine Calls.mono (KV.out z1) ?_)
               rintro e w' ⟨rfl,hBk⟩
               obtain⟨z2,hz1⟩:∃z1:WC V,z1.w=w':=⟨⟨_,z1.h.trans (hBk.mono z1.h.size)⟩,rfl⟩
               rw[←hz1]
               clear hz1 hBk
               go_wp2_with fail
               (with_reducible refine Calls.mono (KS.out z2) ?_)
               rintro e w' ⟨rfl,hBk⟩
               obtain⟨zz,hz1⟩:∃z1:WC V,z1.w=w':=⟨⟨_,z2.h.trans (hBk.mono z2.h.size)⟩,rfl⟩
               rw[←hz1]
               clear hz1 hBk
               clear KV KC KS
               have KW:Hid (∀z:WC V,Calls Tryz.prog 99 #[.int .i64 35,.int .i64 (5+(k:Int)),.int .i64 i] z.w fun e w'=>e=.returned (.agg #[.int .i64 35,.int .i64 (5+(k:Int)),.int .i64 i])∧∃u:WC V,w'=u.w):=Lib.hid (fun z=>WC.call (HWr.out 35 (5+(k:Int)) i z.w))
               go_wp2_with fail
               (with_reducible refine Calls.mono (KW.out zz) ?_)
               rintro e w' ⟨rfl,zr,rfl⟩
               clear KW
               go_wp2_with fail
               have b3:=(((HA.out.keep (Keep.of_below (HUp.out zr) (fun _=>False)) (by simp)).set 0 (.int .i64 35)).set 1 (.int .i64 (5+(k:Int)))).set 2 (.int .i64 i)
               have r0:=b3.cell 0
               have r1:=b3.cell 1
               have r2:=b3.cell 2
               refine bodyPost_ret (v:=.agg #[.int .i64 35,.int .i64 (5+(k:Int)),.int .i64 i]) (res_wrong Hres.out (by rfl) r0 r1 r2) rfl ?_
               exact⟨by rw[←HR.out];rfl,set3_below (HB.out.trans ((HUp.out zr).mono HB.out.size)) (by omega)⟩
              | false=>
               have h2n:decide ((rnL x.2).length<1)=false:=by have:=of_decide_eq_false h2;rw[decide_eq_false_iff_not];omega
               cases h3:decide ((4:Int)<((rnL x.2).length:Int)) with
               | true=>
                have h3n:decide (4<(rnL x.2).length)=true:=by have:=of_decide_eq_true h3;rw[decide_eq_true_iff];omega
                have HR:=Lib.hid ((scan_hit (f:=mapM (5+(k:Int))) (by unfold mapM;simp only[h0,h1,h2,h3];rfl)).symm.trans HF1.out)
                clear HF1
                go_wp2_with fail
                (with_reducible refine Calls.mono (KC.out z) ?_)
                rintro e w' ⟨rfl,hBk⟩
                obtain⟨z1,hz1⟩:∃z1:WC V,z1.w=w':=⟨⟨_,z.h.trans (hBk.mono z.h.size)⟩,rfl⟩
                rw[←hz1]
                clear hz1 hBk
                go_wp2_with fail
                (with_reducible refine Calls.mono (KV.out z1) ?_)
                rintro e w' ⟨rfl,hBk⟩
                obtain⟨z2,hz1⟩:∃z1:WC V,z1.w=w':=⟨⟨_,z1.h.trans (hBk.mono z1.h.size)⟩,rfl⟩
                rw[←hz1]
                clear hz1 hBk
                go_wp2_with fail
                (with_reducible refine Calls.mono (KS.out z2) ?_)
                rintro e w' ⟨rfl,hBk⟩
                obtain⟨zz,hz1⟩:∃z1:WC V,z1.w=w':=⟨⟨_,z2.h.trans (hBk.mono z2.h.size)⟩,rfl⟩
                rw[←hz1]
                clear hz1 hBk
                clear KV KC KS
                have KW:Hid (∀z:WC V,Calls Tryz.prog 99 #[.int .i64 35,.int .i64 (5+(k:Int)),.int .i64 i] z.w fun e w'=>e=.returned (.agg #[.int .i64 35,.int .i64 (5+(k:Int)),.int .i64 i])∧∃u:WC V,w'=u.w):=Lib.hid (fun z=>WC.call (HWr.out 35 (5+(k:Int)) i z.w))
                go_wp2_with fail
                (with_reducible refine Calls.mono (KW.out zz) ?_)
                rintro e w' ⟨rfl,zr,rfl⟩
                clear KW
                go_wp2_with fail
                have b3:=(((HA.out.keep (Keep.of_below (HUp.out zr) (fun _=>False)) (by simp)).set 0 (.int .i64 35)).set 1 (.int .i64 (5+(k:Int)))).set 2 (.int .i64 i)
                have r0:=b3.cell 0
                have r1:=b3.cell 1
                have r2:=b3.cell 2
                refine bodyPost_ret (v:=.agg #[.int .i64 35,.int .i64 (5+(k:Int)),.int .i64 i]) (res_wrong Hres.out (by rfl) r0 r1 r2) rfl ?_
                exact⟨by rw[←HR.out];rfl,set3_below (HB.out.trans ((HUp.out zr).mono HB.out.size)) (by omega)⟩
               | false=>
                have h3n:decide (4<(rnL x.2).length)=false:=by have:=of_decide_eq_false h3;rw[decide_eq_false_iff_not];omega
                have HF2:=Lib.hid ((scan_miss (f:=mapM (5+(k:Int))) (by unfold mapM;simp only[h0,h1,h2,h3];rfl)).symm.trans HF1.out)
                clear HF1
                go_wp2_with fail
                (with_reducible refine Calls.mono (KC.out z) ?_)
                rintro e w' ⟨rfl,hBk⟩
                obtain⟨z1,hz1⟩:∃z1:WC V,z1.w=w':=⟨⟨_,z.h.trans (hBk.mono z.h.size)⟩,rfl⟩
                rw[←hz1]
                clear hz1 hBk
                go_wp2_with fail
                (with_reducible refine Calls.mono (KV.out z1) ?_)
                rintro e w' ⟨rfl,hBk⟩
                obtain⟨z2,hz1⟩:∃z1:WC V,z1.w=w':=⟨⟨_,z1.h.trans (hBk.mono z1.h.size)⟩,rfl⟩
                rw[←hz1]
                clear hz1 hBk
                go_wp2_with fail
                (with_reducible refine Calls.mono (KS.out z2) ?_)
                rintro e w' ⟨rfl,hBk⟩
                obtain⟨z3,hz1⟩:∃z1:WC V,z1.w=w':=⟨⟨_,z2.h.trans (hBk.mono z2.h.size)⟩,rfl⟩
                rw[←hz1]
                clear hz1 hBk
                go_wp2_with fail
                exact⟨⟨i+1,⟨z3.w,HUp.out z3⟩,by go_num,by omega,HF2,by first | rfl | trivial⟩,by simp[intOf];omega⟩
           ·obtain rfl:i=L.length:=by omega
            have HF0:=Lib.hid (scan_end HF.out)
            clear hi hlt i0 HF
            have HF:=Lib.hid HF0.out
            clear HF0
            go_wp2_with fail
            exact⟨⟨k+1,y,by go_num,by omega,HF,by first | rfl | trivial⟩,by simp[intOf];omega⟩
         ·obtain rfl:k=2:=by omega
          have HF2:Hid ((spW2 7 l6 l7 0)=R):=Lib.hid HF.out
          clear HF hk2 hk k0
          have HF:=Lib.hid HF2.out
          clear HF2
          try simp only[Int.cast_ofNat_Int]
          go_wp2_with fail
          have hz9:W.heap.size<W0.heap.size:=by have:=HZ.out;omega
          go_big_region
          all_goals (refine ?hJ2)
          clear hz9
          have hE9:Below W0.heap.size W0 ((y.w.alloc (.cells #[.slice o6 l6.length c6,.slice o7 l7.length c7] 23)).drew):=(y.h.alloc y.h.size _).drew
          have bX9:Blk ((y.w.alloc (.cells #[.slice o6 l6.length c6,.slice o7 l7.length c7] 23)).drew) y.w.heap.size [.slice o6 l6.length c6,.slice o7 l7.length c7] 23:=Blk.new' y.w #[.slice o6 l6.length c6,.slice o7 l7.length c7] 23
          obtain⟨W9,hW9⟩:∃W9,(y.w.alloc (.cells #[.slice o6 l6.length c6,.slice o7 l7.length c7] 23)).drew=W9:=⟨_,rfl⟩
          rw[hW9] at hE9 bX9 ⊢
          obtain⟨b8,hb9⟩:∃b,y.w.heap.size=b:=⟨_,rfl⟩
          rw[hb9] at bX9 ⊢
          clear hW9 hb9
          have HUp9:Hid (∀z:WC W9,Below W0.heap.size W0 z.w):=Lib.hid (fun z=>hE9.trans (z.h.mono hE9.size))
          replace a0:∀y:WC W9,y.w.cell? ⟨W.heap.size,0,none⟩=some (.int .i64 0):=fun z=>a0 ⟨z.w,HUp9.out z⟩
          replace f0:∀y:WC W9,y.w.frozen? ⟨W.heap.size,0,none⟩=false:=fun z=>f0 ⟨z.w,HUp9.out z⟩
          replace a1:∀y:WC W9,y.w.cell? ⟨W.heap.size,1,none⟩=some (.int .i64 0):=fun z=>a1 ⟨z.w,HUp9.out z⟩
          replace f1:∀y:WC W9,y.w.frozen? ⟨W.heap.size,1,none⟩=false:=fun z=>f1 ⟨z.w,HUp9.out z⟩
          replace a2:∀y:WC W9,y.w.cell? ⟨W.heap.size,2,none⟩=some (.int .i64 0):=fun z=>a2 ⟨z.w,HUp9.out z⟩
          replace f2:∀y:WC W9,y.w.frozen? ⟨W.heap.size,2,none⟩=false:=fun z=>f2 ⟨z.w,HUp9.out z⟩
          replace t0:∀y:WC W9,y.w.cell? ⟨bc,0,none⟩=some (.slice o0 l0.length c0):=fun z=>t0 ⟨z.w,HUp9.out z⟩
          replace t1:∀y:WC W9,y.w.cell? ⟨bc,1,none⟩=some (.slice o1 l1.length c1):=fun z=>t1 ⟨z.w,HUp9.out z⟩
          replace t2:∀y:WC W9,y.w.cell? ⟨bc,2,none⟩=some (.slice o2 l2.length c2):=fun z=>t2 ⟨z.w,HUp9.out z⟩
          replace t3:∀y:WC W9,y.w.cell? ⟨bc,3,none⟩=some (.slice o3 l3.length c3):=fun z=>t3 ⟨z.w,HUp9.out z⟩
          replace t4:∀y:WC W9,y.w.cell? ⟨bc,4,none⟩=some (.slice o4 l4.length c4):=fun z=>t4 ⟨z.w,HUp9.out z⟩
          replace t5:∀y:WC W9,y.w.cell? ⟨bc,5,none⟩=some (.slice o5 l5.length c5):=fun z=>t5 ⟨z.w,HUp9.out z⟩
          replace t6:∀y:WC W9,y.w.cell? ⟨bc,6,none⟩=some (.slice o6 l6.length c6):=fun z=>t6 ⟨z.w,HUp9.out z⟩
          replace t7:∀y:WC W9,y.w.cell? ⟨bc,7,none⟩=some (.slice o7 l7.length c7):=fun z=>t7 ⟨z.w,HUp9.out z⟩
          replace HV:=Lib.hid (fun r U (hU:Below W9.heap.size W9 U)=>HV.out r U (hE9.trans (hU.mono hE9.size)))
          replace HN:=Lib.hid (fun s hs U (hU:Below W9.heap.size W9 U)=>HN.out s hs U (hE9.trans (hU.mono hE9.size)))
          replace HS:=Lib.hid (fun s hs U (hU:Below W9.heap.size W9 U)=>HS.out s hs U (hE9.trans (hU.mono hE9.size)))
          replace HC:=Lib.hid (fun s hs U (hU:Below W9.heap.size W9 U)=>HC.out s hs U (hE9.trans (hU.mono hE9.size)))
          replace HL0:=Lib.hid (HL0.out.below hE9)
          replace HL1:=Lib.hid (HL1.out.below hE9)
          replace HL2:=Lib.hid (HL2.out.below hE9)
          replace HL3:=Lib.hid (HL3.out.below hE9)
          replace HL4:=Lib.hid (HL4.out.below hE9)
          replace HL5:=Lib.hid (HL5.out.below hE9)
          replace HL6:=Lib.hid (HL6.out.below hE9)
          replace HL7:=Lib.hid (HL7.out.below hE9)
          replace HA:=Lib.hid (HA.out.keep (Keep.of_below hE9 (fun _=>False)) (by simp))
          replace HZ:=Lib.hid (Nat.lt_of_lt_of_le HZ.out hE9.size)
          replace HB:=Lib.hid (HB.out.trans (hE9.mono HB.out.size))
          have s0:∀y:WC W9,y.w.cell? ⟨b8,0,none⟩=some (.slice o6 l6.length c6):=WC.cell (bX9.cell 0)
          have s1:∀y:WC W9,y.w.cell? ⟨b8,1,none⟩=some (.slice o7 l7.length c7):=WC.cell (bX9.cell 1)
          clear hE9 bX9 HUp9
          try clear y
          obtain⟨W0,h9⟩:∃X,X=W9:=⟨_,rfl⟩
          subst h9
          obtain⟨y,hy⟩:∃y:WC W0,y.w=W0:=⟨WC.of W0,rfl⟩
          conv=>arg 5;rw[←hy]
          clear hy
          go_wp2_with fail
          go_loopw [192] (fun v192 wr=>∃(k:Nat) (y:WC W0),v192=.int .i64 k∧k≤2∧Hid (spW2 7 l6 l7 k=R)∧wr=y.w) (fun v192 _=>2 - (intOf v192).toNat)
          case atStart=>exact⟨0,y,rfl,by omega,HF,rfl⟩
          case round=>
           clear HF
           obtain⟨k,y,rfl,hk2,HF,rfl⟩:=hrel
           have k0:(0:Int)≤(k:Int):=Int.natCast_nonneg _
           by_cases hk:k<2
           ·have k1:(k:Int)<2:=by omega
            obtain⟨L,ob,cb,sL,HLL,mL,HF1⟩:∃(L:List Span) (ob:Option Addr) (cb:Nat),(∀y:WC W0,y.w.cell? ⟨b8,k,none⟩=some (.slice ob L.length cb))∧Hid (SpansAt W0 ob L)∧L.length≤1048576∧Hid (orK (spansW (7+(k:Int)) L) (spW2 7 l6 l7 (k+1))=R):=by
             rcases (by omega:k=0∨k=1) with rfl | rfl
             ·exact⟨l6,o6,c6,s0,HL6,n6x,Lib.hid HF.out⟩
             ·exact⟨l7,o7,c7,s1,HL7,n7x,Lib.hid HF.out⟩
            clear HF s0 s1
            have KR:=Lib.hid (fun y:WC W0=>HRt.out L ob cb y.w (HLL.out.below y.h) mL)
            obtain⟨e1v,e2v,hE⟩:∃a b,spansE L=(a,b):=⟨_,_,rfl⟩
            rw[hE] at KR
            dsimp only at KR
            by_cases he:e1v=0
            ·have d1:(e1v != 0)=false:=by simp[he]
             have HF2:Hid (spW2 7 l6 l7 (k+1)=R):=Lib.hid (by rw[←HF1.out];unfold orK spansW;rw[hE];simp[he])
             clear HF1 he hE
             go_wp2_with fail
             (with_reducible refine Calls.mono (KR.out y) ?_)
             rintro e w' ⟨rfl,hBk⟩
             obtain⟨y1,hz1⟩:∃z1:WC W0,z1.w=w':=⟨⟨_,y.h.trans (hBk.mono y.h.size)⟩,rfl⟩
             rw[←hz1]
             clear hz1 hBk
             go_wp2_with fail
             exact⟨⟨k+1,y1,by go_num,by omega,HF2,by first | rfl | trivial⟩,by simp[intOf];omega⟩
            ·have d1:(e1v != 0)=true:=by simp[he]
             have HR:Hid (((e1v,7+(k:Int),e2v):W3)=R):=Lib.hid (by rw[←HF1.out];unfold orK spansW;rw[hE];simp[he])
             clear HF1 he hE
             go_wp2_with fail
             (with_reducible refine Calls.mono (KR.out y) ?_)
             rintro e w' ⟨rfl,hBk⟩
             obtain⟨y1,hz1⟩:∃z1:WC W0,z1.w=w':=⟨⟨_,y.h.trans (hBk.mono y.h.size)⟩,rfl⟩
             rw[←hz1]
             clear hz1 hBk
             clear KR
             have KW:Hid (∀z:WC W0,Calls Tryz.prog 99 #[.int .i64 e1v,.int .i64 (7+(k:Int)),.int .i64 e2v] z.w fun e w'=>e=.returned (.agg #[.int .i64 e1v,.int .i64 (7+(k:Int)),.int .i64 e2v])∧∃u:WC W0,w'=u.w):=Lib.hid (fun z=>WC.call (HWr.out e1v (7+(k:Int)) e2v z.w))
             go_wp2_with fail
             (with_reducible refine Calls.mono (KW.out y1) ?_)
             rintro e w' ⟨rfl,zr,rfl⟩
             clear KW
             go_wp2_with fail
             have b3:=(((HA.out.keep (Keep.of_below zr.h (fun _=>False)) (by simp)).set 0 (.int .i64 e1v)).set 1 (.int .i64 (7+(k:Int)))).set 2 (.int .i64 e2v)
             have r0:=b3.cell 0
             have r1:=b3.cell 1
             have r2:=b3.cell 2
             refine bodyPost_ret (v:=.agg #[.int .i64 e1v,.int .i64 (7+(k:Int)),.int .i64 e2v]) (res_wrong Hres.out (by rfl) r0 r1 r2) rfl ?_
             exact⟨by rw[←HR.out];rfl,set3_below (HB.out.trans (zr.h.mono HB.out.size)) (by omega)⟩
           ·obtain rfl:k=2:=by omega
            have HF2:Hid (((0,0,0):W3)=R):=Lib.hid HF.out
            clear HF hk2 hk k0
            have HF:=Lib.hid HF2.out
            clear HF2
            have HR:=Lib.hid HF.out
            go_wp2_with fail
            have b3:=(((HA.out.keep (Keep.of_below y.h (fun _=>False)) (by simp)).set 0 (.int .i64 0)).set 1 (.int .i64 0)).set 2 (.int .i64 0)
            have r0:=b3.cell 0
            have r1:=b3.cell 1
            have r2:=b3.cell 2
            refine bodyPost_ret (v:=.agg #[.int .i64 0,.int .i64 0,.int .i64 0]) (res_wrong Hres.out (by rfl) r0 r1 r2) rfl ?_
            exact⟨by rw[←HR.out];rfl,set3_below (HB.out.trans (y.h.mono HB.out.size)) (by omega)⟩
   ·have d1:(e1v != 0)=true:=by simp[he]
    have HR:Hid (((e1v,2,e2v):W3)=R):=Lib.hid (by rw[←HF.out];unfold orK spansW;rw[hE];simp[he])
    clear HF he hE
    go_wp2_with fail
    (with_reducible refine Calls.mono (KR.out y) ?_)
    rintro e w' ⟨rfl,hBk⟩
    obtain⟨y1,hz1⟩:∃z1:WC W0,z1.w=w':=⟨⟨_,y.h.trans (hBk.mono y.h.size)⟩,rfl⟩
    rw[←hz1]
    clear hz1 hBk
    clear KR
    have KW:Hid (∀z:WC W0,Calls Tryz.prog 99 #[.int .i64 e1v,.int .i64 2,.int .i64 e2v] z.w fun e w'=>e=.returned (.agg #[.int .i64 e1v,.int .i64 2,.int .i64 e2v])∧∃u:WC W0,w'=u.w):=Lib.hid (fun z=>WC.call (HWr.out e1v 2 e2v z.w))
    go_wp2_with fail
    (with_reducible refine Calls.mono (KW.out y1) ?_)
    rintro e w' ⟨rfl,zr,rfl⟩
    clear KW
    go_wp2_with fail
    have b3:=(((HA.out.keep (Keep.of_below zr.h (fun _=>False)) (by simp)).set 0 (.int .i64 e1v)).set 1 (.int .i64 2)).set 2 (.int .i64 e2v)
    have r0:=b3.cell 0
    have r1:=b3.cell 1
    have r2:=b3.cell 2
    refine bodyPost_ret (v:=.agg #[.int .i64 e1v,.int .i64 2,.int .i64 e2v]) (res_wrong Hres.out (by rfl) r0 r1 r2) rfl ?_
    exact⟨by rw[←HR.out];rfl,set3_below (HB.out.trans (zr.h.mono HB.out.size)) (by omega)⟩
end Go.Proofs.YtioehfhdoohdmaaGreatDoor
