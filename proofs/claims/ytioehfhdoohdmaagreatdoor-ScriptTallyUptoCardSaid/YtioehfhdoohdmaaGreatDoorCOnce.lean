/- (*tables.check).once, walked. Printed by gen_conce2.py. -/
import Derived.Test.YtioehfhdoohdmaaGreatDoorChkA
set_option linter.unusedVariables false
set_option linter.unusedSimpArgs false
namespace Go.Proofs.YtioehfhdoohdmaaGreatDoor
open Go.RowKit Go.Shelf BigFrame
theorem MapIs.set3 {P:Program}{k:TypeId}{W:World}{b c:Nat}{l:List (Value×Value)}(h:MapIs P k W b l) (hb:b≠c) {u v x:Value}:MapIs P k (((W.setCell ⟨c,0,none⟩ u).setCell ⟨c,1,none⟩ v).setCell ⟨c,2,none⟩ x) b l:=
 h.of_block (((Below.heap_setCell _ ⟨c,2,none⟩ _ _ hb).trans (Below.heap_setCell _ ⟨c,1,none⟩ _ _ hb)).trans (Below.heap_setCell _ ⟨c,0,none⟩ _ _ hb))
set_option maxRecDepth 100000 in
set_option maxHeartbeats 40000000 in
theorem conce_any (T:Tab) (a:TAddr) (M:MAddr) (W:World) (h:ChkAt W M T a) (h0:Maps0 W M) (hfit:TabFit T) (hk:∀m∈T.marks,m.2≠0) (hmr:∀m∈T.marks,runeB m.1=true) (hpr:∀x∈T.pairs,runeB x.1=true∧runeB x.2.1=true∧runeB x.2.2=true) (hfr:∀x∈T.folds,runeB x.1=true) (hlr:∀x∈T.looks,runeB x.1=true):Calls Tryz.prog 68 #[.pointer (some ⟨M.bc,0,none⟩)] W fun e w'=>e=.returned (wV (twiceW T))∧Keep (InM M M.m1) W w'∧((twiceW T).1=0→MapsAt5 w' M T):=by
 obtain⟨l0,l1,l2,l3,l4,l5,l6,l7⟩:=T
 obtain⟨o0,o1,o2,o3,o4,o5,o6,o7,c0,c1,c2,c3,c4,c5,c6,c7⟩:=a
 obtain⟨bc,bb,m1,m2,m3,m4,m5⟩:=M
 have hBa:Below W.heap.size W (W.alloc (.cells #[.int .i64 0,.int .i64 0,.int .i64 0] 100)):=(Below.refl _ W).alloc (Nat.le_refl _) _
 have hB:Below W.heap.size W ((W.alloc (.cells #[.int .i64 0,.int .i64 0,.int .i64 0] 100)).alloc (.map #[] 0)):=hBa.alloc hBa.size _
 have bA:=(Blk.new' W #[.int .i64 0,.int .i64 0,.int .i64 0] 100).alloc (.map #[] 0)
 have hm0:=MapIs.made Tryz.prog 9 (W.alloc (.cells #[.int .i64 0,.int .i64 0,.int .i64 0] 100))
 have hC:=h.below hB
 have hSt:MapsSt ((W.alloc (.cells #[.int .i64 0,.int .i64 0,.int .i64 0] 100)).alloc (.map #[] 0)) ⟨bc,bb,m1,m2,m3,m4,m5⟩ (W.heap.size+1) [] [] [] [] [] []:=⟨by rw[show (W.alloc (.cells #[.int .i64 0,.int .i64 0,.int .i64 0] 100)).heap.size=W.heap.size+1 by simp] at hm0;exact hm0,h0.m1.keep hB,h0.m2.keep hB,h0.m3.keep hB,h0.m4.keep hB,h0.m5.keep hB⟩
 have hlt5:m1<W.heap.size∧m2<W.heap.size∧m3<W.heap.size∧m4<W.heap.size∧m5<W.heap.size:=⟨h0.m1.lt,h0.m2.lt,h0.m3.lt,h0.m4.lt,h0.m5.lt⟩
 obtain⟨nb,hnb⟩:∃nb,W.heap.size+1=nb:=⟨_,rfl⟩
 rw[hnb] at hSt
 have hmk:(Instr.makeMap 170 none).run Tryz.prog (W.alloc (.cells #[.int .i64 0,.int .i64 0,.int .i64 0] 100))=.ok (.map (some nb)) ((W.alloc (.cells #[.int .i64 0,.int .i64 0,.int .i64 0] 100)).alloc (.map #[] 0)):=by have:=run_makeMap (P:=Tryz.prog) 170 (W.alloc (.cells #[.int .i64 0,.int .i64 0,.int .i64 0] 100));rwa [show (W.alloc (.cells #[.int .i64 0,.int .i64 0,.int .i64 0] 100)).heap.size=nb by rw[←hnb];simp] at this
 obtain⟨W0,hW0⟩:∃W0,(W.alloc (.cells #[.int .i64 0,.int .i64 0,.int .i64 0] 100)).alloc (.map #[] 0)=W0:=⟨_,rfl⟩
 rw[hW0] at hB bA hC hSt hmk
 have HW0:=Lib.hid hW0
 have HNb:=Lib.hid hnb
 have HA:=Lib.hid bA
 have hT:=hC.tab
 have HSt:=Lib.hid hSt
 have HD:Hid (Dis ⟨bc,bb,m1,m2,m3,m4,m5⟩ nb):=Lib.hid ⟨h0.d12,h0.d13,h0.d14,h0.d15,h0.d23,h0.d24,h0.d25,h0.d34,h0.d35,h0.d45,by have:=hlt5.1;simp only;omega,by have:=hlt5.2.1;simp only;omega,by have:=hlt5.2.2.1;simp only;omega,by have:=hlt5.2.2.2.1;simp only;omega,by have:=hlt5.2.2.2.2;simp only;omega⟩
 have HBK:=Lib.hid (Keep.of_below hB (InM ⟨bc,bb,m1,m2,m3,m4,m5⟩ nb))
 have hns:∀p v,W0.cell? p=some v→¬ (InM ⟨bc,bb,m1,m2,m3,m4,m5⟩ nb) p.block:=fun p v hc=>hSt.apart hc
 have HNS:=Lib.hid hns
 have a0:∀y:WK (InM ⟨bc,bb,m1,m2,m3,m4,m5⟩ nb) W0,y.w.cell? ⟨W.heap.size,0,none⟩=some (.int .i64 0):=WK.cell (bA.cell 0) (hns _ _ (bA.cell 0))
 have f0:∀y:WK (InM ⟨bc,bb,m1,m2,m3,m4,m5⟩ nb) W0,y.w.frozen? ⟨W.heap.size,0,none⟩=false:=WK.frozen (bA.cell 0) (bA.frozen 0) (hns _ _ (bA.cell 0))
 have a1:∀y:WK (InM ⟨bc,bb,m1,m2,m3,m4,m5⟩ nb) W0,y.w.cell? ⟨W.heap.size,1,none⟩=some (.int .i64 0):=WK.cell (bA.cell 1) (hns _ _ (bA.cell 1))
 have f1:∀y:WK (InM ⟨bc,bb,m1,m2,m3,m4,m5⟩ nb) W0,y.w.frozen? ⟨W.heap.size,1,none⟩=false:=WK.frozen (bA.cell 1) (bA.frozen 1) (hns _ _ (bA.cell 1))
 have a2:∀y:WK (InM ⟨bc,bb,m1,m2,m3,m4,m5⟩ nb) W0,y.w.cell? ⟨W.heap.size,2,none⟩=some (.int .i64 0):=WK.cell (bA.cell 2) (hns _ _ (bA.cell 2))
 have f2:∀y:WK (InM ⟨bc,bb,m1,m2,m3,m4,m5⟩ nb) W0,y.w.frozen? ⟨W.heap.size,2,none⟩=false:=WK.frozen (bA.cell 2) (bA.frozen 2) (hns _ _ (bA.cell 2))
 have t0:∀y:WK (InM ⟨bc,bb,m1,m2,m3,m4,m5⟩ nb) W0,y.w.cell? ⟨bc,0,none⟩=some (.slice o0 l0.length c0):=WK.cell (hC.c 0 (.slice o0 l0.length c0) rfl) (hns _ _ (hC.c 0 (.slice o0 l0.length c0) rfl))
 have m0x:l0.length≤9223372036854775807:=hT.m0
 have HL0:=Lib.hid hT.scripts
 have t2:∀y:WK (InM ⟨bc,bb,m1,m2,m3,m4,m5⟩ nb) W0,y.w.cell? ⟨bc,2,none⟩=some (.slice o2 l2.length c2):=WK.cell (hC.c 2 (.slice o2 l2.length c2) rfl) (hns _ _ (hC.c 2 (.slice o2 l2.length c2) rfl))
 have m2x:l2.length≤9223372036854775807:=hT.m2
 have HL2:=Lib.hid hT.marks
 have t3:∀y:WK (InM ⟨bc,bb,m1,m2,m3,m4,m5⟩ nb) W0,y.w.cell? ⟨bc,3,none⟩=some (.slice o3 l3.length c3):=WK.cell (hC.c 3 (.slice o3 l3.length c3) rfl) (hns _ _ (hC.c 3 (.slice o3 l3.length c3) rfl))
 have m3x:l3.length≤9223372036854775807:=hT.m3
 have HL3:=Lib.hid hT.pairs
 have t4:∀y:WK (InM ⟨bc,bb,m1,m2,m3,m4,m5⟩ nb) W0,y.w.cell? ⟨bc,4,none⟩=some (.slice o4 l4.length c4):=WK.cell (hC.c 4 (.slice o4 l4.length c4) rfl) (hns _ _ (hC.c 4 (.slice o4 l4.length c4) rfl))
 have m4x:l4.length≤9223372036854775807:=hT.m4
 have HL4:=Lib.hid hT.folds
 have t5:∀y:WK (InM ⟨bc,bb,m1,m2,m3,m4,m5⟩ nb) W0,y.w.cell? ⟨bc,5,none⟩=some (.slice o5 l5.length c5):=WK.cell (hC.c 5 (.slice o5 l5.length c5) rfl) (hns _ _ (hC.c 5 (.slice o5 l5.length c5) rfl))
 have m5x:l5.length≤9223372036854775807:=hT.m5
 have HL5:=Lib.hid hT.looks
 have t8:∀y:WK (InM ⟨bc,bb,m1,m2,m3,m4,m5⟩ nb) W0,y.w.cell? ⟨bc,8,none⟩=some (.pointer (some ⟨bb,0,none⟩)):=WK.cell hC.p (hns _ _ hC.p)
 have q1:∀y:WK (InM ⟨bc,bb,m1,m2,m3,m4,m5⟩ nb) W0,y.w.cell? ⟨bb,8,none⟩=some (.map (some m1)):=WK.cell hC.q1 (hns _ _ hC.q1)
 have q2:∀y:WK (InM ⟨bc,bb,m1,m2,m3,m4,m5⟩ nb) W0,y.w.cell? ⟨bb,9,none⟩=some (.map (some m2)):=WK.cell hC.q2 (hns _ _ hC.q2)
 have q3:∀y:WK (InM ⟨bc,bb,m1,m2,m3,m4,m5⟩ nb) W0,y.w.cell? ⟨bb,10,none⟩=some (.map (some m3)):=WK.cell hC.q3 (hns _ _ hC.q3)
 have q4:∀y:WK (InM ⟨bc,bb,m1,m2,m3,m4,m5⟩ nb) W0,y.w.cell? ⟨bb,11,none⟩=some (.map (some m4)):=WK.cell hC.q4 (hns _ _ hC.q4)
 have q5:∀y:WK (InM ⟨bc,bb,m1,m2,m3,m4,m5⟩ nb) W0,y.w.cell? ⟨bb,12,none⟩=some (.map (some m5)):=WK.cell hC.q5 (hns _ _ hC.q5)
 have HNm:=Lib.hid hfit.names
 have HK:=Lib.hid hk
 have HMr:=Lib.hid hmr
 have HPr:=Lib.hid hpr
 have HFr:=Lib.hid hfr
 have HLr:=Lib.hid hlr
 have HWr:Hid (∀(a b c:Int) (U:World),Calls Tryz.prog 99 #[.int .i64 a,.int .i64 b,.int .i64 c] U fun e w'=>e=.returned (.agg #[.int .i64 a,.int .i64 b,.int .i64 c])∧Below U.heap.size U w'):=Lib.hid (fun a b c U=>twrong_any a b c U)
 clear hC hT hB hBa h bA hW0 hnb hm0 hSt hns hlt5 h0 hfit hk hmr hpr hfr hlr
 obtain⟨R,hR⟩:∃R,twiceW ⟨l0,l1,l2,l3,l4,l5,l6,l7⟩=R:=⟨_,rfl⟩
 rw[hR]
 unfold twiceW at hR
 try dsimp only at hR
 have HF:=Lib.hid hR
 clear hR
 obtain⟨fn,hfn,Hres⟩:∃fn,Tryz.f68=fn∧Hid (fn.results=#[.cell 2 100]):=⟨_,rfl,Lib.hid Tryz.results68⟩
 go_enter Tryz.func68,Tryz.ntmps68
 rw[hfn]
 clear hfn
 go_upto_region 2 with fail
 clear hmk
 obtain⟨y,hy⟩:∃y:WK (InM ⟨bc,bb,m1,m2,m3,m4,m5⟩ nb) W0,y.w=W0:=⟨WK.of _ W0,rfl⟩
 conv=>arg 5;rw[←hy]
 have HStY:Hid (MapsSt y.w ⟨bc,bb,m1,m2,m3,m4,m5⟩ nb [] [] [] [] [] []):=Lib.hid (by rw[hy];exact HSt.out)
 clear hy
 go_wp2_with fail
 go_loopw [28] (fun v28 wr=>∃(i:Nat) (y:WK (InM ⟨bc,bb,m1,m2,m3,m4,m5⟩ nb) W0),v28=.int .i64 i∧i≤l0.length∧Hid (scan (twM eqS 1 l0) (l0.drop i) i (scan (twM eqM 3 l2) l2 0 (scan (twM eqP 4 l3) l3 0 (scan (twF 5 l4) l4 0 (scan (twF 6 l5) l5 0 (0,0,0)))))=R)∧Hid (MapsSt y.w ⟨bc,bb,m1,m2,m3,m4,m5⟩ nb ((l0.take i).map srow) ([]) ([]) ([]) ([]) ([]))∧wr=y.w) (fun v28 _=>l0.length - (intOf v28).toNat)
 case atStart=>exact⟨0,y,rfl,Nat.zero_le _,HF,HStY,rfl⟩
 case round=>
  clear HF HStY
  obtain⟨i,y,rfl,hi,HF,HStY,rfl⟩:=hrel
  have i0:(0:Int)≤(i:Int):=Int.natCast_nonneg _
  by_cases hlt:i<l0.length
  ·have i1:(i:Int)<(l0.length:Int):=by omega
   obtain⟨g,off,so,sc,ho,hg,c0,c1,cs,cz,cy⟩:=HL0.out i hlt
   subst ho
   have HF1:=Lib.hid (scan_step hlt HF.out)
   have hxm:=List.getElem_mem hlt
   have HTk:=Lib.hid (take_next hlt)
   obtain⟨A0,A1,A2,A3,A4,A5,HAs,HStY⟩:∃A0 A1 A2 A3 A4 A5,Hid (A0=(l0.take i).map srow∧A1=[]∧A2=[]∧A3=[]∧A4=[]∧A5=[])∧Hid (MapsSt y.w ⟨bc,bb,m1,m2,m3,m4,m5⟩ nb A0 A1 A2 A3 A4 A5):=⟨_,_,_,_,_,_,Lib.hid ⟨rfl,rfl,rfl,rfl,rfl,rfl⟩,HStY⟩
   generalize l0[i]=x at *
   have e0:=fun y:WK (InM ⟨bc,bb,m1,m2,m3,m4,m5⟩ nb) W0=>WK.cell c0 (HNS.out _ _ c0) y
   have e1:=fun y:WK (InM ⟨bc,bb,m1,m2,m3,m4,m5⟩ nb) W0=>WK.cell c1 (HNS.out _ _ c1) y
   clear HF c0 c1
   obtain⟨hxn,hxl⟩:=HNm.out x hxm
   obtain⟨B,hBq⟩:∃B,(l0.take i).any (eqS x)=B:=⟨_,rfl⟩
   clear cs cz cy hxm
   go_upto_region 5 with fail
   have bX:=Blk.new' y.w #[.string x.1,.slice so x.2.length sc] 128
   have HV1:Hid (Keep (InM ⟨bc,bb,m1,m2,m3,m4,m5⟩ nb) W0 (y.w.alloc (.cells #[.string x.1,.slice so x.2.length sc] 128))):=Lib.hid (y.h.alloc _)
   have HVy:Hid (Below y.w.heap.size y.w (y.w.alloc (.cells #[.string x.1,.slice so x.2.length sc] 128))):=Lib.hid ((Below.refl _ _).alloc (Nat.le_refl _) _)
   obtain⟨V,hV⟩:∃V,y.w.alloc (.cells #[.string x.1,.slice so x.2.length sc] 128)=V:=⟨_,rfl⟩
   rw[hV] at bX HV1 HVy ⊢
   have HVk:=Lib.hid HVy.out
   obtain⟨bx,hbx⟩:∃b,y.w.heap.size=b:=⟨_,rfl⟩
   rw[hbx] at bX ⊢
   have HStV:=Lib.hid (HStY.out.below HVy.out)
   clear hV hbx
   have x0:∀z:WC V,z.w.cell? ⟨bx,0,none⟩=some (.string x.1):=WC.cell (bX.cell 0)
   have x1:∀z:WC V,z.w.cell? ⟨bx,1,none⟩=some (.slice so x.2.length sc):=WC.cell (bX.cell 1)
   have HUp:Hid (∀z:WC V,Keep (InM ⟨bc,bb,m1,m2,m3,m4,m5⟩ nb) W0 z.w):=Lib.hid (fun z=>HV1.out.below_next z.h)
   have HStz:Hid (∀z:WC V,MapsSt z.w ⟨bc,bb,m1,m2,m3,m4,m5⟩ nb A0 A1 A2 A3 A4 A5):=Lib.hid (fun z=>HStV.out.below z.h)
   have a0z:∀z:WC V,z.w.cell? ⟨W.heap.size,0,none⟩=some (.int .i64 0):=fun z=>a0 ⟨z.w,HUp.out z⟩
   have a1z:∀z:WC V,z.w.cell? ⟨W.heap.size,1,none⟩=some (.int .i64 0):=fun z=>a1 ⟨z.w,HUp.out z⟩
   have a2z:∀z:WC V,z.w.cell? ⟨W.heap.size,2,none⟩=some (.int .i64 0):=fun z=>a2 ⟨z.w,HUp.out z⟩
   have f0z:∀z:WC V,z.w.frozen? ⟨W.heap.size,0,none⟩=false:=fun z=>f0 ⟨z.w,HUp.out z⟩
   have f1z:∀z:WC V,z.w.frozen? ⟨W.heap.size,1,none⟩=false:=fun z=>f1 ⟨z.w,HUp.out z⟩
   have f2z:∀z:WC V,z.w.frozen? ⟨W.heap.size,2,none⟩=false:=fun z=>f2 ⟨z.w,HUp.out z⟩
   clear bX HV1 HVy HStV
   obtain⟨z,hz⟩:∃z:WC V,z.w=V:=⟨WC.of V,rfl⟩
   conv=>arg 5;rw[←hz]
   clear hz
   have kn:∀z:WC V,(Instr.lookup 170 (.map (some nb)) (.string x.1) false).run Tryz.prog z.w=.ok (.bool B) z.w:=fun z=>by have h:=(HStz.out z).m0;rw[HAs.out.1] at h;rw[←hBq];exact look_named h (Nat.le_trans hxn (by decide))
   cases B with
   | true=>
    have hs:twM eqS 1 l0 x i=some (14,1,(i:Int)):=by unfold twM;rw[hBq];rfl
    have HR:=Lib.hid ((scan_hit hs).symm.trans HF1.out)
    clear HF1 hs
    clear hBq
    have KW:Hid (∀z:WC V,Calls Tryz.prog 99 #[.int .i64 14,.int .i64 1,.int .i64 i] z.w fun e w'=>e=.returned (.agg #[.int .i64 14,.int .i64 1,.int .i64 i])∧∃u:WC V,w'=u.w):=Lib.hid (fun z=>WC.call (HWr.out 14 1 i z.w))
    go_wp2_with fail
    (with_reducible refine Calls.mono (KW.out z) ?_)
    rintro e w' ⟨rfl,zr,rfl⟩
    clear KW
    go_wp2_with fail
    have b3:=(((HA.out.keep (HUp.out zr) (HNS.out _ _ (HA.out.cell 0))).set 0 (.int .i64 14)).set 1 (.int .i64 1)).set 2 (.int .i64 i)
    have r0:=b3.cell 0
    have r1:=b3.cell 1
    have r2:=b3.cell 2
    refine bodyPost_ret (v:=.agg #[.int .i64 14,.int .i64 1,.int .i64 i]) (res_wrong Hres.out (by rfl) r0 r1 r2) rfl ?_
    exact⟨by rw[←HR.out];rfl,keep_set3 (keep_out (HBK.out.trans (HUp.out zr)) (by have:=HNb.out;omega)) (Nat.le_refl _),fun hh=>absurd hh (by rw[←HR.out];show ¬ ((14:Int)=0);decide)⟩
   | false=>
    have hs:twM eqS 1 l0 x i=none:=by unfold twM;rw[hBq];rfl
    have HF2:=Lib.hid ((scan_miss hs).symm.trans HF1.out)
    clear HF1 hs
    have hno:∀p∈A0,p.1≠.string x.1:=by rw[HAs.out.1];exact no_name hBq
    obtain⟨o,hrun,hMi⟩:=(HStz.out z).m0.store keyed_text Tryz.underlying170 (x:=.string x.1) (key_text (Nat.le_trans hxn (by decide))) hno (.bool true)
    have HMi:=Lib.hid hMi
    clear hMi hno hBq
    go_wp2_with fail
    exact⟨⟨i+1,⟨World.put z.w nb o,(HUp.out z).put (fun _=>Or.inr (Or.inr (Or.inr (Or.inr (Or.inr rfl))))) o⟩,by go_num,by omega,HF2,Lib.hid (by have h:=(HStz.out z).put0 HD.out HMi.out;obtain⟨e0,e1,e2,e3,e4,e5⟩:=HAs.out;rw[HTk.out,List.map_append];subst e0 e1 e2 e3 e4 e5;exact h),by first | rfl | trivial⟩,by simp[intOf];omega⟩
  ·obtain rfl:i=l0.length:=by omega
   have HF0:=Lib.hid (scan_end HF.out)
   clear hi hlt i0 HF
   have HF:=Lib.hid HF0.out
   clear HF0
   replace HStY:=Lib.hid (by have h:=HStY.out;simp only[List.take_length] at h;exact h)
   go_wp2_with fail
   go_loopw [49] (fun v49 wr=>∃(i:Nat) (y:WK (InM ⟨bc,bb,m1,m2,m3,m4,m5⟩ nb) W0),v49=.int .i64 i∧i≤l2.length∧Hid (scan (twM eqM 3 l2) (l2.drop i) i (scan (twM eqP 4 l3) l3 0 (scan (twF 5 l4) l4 0 (scan (twF 6 l5) l5 0 (0,0,0))))=R)∧Hid (MapsSt y.w ⟨bc,bb,m1,m2,m3,m4,m5⟩ nb (l0.map srow) ((l2.take i).map mrow) ([]) ([]) ([]) ([]))∧wr=y.w) (fun v49 _=>l2.length - (intOf v49).toNat)
   case atStart=>exact⟨0,y,rfl,Nat.zero_le _,HF,HStY,rfl⟩
   case round=>
    clear HF HStY
    obtain⟨i,y,rfl,hi,HF,HStY,rfl⟩:=hrel
    have i0:(0:Int)≤(i:Int):=Int.natCast_nonneg _
    by_cases hlt:i<l2.length
    ·have i1:(i:Int)<(l2.length:Int):=by omega
     obtain⟨g,off,ho,hg,c0,c1⟩:=HL2.out i hlt
     subst ho
     have HF1:=Lib.hid (scan_step hlt HF.out)
     have hxm:=List.getElem_mem hlt
     have HTk:=Lib.hid (take_next hlt)
     obtain⟨A0,A1,A2,A3,A4,A5,HAs,HStY⟩:∃A0 A1 A2 A3 A4 A5,Hid (A0=l0.map srow∧A1=(l2.take i).map mrow∧A2=[]∧A3=[]∧A4=[]∧A5=[])∧Hid (MapsSt y.w ⟨bc,bb,m1,m2,m3,m4,m5⟩ nb A0 A1 A2 A3 A4 A5):=⟨_,_,_,_,_,_,Lib.hid ⟨rfl,rfl,rfl,rfl,rfl,rfl⟩,HStY⟩
     generalize l2[i]=x at *
     have e0:=fun y:WK (InM ⟨bc,bb,m1,m2,m3,m4,m5⟩ nb) W0=>WK.cell c0 (HNS.out _ _ c0) y
     have e1:=fun y:WK (InM ⟨bc,bb,m1,m2,m3,m4,m5⟩ nb) W0=>WK.cell c1 (HNS.out _ _ c1) y
     clear HF c0 c1
     have hxr:=HMr.out x hxm
     obtain⟨B,hBq⟩:∃B,(l2.take i).any (eqM x)=B:=⟨_,rfl⟩
     clear hxm
     obtain⟨c,hc,hL⟩:=look_class' (l2.take i) (i32_of hxr) (fun m hm=>HK.out m (List.mem_of_mem_take hm))
     rw[eqM_key,hBq] at hc
     go_upto_region 12 with fail
     have bX:=Blk.new' y.w #[.int .i32 x.1,.int .i64 x.2] 139
     have HV1:Hid (Keep (InM ⟨bc,bb,m1,m2,m3,m4,m5⟩ nb) W0 (y.w.alloc (.cells #[.int .i32 x.1,.int .i64 x.2] 139))):=Lib.hid (y.h.alloc _)
     have HVy:Hid (Below y.w.heap.size y.w (y.w.alloc (.cells #[.int .i32 x.1,.int .i64 x.2] 139))):=Lib.hid ((Below.refl _ _).alloc (Nat.le_refl _) _)
     obtain⟨V,hV⟩:∃V,y.w.alloc (.cells #[.int .i32 x.1,.int .i64 x.2] 139)=V:=⟨_,rfl⟩
     rw[hV] at bX HV1 HVy ⊢
     have HVk:=Lib.hid HVy.out
     obtain⟨bx,hbx⟩:∃b,y.w.heap.size=b:=⟨_,rfl⟩
     rw[hbx] at bX ⊢
     have HStV:=Lib.hid (HStY.out.below HVy.out)
     clear hV hbx
     have x0:∀z:WC V,z.w.cell? ⟨bx,0,none⟩=some (.int .i32 x.1):=WC.cell (bX.cell 0)
     have x1:∀z:WC V,z.w.cell? ⟨bx,1,none⟩=some (.int .i64 x.2):=WC.cell (bX.cell 1)
     have HUp:Hid (∀z:WC V,Keep (InM ⟨bc,bb,m1,m2,m3,m4,m5⟩ nb) W0 z.w):=Lib.hid (fun z=>HV1.out.below_next z.h)
     have HStz:Hid (∀z:WC V,MapsSt z.w ⟨bc,bb,m1,m2,m3,m4,m5⟩ nb A0 A1 A2 A3 A4 A5):=Lib.hid (fun z=>HStV.out.below z.h)
     have a0z:∀z:WC V,z.w.cell? ⟨W.heap.size,0,none⟩=some (.int .i64 0):=fun z=>a0 ⟨z.w,HUp.out z⟩
     have a1z:∀z:WC V,z.w.cell? ⟨W.heap.size,1,none⟩=some (.int .i64 0):=fun z=>a1 ⟨z.w,HUp.out z⟩
     have a2z:∀z:WC V,z.w.cell? ⟨W.heap.size,2,none⟩=some (.int .i64 0):=fun z=>a2 ⟨z.w,HUp.out z⟩
     have f0z:∀z:WC V,z.w.frozen? ⟨W.heap.size,0,none⟩=false:=fun z=>f0 ⟨z.w,HUp.out z⟩
     have f1z:∀z:WC V,z.w.frozen? ⟨W.heap.size,1,none⟩=false:=fun z=>f1 ⟨z.w,HUp.out z⟩
     have f2z:∀z:WC V,z.w.frozen? ⟨W.heap.size,2,none⟩=false:=fun z=>f2 ⟨z.w,HUp.out z⟩
     have t8z:∀z:WC V,z.w.cell? ⟨bc,8,none⟩=some (.pointer (some ⟨bb,0,none⟩)):=fun z=>t8 ⟨z.w,HUp.out z⟩
     have q1z:∀z:WC V,z.w.cell? ⟨bb,8,none⟩=some (.map (some m1)):=fun z=>q1 ⟨z.w,HUp.out z⟩
     clear bX HV1 HVy HStV
     obtain⟨z,hz⟩:∃z:WC V,z.w=V:=⟨WC.of V,rfl⟩
     conv=>arg 5;rw[←hz]
     clear hz
     have kc:∀z:WC V,(Instr.lookup 121 (.map (some m1)) (.int .i32 x.1) false).run Tryz.prog z.w=.ok (.int .i64 c) z.w:=fun z=>hL z.w m1 (by have h:=(HStz.out z).m1;rw[HAs.out.2.1] at h;exact h)
     clear hL
     cases B with
     | true=>
      have hs:twM eqM 3 l2 x i=some (14,3,(i:Int)):=by unfold twM;rw[hBq];rfl
      have HR:=Lib.hid ((scan_hit hs).symm.trans HF1.out)
      clear HF1 hs
      clear hBq hxr
      refine wp_region_wc (W0:=V) (by kernel_rfl) (by kernel_rfl) z.h ?_
      repeat (first | go_big_quiet_step ((fail)) | quiet_step ((fail)))
      refine wpQuiet_nil ?_
      rintro _ ⟨z1,rfl⟩
      have KW:Hid (∀z:WC V,Calls Tryz.prog 99 #[.int .i64 14,.int .i64 3,.int .i64 i] z.w fun e w'=>e=.returned (.agg #[.int .i64 14,.int .i64 3,.int .i64 i])∧∃u:WC V,w'=u.w):=Lib.hid (fun z=>WC.call (HWr.out 14 3 i z.w))
      go_wp2_with fail
      (with_reducible refine Calls.mono (KW.out z1) ?_)
      rintro e w' ⟨rfl,zr,rfl⟩
      clear KW
      go_wp2_with fail
      have b3:=(((HA.out.keep (HUp.out zr) (HNS.out _ _ (HA.out.cell 0))).set 0 (.int .i64 14)).set 1 (.int .i64 3)).set 2 (.int .i64 i)
      have r0:=b3.cell 0
      have r1:=b3.cell 1
      have r2:=b3.cell 2
      refine bodyPost_ret (v:=.agg #[.int .i64 14,.int .i64 3,.int .i64 i]) (res_wrong Hres.out (by rfl) r0 r1 r2) rfl ?_
      exact⟨by rw[←HR.out];rfl,keep_set3 (keep_out (HBK.out.trans (HUp.out zr)) (by have:=HNb.out;omega)) (Nat.le_refl _),fun hh=>absurd hh (by rw[←HR.out];show ¬ ((14:Int)=0);decide)⟩
     | false=>
      have hs:twM eqM 3 l2 x i=none:=by unfold twM;rw[hBq];rfl
      have HF2:=Lib.hid ((scan_miss hs).symm.trans HF1.out)
      clear HF1 hs
      have hno:∀p∈A1,p.1≠.int .i32 x.1:=by rw[HAs.out.2.1];exact no_mark (by rw[eqM_key];exact hBq)
      have HNo:=Lib.hid hno
      have HXr:=Lib.hid hxr
      clear hno hBq hxr
      refine wp_region_wc (W0:=V) (by kernel_rfl) (by kernel_rfl) z.h ?_
      repeat (first | go_big_quiet_step ((fail)) | quiet_step ((fail)))
      refine wpQuiet_nil ?_
      rintro _ ⟨z1,rfl⟩
      clear kc
      go_upto_region 14 with fail
      obtain⟨o,hrun,hMi⟩:=(HStz.out z1).drew.m1.store keyed_rune Tryz.underlying121 (x:=.int .i32 x.1) (key_rune (i32_of HXr.out)) HNo.out (.int .i64 x.2)
      have HMi:=Lib.hid hMi
      clear hMi
      go_big_region
      all_goals (refine ?hJ)
      go_wp2_with fail
      exact⟨⟨i+1,⟨World.put z1.w.drew m1 o,(HUp.out z1).drew.put (fun _=>Or.inl rfl) o⟩,by go_num,by omega,HF2,Lib.hid (by have h:=(HStz.out z1).drew.put1 HD.out HMi.out;obtain⟨e0,e1,e2,e3,e4,e5⟩:=HAs.out;rw[HTk.out,List.map_append];subst e0 e1 e2 e3 e4 e5;exact h),by first | rfl | trivial⟩,by simp[intOf];omega⟩
    ·obtain rfl:i=l2.length:=by omega
     have HF0:=Lib.hid (scan_end HF.out)
     clear hi hlt i0 HF
     have HF:=Lib.hid HF0.out
     clear HF0
     replace HStY:=Lib.hid (by have h:=HStY.out;simp only[List.take_length] at h;exact h)
     go_wp2_with fail
     go_loopw [85] (fun v85 wr=>∃(i:Nat) (y:WK (InM ⟨bc,bb,m1,m2,m3,m4,m5⟩ nb) W0),v85=.int .i64 i∧i≤l3.length∧Hid (scan (twM eqP 4 l3) (l3.drop i) i (scan (twF 5 l4) l4 0 (scan (twF 6 l5) l5 0 (0,0,0)))=R)∧Hid (MapsSt y.w ⟨bc,bb,m1,m2,m3,m4,m5⟩ nb (l0.map srow) (l2.map mrow) ((l3.take i).map prow) ((l3.take i).map jrow) ([]) ([]))∧wr=y.w) (fun v85 _=>l3.length - (intOf v85).toNat)
     case atStart=>exact⟨0,y,rfl,Nat.zero_le _,HF,HStY,rfl⟩
     case round=>
      clear HF HStY
      obtain⟨i,y,rfl,hi,HF,HStY,rfl⟩:=hrel
      have i0:(0:Int)≤(i:Int):=Int.natCast_nonneg _
      by_cases hlt:i<l3.length
      ·have i1:(i:Int)<(l3.length:Int):=by omega
       obtain⟨g,off,ho,hg,c0,c1,c2⟩:=HL3.out i hlt
       subst ho
       have HF1:=Lib.hid (scan_step hlt HF.out)
       have hxm:=List.getElem_mem hlt
       have HTk:=Lib.hid (take_next hlt)
       obtain⟨A0,A1,A2,A3,A4,A5,HAs,HStY⟩:∃A0 A1 A2 A3 A4 A5,Hid (A0=l0.map srow∧A1=l2.map mrow∧A2=(l3.take i).map prow∧A3=(l3.take i).map jrow∧A4=[]∧A5=[])∧Hid (MapsSt y.w ⟨bc,bb,m1,m2,m3,m4,m5⟩ nb A0 A1 A2 A3 A4 A5):=⟨_,_,_,_,_,_,Lib.hid ⟨rfl,rfl,rfl,rfl,rfl,rfl⟩,HStY⟩
       generalize l3[i]=x at *
       have e0:=fun y:WK (InM ⟨bc,bb,m1,m2,m3,m4,m5⟩ nb) W0=>WK.cell c0 (HNS.out _ _ c0) y
       have e1:=fun y:WK (InM ⟨bc,bb,m1,m2,m3,m4,m5⟩ nb) W0=>WK.cell c1 (HNS.out _ _ c1) y
       have e2:=fun y:WK (InM ⟨bc,bb,m1,m2,m3,m4,m5⟩ nb) W0=>WK.cell c2 (HNS.out _ _ c2) y
       clear HF c0 c1 c2
       obtain⟨hp1,hp2,hp3⟩:=HPr.out x hxm
       obtain⟨B1,hB1⟩:∃B,(l3.take i).any (pkey x.1)=B:=⟨_,rfl⟩
       obtain⟨B2,hB2⟩:∃B,(l3.take i).any (jkey x.2.1 x.2.2)=B:=⟨_,rfl⟩
       have hBq:=eqP_key x (l3.take i)
       rw[hB1,hB2] at hBq
       clear hxm
       obtain⟨p1,p2,hL1⟩:=look_pair' (l3.take i) (i32_of hp1)
       rw[hB1] at hL1
       obtain⟨p3,hL2⟩:=look_join' (l3.take i) (i32_of hp2) (i32_of hp3)
       rw[hB2] at hL2
       go_upto_region 19 with fail
       have bX:=Blk.new' y.w #[.int .i32 x.1,.int .i32 x.2.1,.int .i32 x.2.2] 141
       have HV1:Hid (Keep (InM ⟨bc,bb,m1,m2,m3,m4,m5⟩ nb) W0 (y.w.alloc (.cells #[.int .i32 x.1,.int .i32 x.2.1,.int .i32 x.2.2] 141))):=Lib.hid (y.h.alloc _)
       have HVy:Hid (Below y.w.heap.size y.w (y.w.alloc (.cells #[.int .i32 x.1,.int .i32 x.2.1,.int .i32 x.2.2] 141))):=Lib.hid ((Below.refl _ _).alloc (Nat.le_refl _) _)
       obtain⟨V,hV⟩:∃V,y.w.alloc (.cells #[.int .i32 x.1,.int .i32 x.2.1,.int .i32 x.2.2] 141)=V:=⟨_,rfl⟩
       rw[hV] at bX HV1 HVy ⊢
       have HVk:=Lib.hid HVy.out
       obtain⟨bx,hbx⟩:∃b,y.w.heap.size=b:=⟨_,rfl⟩
       rw[hbx] at bX ⊢
       have HStV:=Lib.hid (HStY.out.below HVy.out)
       clear hV hbx
       have x0:∀z:WC V,z.w.cell? ⟨bx,0,none⟩=some (.int .i32 x.1):=WC.cell (bX.cell 0)
       have x1:∀z:WC V,z.w.cell? ⟨bx,1,none⟩=some (.int .i32 x.2.1):=WC.cell (bX.cell 1)
       have x2:∀z:WC V,z.w.cell? ⟨bx,2,none⟩=some (.int .i32 x.2.2):=WC.cell (bX.cell 2)
       have HUp:Hid (∀z:WC V,Keep (InM ⟨bc,bb,m1,m2,m3,m4,m5⟩ nb) W0 z.w):=Lib.hid (fun z=>HV1.out.below_next z.h)
       have HStz:Hid (∀z:WC V,MapsSt z.w ⟨bc,bb,m1,m2,m3,m4,m5⟩ nb A0 A1 A2 A3 A4 A5):=Lib.hid (fun z=>HStV.out.below z.h)
       have a0z:∀z:WC V,z.w.cell? ⟨W.heap.size,0,none⟩=some (.int .i64 0):=fun z=>a0 ⟨z.w,HUp.out z⟩
       have a1z:∀z:WC V,z.w.cell? ⟨W.heap.size,1,none⟩=some (.int .i64 0):=fun z=>a1 ⟨z.w,HUp.out z⟩
       have a2z:∀z:WC V,z.w.cell? ⟨W.heap.size,2,none⟩=some (.int .i64 0):=fun z=>a2 ⟨z.w,HUp.out z⟩
       have f0z:∀z:WC V,z.w.frozen? ⟨W.heap.size,0,none⟩=false:=fun z=>f0 ⟨z.w,HUp.out z⟩
       have f1z:∀z:WC V,z.w.frozen? ⟨W.heap.size,1,none⟩=false:=fun z=>f1 ⟨z.w,HUp.out z⟩
       have f2z:∀z:WC V,z.w.frozen? ⟨W.heap.size,2,none⟩=false:=fun z=>f2 ⟨z.w,HUp.out z⟩
       have t8z:∀z:WC V,z.w.cell? ⟨bc,8,none⟩=some (.pointer (some ⟨bb,0,none⟩)):=fun z=>t8 ⟨z.w,HUp.out z⟩
       have q2z:∀z:WC V,z.w.cell? ⟨bb,9,none⟩=some (.map (some m2)):=fun z=>q2 ⟨z.w,HUp.out z⟩
       have q3z:∀z:WC V,z.w.cell? ⟨bb,10,none⟩=some (.map (some m3)):=fun z=>q3 ⟨z.w,HUp.out z⟩
       clear bX HV1 HVy HStV
       obtain⟨z,hz⟩:∃z:WC V,z.w=V:=⟨WC.of V,rfl⟩
       conv=>arg 5;rw[←hz]
       clear hz
       go_upto_region 20 with fail
       have bX2:=Blk.new' z.w #[.int .i32 x.2.1,.int .i32 x.2.2] 171
       have hE2:Below V.heap.size V (z.w.alloc (.cells #[.int .i32 x.2.1,.int .i32 x.2.2] 171)):=z.h.alloc z.h.size _
       obtain⟨V2,hV2⟩:∃V2,z.w.alloc (.cells #[.int .i32 x.2.1,.int .i32 x.2.2] 171)=V2:=⟨_,rfl⟩
       rw[hV2] at bX2 hE2 ⊢
       obtain⟨by9,hb2⟩:∃b,z.w.heap.size=b:=⟨_,rfl⟩
       rw[hb2] at bX2 ⊢
       clear hV2 hb2
       have y0:∀z:WC V2,z.w.cell? ⟨by9,0,none⟩=some (.int .i32 x.2.1):=WC.cell (bX2.cell 0)
       have y1:∀z:WC V2,z.w.cell? ⟨by9,1,none⟩=some (.int .i32 x.2.2):=WC.cell (bX2.cell 1)
       have HUp2:Hid (∀z:WC V2,Below V.heap.size V z.w):=Lib.hid (fun z=>hE2.trans (z.h.mono hE2.size))
       replace a0z:∀z:WC V2,z.w.cell? ⟨W.heap.size,0,none⟩=some (.int .i64 0):=fun z=>a0z ⟨z.w,HUp2.out z⟩
       replace a1z:∀z:WC V2,z.w.cell? ⟨W.heap.size,1,none⟩=some (.int .i64 0):=fun z=>a1z ⟨z.w,HUp2.out z⟩
       replace a2z:∀z:WC V2,z.w.cell? ⟨W.heap.size,2,none⟩=some (.int .i64 0):=fun z=>a2z ⟨z.w,HUp2.out z⟩
       replace f0z:∀z:WC V2,z.w.frozen? ⟨W.heap.size,0,none⟩=false:=fun z=>f0z ⟨z.w,HUp2.out z⟩
       replace f1z:∀z:WC V2,z.w.frozen? ⟨W.heap.size,1,none⟩=false:=fun z=>f1z ⟨z.w,HUp2.out z⟩
       replace f2z:∀z:WC V2,z.w.frozen? ⟨W.heap.size,2,none⟩=false:=fun z=>f2z ⟨z.w,HUp2.out z⟩
       replace t8z:∀z:WC V2,z.w.cell? ⟨bc,8,none⟩=some (.pointer (some ⟨bb,0,none⟩)):=fun z=>t8z ⟨z.w,HUp2.out z⟩
       replace q2z:∀z:WC V2,z.w.cell? ⟨bb,9,none⟩=some (.map (some m2)):=fun z=>q2z ⟨z.w,HUp2.out z⟩
       replace q3z:∀z:WC V2,z.w.cell? ⟨bb,10,none⟩=some (.map (some m3)):=fun z=>q3z ⟨z.w,HUp2.out z⟩
       replace x0:∀z:WC V2,z.w.cell? ⟨bx,0,none⟩=some (.int .i32 x.1):=fun z=>x0 ⟨z.w,HUp2.out z⟩
       replace x1:∀z:WC V2,z.w.cell? ⟨bx,1,none⟩=some (.int .i32 x.2.1):=fun z=>x1 ⟨z.w,HUp2.out z⟩
       replace x2:∀z:WC V2,z.w.cell? ⟨bx,2,none⟩=some (.int .i32 x.2.2):=fun z=>x2 ⟨z.w,HUp2.out z⟩
       replace HUp:Hid (∀z:WC V2,Keep (InM ⟨bc,bb,m1,m2,m3,m4,m5⟩ nb) W0 z.w):=Lib.hid (fun z=>HUp.out ⟨z.w,HUp2.out z⟩)
       replace HStz:Hid (∀z:WC V2,MapsSt z.w ⟨bc,bb,m1,m2,m3,m4,m5⟩ nb A0 A1 A2 A3 A4 A5):=Lib.hid (fun z=>HStz.out ⟨z.w,HUp2.out z⟩)
       clear bX2 hE2 HUp2
       try clear z
       obtain⟨V,h9⟩:∃X,X=V2:=⟨_,rfl⟩
       subst h9
       obtain⟨z,hz⟩:∃z:WC V,z.w=V:=⟨WC.of V,rfl⟩
       conv=>arg 5;rw[←hz]
       clear hz
       have HL1:Hid (∀w',MapsSt w' ⟨bc,bb,m1,m2,m3,m4,m5⟩ nb A0 A1 A2 A3 A4 A5→(Instr.lookup 122 (.map (some m2)) (.int .i32 x.1) true).run Tryz.prog w'=.ok (.tuple #[.agg #[.int .i32 p1,.int .i32 p2],.bool B1]) w'):=Lib.hid (fun w' h=>hL1 w' m2 (by have h:=h.m2;rw[HAs.out.2.2.1] at h;exact h))
       clear hL1
       have kj:∀z:WC V,(Instr.lookup 123 (.map (some m3)) (.agg #[.int .i32 x.2.1,.int .i32 x.2.2]) true).run Tryz.prog z.w=.ok (.tuple #[.int .i32 p3,.bool B2]) z.w:=fun z=>hL2 z.w m3 (by have h:=(HStz.out z).m3;rw[HAs.out.2.2.2.1] at h;exact h)
       clear hL2
       have HS1:=Lib.hid (And.intro hB1 (And.intro hB2 (And.intro hBq (And.intro hp1 (And.intro hp2 hp3)))))
       clear hB1 hB2 hBq hp1 hp2 hp3
       have kp0:=HL1.out z.w.drew (HStz.out z).drew
       have kp1:=HL1.out (z.w.alloc (.cells #[.int .i32 0,.int .i32 0] 171)).drew ((HStz.out z).below ((Below.refl _ _).alloc (Nat.le_refl _) _)).drew
       have z9:Below V.heap.size V (z.w.alloc (.cells #[.int .i32 0,.int .i32 0] 171)):=z.h.alloc z.h.size _
       have yx0:(z.w.alloc (.cells #[.int .i32 0,.int .i32 0] 171)).cell? ⟨bx,0,none⟩=some (.int .i32 x.1):=x0 ⟨_,z9⟩
       have yt8:(z.w.alloc (.cells #[.int .i32 0,.int .i32 0] 171)).cell? ⟨bc,8,none⟩=some (.pointer (some ⟨bb,0,none⟩)):=t8z ⟨_,z9⟩
       have yq2:(z.w.alloc (.cells #[.int .i32 0,.int .i32 0] 171)).cell? ⟨bb,9,none⟩=some (.map (some m2)):=q2z ⟨_,z9⟩
       go_big_region
       all_goals (refine ?hJ2)
       clear kp0 kp1 yx0 yt8 yq2 z9
       obtain⟨z1,hz1⟩:∃z1:WC V,z1.w=(z.w.alloc (.cells #[.int .i32 p1,.int .i32 p2] 171)).drew:=⟨⟨_,(z.h.alloc z.h.size _).drew⟩,rfl⟩
       conv=>arg 5;rw[←hz1]
       clear hz1
       cases B1 with
       | true=>
        have hs:twM eqP 4 l3 x i=some (14,4,(i:Int)):=by unfold twM;rw[HS1.out.2.2.1];rfl
        have HR:=Lib.hid ((scan_hit hs).symm.trans HF1.out)
        clear HF1 hs
        have KW:Hid (∀z:WC V,Calls Tryz.prog 99 #[.int .i64 14,.int .i64 4,.int .i64 i] z.w fun e w'=>e=.returned (.agg #[.int .i64 14,.int .i64 4,.int .i64 i])∧∃u:WC V,w'=u.w):=Lib.hid (fun z=>WC.call (HWr.out 14 4 i z.w))
        go_wp2_with fail
        (with_reducible refine Calls.mono (KW.out z1) ?_)
        rintro e w' ⟨rfl,zr,rfl⟩
        clear KW
        go_wp2_with fail
        have b3:=(((HA.out.keep (HUp.out zr) (HNS.out _ _ (HA.out.cell 0))).set 0 (.int .i64 14)).set 1 (.int .i64 4)).set 2 (.int .i64 i)
        have r0:=b3.cell 0
        have r1:=b3.cell 1
        have r2:=b3.cell 2
        refine bodyPost_ret (v:=.agg #[.int .i64 14,.int .i64 4,.int .i64 i]) (res_wrong Hres.out (by rfl) r0 r1 r2) rfl ?_
        exact⟨by rw[←HR.out];rfl,keep_set3 (keep_out (HBK.out.trans (HUp.out zr)) (by have:=HNb.out;omega)) (Nat.le_refl _),fun hh=>absurd hh (by rw[←HR.out];show ¬ ((14:Int)=0);decide)⟩
       | false=>
        go_upto_region 23 with fail
        cases B2 with
        | true=>
         have hs:twM eqP 4 l3 x i=some (14,4,(i:Int)):=by unfold twM;rw[HS1.out.2.2.1];rfl
         have HR:=Lib.hid ((scan_hit hs).symm.trans HF1.out)
         clear HF1 hs
         refine wp_region_wc (W0:=V) (by kernel_rfl) (by kernel_rfl) z1.h ?_
         repeat (first | go_big_quiet_step ((fail)) | quiet_step ((fail)))
         refine wpQuiet_nil ?_
         rintro _ ⟨z2,rfl⟩
         have KW:Hid (∀z:WC V,Calls Tryz.prog 99 #[.int .i64 14,.int .i64 4,.int .i64 i] z.w fun e w'=>e=.returned (.agg #[.int .i64 14,.int .i64 4,.int .i64 i])∧∃u:WC V,w'=u.w):=Lib.hid (fun z=>WC.call (HWr.out 14 4 i z.w))
         go_wp2_with fail
         (with_reducible refine Calls.mono (KW.out z2) ?_)
         rintro e w' ⟨rfl,zr,rfl⟩
         clear KW
         go_wp2_with fail
         have b3:=(((HA.out.keep (HUp.out zr) (HNS.out _ _ (HA.out.cell 0))).set 0 (.int .i64 14)).set 1 (.int .i64 4)).set 2 (.int .i64 i)
         have r0:=b3.cell 0
         have r1:=b3.cell 1
         have r2:=b3.cell 2
         refine bodyPost_ret (v:=.agg #[.int .i64 14,.int .i64 4,.int .i64 i]) (res_wrong Hres.out (by rfl) r0 r1 r2) rfl ?_
         exact⟨by rw[←HR.out];rfl,keep_set3 (keep_out (HBK.out.trans (HUp.out zr)) (by have:=HNb.out;omega)) (Nat.le_refl _),fun hh=>absurd hh (by rw[←HR.out];show ¬ ((14:Int)=0);decide)⟩
        | false=>
         have hs:twM eqP 4 l3 x i=none:=by unfold twM;rw[HS1.out.2.2.1];rfl
         have HF2:=Lib.hid ((scan_miss hs).symm.trans HF1.out)
         clear HF1 hs
         refine wp_region_wc (W0:=V) (by kernel_rfl) (by kernel_rfl) z1.h ?_
         repeat (first | go_big_quiet_step ((fail)) | quiet_step ((fail)))
         refine wpQuiet_nil ?_
         rintro _ ⟨z2,rfl⟩
         go_upto_region 26 with fail
         clear kj
         obtain⟨s2,s3,ob1,ob2,ob3,ob4,r1,r2,r3,r4,hMi⟩:=(HStz.out z2).drew.pair HD.out (i32_of HS1.out.2.2.2.1) (i32_of HS1.out.2.2.2.2.1) (i32_of HS1.out.2.2.2.2.2) (by rw[HAs.out.2.2.1];exact no_whole HS1.out.1) (by rw[HAs.out.2.2.2.1];exact no_join HS1.out.2.1) (.agg #[.int .i32 x.2.1,.int .i32 x.2.2]) (.int .i32 x.1)
         have HMi:=Lib.hid hMi
         clear hMi
         dsimp only at r1 r2 r3 r4
         have HS2:Hid (∀w',Keep (InM ⟨bc,bb,m1,m2,m3,m4,m5⟩ nb) z2.w w'→w'.cell? ⟨bc,8,none⟩=some (.pointer (some ⟨bb,0,none⟩))∧w'.cell? ⟨bb,9,none⟩=some (.map (some m2))∧w'.cell? ⟨bb,10,none⟩=some (.map (some m3))∧w'.cell? ⟨bx,0,none⟩=some (.int .i32 x.1)∧w'.cell? ⟨by9,0,none⟩=some (.int .i32 x.2.1)∧w'.cell? ⟨by9,1,none⟩=some (.int .i32 x.2.2)):=Lib.hid (fun w' hk=>⟨(hk.cell (cell_lt (t8z z2)) ((HStz.out z2).apart (t8z z2))).trans (t8z z2),(hk.cell (cell_lt (q2z z2)) ((HStz.out z2).apart (q2z z2))).trans (q2z z2),(hk.cell (cell_lt (q3z z2)) ((HStz.out z2).apart (q3z z2))).trans (q3z z2),(hk.cell (cell_lt (x0 z2)) ((HStz.out z2).apart (x0 z2))).trans (x0 z2),(hk.cell (cell_lt (y0 z2)) ((HStz.out z2).apart (y0 z2))).trans (y0 z2),(hk.cell (cell_lt (y1 z2)) ((HStz.out z2).apart (y1 z2))).trans (y1 z2)⟩)
         have hy0:=(Keep.refl (InM ⟨bc,bb,m1,m2,m3,m4,m5⟩ nb) z2.w).drew
         go_region_held3 (fun w'=>w'.cell? ⟨bc,8,none⟩=some (.pointer (some ⟨bb,0,none⟩))∧w'.cell? ⟨bb,9,none⟩=some (.map (some m2))∧w'.cell? ⟨bb,10,none⟩=some (.map (some m3))∧w'.cell? ⟨bx,0,none⟩=some (.int .i32 x.1)∧w'.cell? ⟨by9,0,none⟩=some (.int .i32 x.2.1)∧w'.cell? ⟨by9,1,none⟩=some (.int .i32 x.2.2)) (first | exact HS2.out _ hy0 | exact HS2.out _ (hy0.put (fun _=>Or.inr (Or.inl rfl)) _) | exact HS2.out _ ((hy0.put (fun _=>Or.inr (Or.inl rfl)) _).put (fun _=>Or.inr (Or.inl rfl)) _) | exact HS2.out _ (((hy0.put (fun _=>Or.inr (Or.inl rfl)) _).put (fun _=>Or.inr (Or.inl rfl)) _).put (fun _=>Or.inr (Or.inr (Or.inl rfl))) _) | exact HS2.out _ ((((hy0.put (fun _=>Or.inr (Or.inl rfl)) _).put (fun _=>Or.inr (Or.inl rfl)) _).put (fun _=>Or.inr (Or.inr (Or.inl rfl))) _).put (fun _=>Or.inr (Or.inr (Or.inl rfl))) _)) (fail)
         all_goals (refine ?hJ3)
         clear HS2 hy0
         go_wp2_with fail
         exact⟨⟨i+1,⟨World.put (World.put (World.put (World.put z2.w.drew m2 ob1) m2 ob2) m3 ob3) m3 ob4,((((HUp.out z2).drew.put (fun _=>Or.inr (Or.inl rfl)) _).put (fun _=>Or.inr (Or.inl rfl)) _).put (fun _=>Or.inr (Or.inr (Or.inl rfl))) _).put (fun _=>Or.inr (Or.inr (Or.inl rfl))) _⟩,by go_num,by omega,HF2,Lib.hid (by have h:=HMi.out;obtain⟨e0,e1,e2,e3,e4,e5⟩:=HAs.out;rw[HTk.out,List.map_append,List.map_append];subst e0 e1 e2 e3 e4 e5;exact h),by first | rfl | trivial⟩,by simp[intOf];omega⟩
      ·obtain rfl:i=l3.length:=by omega
       have HF0:=Lib.hid (scan_end HF.out)
       clear hi hlt i0 HF
       have HF:=Lib.hid HF0.out
       clear HF0
       replace HStY:=Lib.hid (by have h:=HStY.out;simp only[List.take_length] at h;exact h)
       go_wp2_with fail
       have HS3:Hid (∀w',Keep (InM ⟨bc,bb,m1,m2,m3,m4,m5⟩ nb) W0 w'→w'.cell? ⟨bc,8,none⟩=some (.pointer (some ⟨bb,0,none⟩))∧w'.cell? ⟨bb,11,none⟩=some (.map (some m4))∧w'.cell? ⟨bb,12,none⟩=some (.map (some m5))):=Lib.hid (fun w' hk=>⟨t8 ⟨w',hk⟩,q4 ⟨w',hk⟩,q5 ⟨w',hk⟩⟩)
       have hy0:=y.h.drew
       go_region_held3 (fun w'=>w'.cell? ⟨bc,8,none⟩=some (.pointer (some ⟨bb,0,none⟩))∧w'.cell? ⟨bb,11,none⟩=some (.map (some m4))∧w'.cell? ⟨bb,12,none⟩=some (.map (some m5))) (first | (with_reducible exact HS3.out _ hy0) | (with_reducible exact HS3.out _ (y.h.alloc _).drew)) (fail)
       all_goals (refine ?hJ4)
       clear HS3
       have HBz:Hid (Below y.w.heap.size y.w (y.w.alloc (.cells #[.map (some m4),.map (some m5)] 124)).drew):=Lib.hid (((Below.refl _ _).alloc (Nat.le_refl _) _).drew)
       have HStN:=Lib.hid (HStY.out.below HBz.out)
       have hBk:Blk (y.w.alloc (.cells #[.map (some m4),.map (some m5)] 124)).drew y.w.heap.size [.map (some m4),.map (some m5)] 124:=(Blk.new' y.w #[.map (some m4),.map (some m5)] 124).drew
       obtain⟨b9,hb9⟩:∃b,y.w.heap.size=b:=⟨_,rfl⟩
       rw[hb9] at hBk ⊢
       obtain⟨y1,hy1⟩:∃z:WK (InM ⟨bc,bb,m1,m2,m3,m4,m5⟩ nb) W0,z.w=(y.w.alloc (.cells #[.map (some m4),.map (some m5)] 124)).drew:=⟨⟨_,(y.h.alloc _).drew⟩,rfl⟩
       rw[←hy1] at HStN hBk
       conv=>arg 5;rw[←hy1]
       clear hy1 HBz hb9 HStY
       have HBk:=Lib.hid hBk
       clear hBk
       go_wp2_with fail
       go_loopw [167] (fun v167 wr=>(∃y:WK (InM ⟨bc,bb,m1,m2,m3,m4,m5⟩ nb) W0,v167=.int .i64 0∧Hid (scan (twF 5 l4) l4 0 (scan (twF 6 l5) l5 0 (0,0,0))=R)∧Hid (MapsSt y.w ⟨bc,bb,m1,m2,m3,m4,m5⟩ nb (l0.map srow) (l2.map mrow) (l3.map prow) (l3.map jrow) ([]) ([]))∧Hid (Blk y.w b9 [.map (some m4),.map (some m5)] 124)∧wr=y.w)∨(∃y:WK (InM ⟨bc,bb,m1,m2,m3,m4,m5⟩ nb) W0,v167=.int .i64 1∧Hid (scan (twF 6 l5) l5 0 (0,0,0)=R)∧Hid (MapsSt y.w ⟨bc,bb,m1,m2,m3,m4,m5⟩ nb (l0.map srow) (l2.map mrow) (l3.map prow) (l3.map jrow) (l4.map frow) ([]))∧Hid (Blk y.w b9 [.map (some m4),.map (some m5)] 124)∧wr=y.w)∨(∃y:WK (InM ⟨bc,bb,m1,m2,m3,m4,m5⟩ nb) W0,v167=.int .i64 2∧Hid ((0,0,0)=R)∧Hid (MapsSt y.w ⟨bc,bb,m1,m2,m3,m4,m5⟩ nb (l0.map srow) (l2.map mrow) (l3.map prow) (l3.map jrow) (l4.map frow) (l5.map frow))∧Hid (Blk y.w b9 [.map (some m4),.map (some m5)] 124)∧wr=y.w)) (fun v167 _=>2 - (intOf v167).toNat)
       case atStart=>exact Or.inl ⟨y1,rfl,Lib.hid HF.out,Lib.hid HStN.out,HBk,rfl⟩
       case round=>
        clear HF HStN HBk hy0
        rcases hrel with ⟨y,rfl,HF,HStY,HBk,rfl⟩ | hrel
        ·have s9:=HBk.out.cell 0
         dsimp only[List.getElem?_cons_zero,List.getElem?_cons_succ] at s9
         go_upto_region 31 with fail
         clear s9
         go_big_region
         all_goals (refine ?hK4)
         have HBz:Hid (Below y.w.heap.size y.w (y.w.alloc (.cells #[.slice o4 l4.length c4,.slice o5 l5.length c5] 26)).drew):=Lib.hid (((Below.refl _ _).alloc (Nat.le_refl _) _).drew)
         have HStN:=Lib.hid (HStY.out.below HBz.out)
         have HBkN:=Lib.hid (HBk.out.keep (Keep.of_below HBz.out (fun _=>False)) (by simp))
         clear HStY HBk
         obtain⟨y1,hy1⟩:∃z:WK (InM ⟨bc,bb,m1,m2,m3,m4,m5⟩ nb) W0,z.w=(y.w.alloc (.cells #[.slice o4 l4.length c4,.slice o5 l5.length c5] 26)).drew:=⟨⟨_,(y.h.alloc _).drew⟩,rfl⟩
         rw[←hy1] at HStN HBkN
         conv=>arg 5;rw[←hy1]
         clear hy1 HBz
         have HStY:Hid (MapsSt y1.w ⟨bc,bb,m1,m2,m3,m4,m5⟩ nb (l0.map srow) (l2.map mrow) (l3.map prow) (l3.map jrow) ((l4.take 0).map frow) ([])):=Lib.hid HStN.out
         have HBk:=Lib.hid HBkN.out
         clear HStN HBkN
         go_wp2_with fail
         go_loopw [187] (fun v187 wr=>∃(i:Nat) (y:WK (InM ⟨bc,bb,m1,m2,m3,m4,m5⟩ nb) W0),v187=.int .i64 i∧i≤l4.length∧Hid (scan (twF 5 l4) (l4.drop i) i (scan (twF 6 l5) l5 0 (0,0,0))=R)∧Hid (MapsSt y.w ⟨bc,bb,m1,m2,m3,m4,m5⟩ nb (l0.map srow) (l2.map mrow) (l3.map prow) (l3.map jrow) ((l4.take i).map frow) ([]))∧Hid (Blk y.w b9 [.map (some m4),.map (some m5)] 124)∧wr=y.w) (fun v187 _=>l4.length - (intOf v187).toNat)
         case atStart=>exact⟨0,y1,rfl,Nat.zero_le _,HF,HStY,HBk,rfl⟩
         case round=>
          clear HF HStY HBk
          obtain⟨i,y,rfl,hi,HF,HStY,HBk,rfl⟩:=hrel
          have i0:(0:Int)≤(i:Int):=Int.natCast_nonneg _
          by_cases hlt:i<l4.length
          ·have i1:(i:Int)<(l4.length:Int):=by omega
           obtain⟨g,off,ho,hg,c0,c1,cz⟩:=HL4.out i hlt
           subst ho
           have HF1:=Lib.hid (scan_step hlt HF.out)
           have hxm:=List.getElem_mem hlt
           have HTk:=Lib.hid (take_next hlt)
           have htw:=twF_any 5 l4 i hlt
           obtain⟨A0,A1,A2,A3,A4,A5,HAs,HStY⟩:∃A0 A1 A2 A3 A4 A5,Hid (A0=l0.map srow∧A1=l2.map mrow∧A2=l3.map prow∧A3=l3.map jrow∧A4=(l4.take i).map frow∧A5=[])∧Hid (MapsSt y.w ⟨bc,bb,m1,m2,m3,m4,m5⟩ nb A0 A1 A2 A3 A4 A5):=⟨_,_,_,_,_,_,Lib.hid ⟨rfl,rfl,rfl,rfl,rfl,rfl⟩,HStY⟩
           generalize l4[i]=x at *
           have e0:=fun y:WK (InM ⟨bc,bb,m1,m2,m3,m4,m5⟩ nb) W0=>WK.cell c0 (HNS.out _ _ c0) y
           have e1:=fun y:WK (InM ⟨bc,bb,m1,m2,m3,m4,m5⟩ nb) W0=>WK.cell c1 (HNS.out _ _ c1) y
           have hxr:=HFr.out x hxm
           clear HF hxm c0 c1
           obtain⟨B,hBq⟩:∃B,(l4.take i).any (fkey x.1)=B:=⟨_,rfl⟩
           obtain⟨sx,hL⟩:=look_map' (l4.take i) (i32_of hxr)
           rw[hBq] at hL htw
           go_upto_region 34 with fail
           have bX:=Blk.new' y.w #[.int .i32 x.1,.string x.2] 143
           have HV1:Hid (Keep (InM ⟨bc,bb,m1,m2,m3,m4,m5⟩ nb) W0 (y.w.alloc (.cells #[.int .i32 x.1,.string x.2] 143))):=Lib.hid (y.h.alloc _)
           have HVy:Hid (Below y.w.heap.size y.w (y.w.alloc (.cells #[.int .i32 x.1,.string x.2] 143))):=Lib.hid ((Below.refl _ _).alloc (Nat.le_refl _) _)
           obtain⟨V,hV⟩:∃V,y.w.alloc (.cells #[.int .i32 x.1,.string x.2] 143)=V:=⟨_,rfl⟩
           rw[hV] at bX HV1 HVy ⊢
           have HVk:=Lib.hid HVy.out
           obtain⟨bx,hbx⟩:∃b,y.w.heap.size=b:=⟨_,rfl⟩
           rw[hbx] at bX ⊢
           have HStV:=Lib.hid (HStY.out.below HVy.out)
           clear hV hbx
           have x0:∀z:WC V,z.w.cell? ⟨bx,0,none⟩=some (.int .i32 x.1):=WC.cell (bX.cell 0)
           have x1:∀z:WC V,z.w.cell? ⟨bx,1,none⟩=some (.string x.2):=WC.cell (bX.cell 1)
           have HUp:Hid (∀z:WC V,Keep (InM ⟨bc,bb,m1,m2,m3,m4,m5⟩ nb) W0 z.w):=Lib.hid (fun z=>HV1.out.below_next z.h)
           have HStz:Hid (∀z:WC V,MapsSt z.w ⟨bc,bb,m1,m2,m3,m4,m5⟩ nb A0 A1 A2 A3 A4 A5):=Lib.hid (fun z=>HStV.out.below z.h)
           have a0z:∀z:WC V,z.w.cell? ⟨W.heap.size,0,none⟩=some (.int .i64 0):=fun z=>a0 ⟨z.w,HUp.out z⟩
           have a1z:∀z:WC V,z.w.cell? ⟨W.heap.size,1,none⟩=some (.int .i64 0):=fun z=>a1 ⟨z.w,HUp.out z⟩
           have a2z:∀z:WC V,z.w.cell? ⟨W.heap.size,2,none⟩=some (.int .i64 0):=fun z=>a2 ⟨z.w,HUp.out z⟩
           have f0z:∀z:WC V,z.w.frozen? ⟨W.heap.size,0,none⟩=false:=fun z=>f0 ⟨z.w,HUp.out z⟩
           have f1z:∀z:WC V,z.w.frozen? ⟨W.heap.size,1,none⟩=false:=fun z=>f1 ⟨z.w,HUp.out z⟩
           have f2z:∀z:WC V,z.w.frozen? ⟨W.heap.size,2,none⟩=false:=fun z=>f2 ⟨z.w,HUp.out z⟩
           have t8z:∀z:WC V,z.w.cell? ⟨bc,8,none⟩=some (.pointer (some ⟨bb,0,none⟩)):=fun z=>t8 ⟨z.w,HUp.out z⟩
           clear bX HV1 HVy HStV
           obtain⟨z,hz⟩:∃z:WC V,z.w=V:=⟨WC.of V,rfl⟩
           conv=>arg 5;rw[←hz]
           clear hz
           have HBkz:Hid (∀z:WC V,Blk z.w b9 [.map (some m4),.map (some m5)] 124):=Lib.hid (fun z=>(HBk.out.keep (Keep.of_below HVk.out (fun _=>False)) (by simp)).keep (Keep.of_below z.h (fun _=>False)) (by simp))
           have km:∀z:WC V,(Instr.lookup 124 (.map (some m4)) (.int .i32 x.1) true).run Tryz.prog z.w=.ok (.tuple #[.string sx,.bool B]) z.w:=fun z=>hL z.w m4 (by have h:=(HStz.out z).m4;rw[HAs.out.2.2.2.2.1] at h;exact h)
           clear hL
           cases B with
           | true=>
            have hs:twF 5 l4 x i=some (14,5,(i:Int)):=htw
            have HR:=Lib.hid ((scan_hit hs).symm.trans HF1.out)
            clear HF1 hs
            clear hBq hxr htw
            have KW:Hid (∀z:WC V,Calls Tryz.prog 99 #[.int .i64 14,.int .i64 5,.int .i64 i] z.w fun e w'=>e=.returned (.agg #[.int .i64 14,.int .i64 5,.int .i64 i])∧∃u:WC V,w'=u.w):=Lib.hid (fun z=>WC.call (HWr.out 14 5 i z.w))
            go_wp2_with fail
            (with_reducible refine Calls.mono (KW.out z) ?_)
            rintro e w' ⟨rfl,zr,rfl⟩
            clear KW
            go_wp2_with fail
            have b3:=(((HA.out.keep (HUp.out zr) (HNS.out _ _ (HA.out.cell 0))).set 0 (.int .i64 14)).set 1 (.int .i64 5)).set 2 (.int .i64 i)
            have r0:=b3.cell 0
            have r1:=b3.cell 1
            have r2:=b3.cell 2
            refine bodyPost_ret (v:=.agg #[.int .i64 14,.int .i64 5,.int .i64 i]) (res_wrong Hres.out (by rfl) r0 r1 r2) rfl ?_
            exact⟨by rw[←HR.out];rfl,keep_set3 (keep_out (HBK.out.trans (HUp.out zr)) (by have:=HNb.out;omega)) (Nat.le_refl _),fun hh=>absurd hh (by rw[←HR.out];show ¬ ((14:Int)=0);decide)⟩
           | false=>
            have hs:twF 5 l4 x i=none:=htw
            have HF2:=Lib.hid ((scan_miss hs).symm.trans HF1.out)
            clear HF1 hs
            have hno:∀p∈A4,p.1≠.int .i32 x.1:=by rw[HAs.out.2.2.2.2.1];exact no_from hBq
            obtain⟨o,hrun,hMi⟩:=(HStz.out z).m4.store keyed_rune Tryz.underlying124 (x:=.int .i32 x.1) (key_rune (i32_of hxr)) hno (.string x.2)
            have HMi:=Lib.hid hMi
            have HNe:Hid (b9≠m4):=Lib.hid (fun e=>(HStz.out z).apart ((HBkz.out z).cell 0) (by simp only[InM];simp[e]))
            clear hMi hno hBq hxr htw
            go_wp2_with fail
            exact⟨⟨i+1,⟨World.put z.w m4 o,(HUp.out z).put (fun _=>Or.inr (Or.inr (Or.inr (Or.inl rfl)))) o⟩,by go_num,by omega,HF2,Lib.hid (by have h:=(HStz.out z).put4 HD.out HMi.out;obtain⟨e0,e1,e2,e3,e4,e5⟩:=HAs.out;rw[HTk.out,List.map_append];subst e0 e1 e2 e3 e4 e5;exact h),Lib.hid ((put_block HNe.out).trans (HBkz.out z)),by first | rfl | trivial⟩,by simp[intOf];omega⟩
          ·obtain rfl:i=l4.length:=by omega
           have HF0:=Lib.hid (scan_end HF.out)
           clear hi hlt i0 HF
           have HF:=Lib.hid HF0.out
           clear HF0
           replace HStY:=Lib.hid (by have h:=HStY.out;simp only[List.take_length] at h;exact h)
           go_wp2_with fail
           exact⟨Or.inr (Or.inl ⟨y,rfl,HF,Lib.hid HStY.out,HBk,by first | rfl | trivial⟩),by simp[intOf]⟩
        rcases hrel with ⟨y,rfl,HF,HStY,HBk,rfl⟩ | hrel
        ·have s9:=HBk.out.cell 1
         dsimp only[List.getElem?_cons_zero,List.getElem?_cons_succ] at s9
         go_upto_region 31 with fail
         clear s9
         go_big_region
         all_goals (refine ?hK5)
         have HBz:Hid (Below y.w.heap.size y.w (y.w.alloc (.cells #[.slice o4 l4.length c4,.slice o5 l5.length c5] 26)).drew):=Lib.hid (((Below.refl _ _).alloc (Nat.le_refl _) _).drew)
         have HStN:=Lib.hid (HStY.out.below HBz.out)
         have HBkN:=Lib.hid (HBk.out.keep (Keep.of_below HBz.out (fun _=>False)) (by simp))
         clear HStY HBk
         obtain⟨y1,hy1⟩:∃z:WK (InM ⟨bc,bb,m1,m2,m3,m4,m5⟩ nb) W0,z.w=(y.w.alloc (.cells #[.slice o4 l4.length c4,.slice o5 l5.length c5] 26)).drew:=⟨⟨_,(y.h.alloc _).drew⟩,rfl⟩
         rw[←hy1] at HStN HBkN
         conv=>arg 5;rw[←hy1]
         clear hy1 HBz
         have HStY:Hid (MapsSt y1.w ⟨bc,bb,m1,m2,m3,m4,m5⟩ nb (l0.map srow) (l2.map mrow) (l3.map prow) (l3.map jrow) (l4.map frow) ((l5.take 0).map frow)):=Lib.hid HStN.out
         have HBk:=Lib.hid HBkN.out
         clear HStN HBkN
         go_wp2_with fail
         go_loopw [187] (fun v187 wr=>∃(i:Nat) (y:WK (InM ⟨bc,bb,m1,m2,m3,m4,m5⟩ nb) W0),v187=.int .i64 i∧i≤l5.length∧Hid (scan (twF 6 l5) (l5.drop i) i ((0,0,0))=R)∧Hid (MapsSt y.w ⟨bc,bb,m1,m2,m3,m4,m5⟩ nb (l0.map srow) (l2.map mrow) (l3.map prow) (l3.map jrow) (l4.map frow) ((l5.take i).map frow))∧Hid (Blk y.w b9 [.map (some m4),.map (some m5)] 124)∧wr=y.w) (fun v187 _=>l5.length - (intOf v187).toNat)
         case atStart=>exact⟨0,y1,rfl,Nat.zero_le _,HF,HStY,HBk,rfl⟩
         case round=>
          clear HF HStY HBk
          obtain⟨i,y,rfl,hi,HF,HStY,HBk,rfl⟩:=hrel
          have i0:(0:Int)≤(i:Int):=Int.natCast_nonneg _
          by_cases hlt:i<l5.length
          ·have i1:(i:Int)<(l5.length:Int):=by omega
           obtain⟨g,off,ho,hg,c0,c1,cz⟩:=HL5.out i hlt
           subst ho
           have HF1:=Lib.hid (scan_step hlt HF.out)
           have hxm:=List.getElem_mem hlt
           have HTk:=Lib.hid (take_next hlt)
           have htw:=twF_any 6 l5 i hlt
           obtain⟨A0,A1,A2,A3,A4,A5,HAs,HStY⟩:∃A0 A1 A2 A3 A4 A5,Hid (A0=l0.map srow∧A1=l2.map mrow∧A2=l3.map prow∧A3=l3.map jrow∧A4=l4.map frow∧A5=(l5.take i).map frow)∧Hid (MapsSt y.w ⟨bc,bb,m1,m2,m3,m4,m5⟩ nb A0 A1 A2 A3 A4 A5):=⟨_,_,_,_,_,_,Lib.hid ⟨rfl,rfl,rfl,rfl,rfl,rfl⟩,HStY⟩
           generalize l5[i]=x at *
           have e0:=fun y:WK (InM ⟨bc,bb,m1,m2,m3,m4,m5⟩ nb) W0=>WK.cell c0 (HNS.out _ _ c0) y
           have e1:=fun y:WK (InM ⟨bc,bb,m1,m2,m3,m4,m5⟩ nb) W0=>WK.cell c1 (HNS.out _ _ c1) y
           have hxr:=HLr.out x hxm
           clear HF hxm c0 c1
           obtain⟨B,hBq⟩:∃B,(l5.take i).any (fkey x.1)=B:=⟨_,rfl⟩
           obtain⟨sx,hL⟩:=look_map' (l5.take i) (i32_of hxr)
           rw[hBq] at hL htw
           go_upto_region 34 with fail
           have bX:=Blk.new' y.w #[.int .i32 x.1,.string x.2] 143
           have HV1:Hid (Keep (InM ⟨bc,bb,m1,m2,m3,m4,m5⟩ nb) W0 (y.w.alloc (.cells #[.int .i32 x.1,.string x.2] 143))):=Lib.hid (y.h.alloc _)
           have HVy:Hid (Below y.w.heap.size y.w (y.w.alloc (.cells #[.int .i32 x.1,.string x.2] 143))):=Lib.hid ((Below.refl _ _).alloc (Nat.le_refl _) _)
           obtain⟨V,hV⟩:∃V,y.w.alloc (.cells #[.int .i32 x.1,.string x.2] 143)=V:=⟨_,rfl⟩
           rw[hV] at bX HV1 HVy ⊢
           have HVk:=Lib.hid HVy.out
           obtain⟨bx,hbx⟩:∃b,y.w.heap.size=b:=⟨_,rfl⟩
           rw[hbx] at bX ⊢
           have HStV:=Lib.hid (HStY.out.below HVy.out)
           clear hV hbx
           have x0:∀z:WC V,z.w.cell? ⟨bx,0,none⟩=some (.int .i32 x.1):=WC.cell (bX.cell 0)
           have x1:∀z:WC V,z.w.cell? ⟨bx,1,none⟩=some (.string x.2):=WC.cell (bX.cell 1)
           have HUp:Hid (∀z:WC V,Keep (InM ⟨bc,bb,m1,m2,m3,m4,m5⟩ nb) W0 z.w):=Lib.hid (fun z=>HV1.out.below_next z.h)
           have HStz:Hid (∀z:WC V,MapsSt z.w ⟨bc,bb,m1,m2,m3,m4,m5⟩ nb A0 A1 A2 A3 A4 A5):=Lib.hid (fun z=>HStV.out.below z.h)
           have a0z:∀z:WC V,z.w.cell? ⟨W.heap.size,0,none⟩=some (.int .i64 0):=fun z=>a0 ⟨z.w,HUp.out z⟩
           have a1z:∀z:WC V,z.w.cell? ⟨W.heap.size,1,none⟩=some (.int .i64 0):=fun z=>a1 ⟨z.w,HUp.out z⟩
           have a2z:∀z:WC V,z.w.cell? ⟨W.heap.size,2,none⟩=some (.int .i64 0):=fun z=>a2 ⟨z.w,HUp.out z⟩
           have f0z:∀z:WC V,z.w.frozen? ⟨W.heap.size,0,none⟩=false:=fun z=>f0 ⟨z.w,HUp.out z⟩
           have f1z:∀z:WC V,z.w.frozen? ⟨W.heap.size,1,none⟩=false:=fun z=>f1 ⟨z.w,HUp.out z⟩
           have f2z:∀z:WC V,z.w.frozen? ⟨W.heap.size,2,none⟩=false:=fun z=>f2 ⟨z.w,HUp.out z⟩
           have t8z:∀z:WC V,z.w.cell? ⟨bc,8,none⟩=some (.pointer (some ⟨bb,0,none⟩)):=fun z=>t8 ⟨z.w,HUp.out z⟩
           clear bX HV1 HVy HStV
           obtain⟨z,hz⟩:∃z:WC V,z.w=V:=⟨WC.of V,rfl⟩
           conv=>arg 5;rw[←hz]
           clear hz
           have HBkz:Hid (∀z:WC V,Blk z.w b9 [.map (some m4),.map (some m5)] 124):=Lib.hid (fun z=>(HBk.out.keep (Keep.of_below HVk.out (fun _=>False)) (by simp)).keep (Keep.of_below z.h (fun _=>False)) (by simp))
           have km:∀z:WC V,(Instr.lookup 124 (.map (some m5)) (.int .i32 x.1) true).run Tryz.prog z.w=.ok (.tuple #[.string sx,.bool B]) z.w:=fun z=>hL z.w m5 (by have h:=(HStz.out z).m5;rw[HAs.out.2.2.2.2.2] at h;exact h)
           clear hL
           cases B with
           | true=>
            have hs:twF 6 l5 x i=some (14,6,(i:Int)):=htw
            have HR:=Lib.hid ((scan_hit hs).symm.trans HF1.out)
            clear HF1 hs
            clear hBq hxr htw
            have KW:Hid (∀z:WC V,Calls Tryz.prog 99 #[.int .i64 14,.int .i64 6,.int .i64 i] z.w fun e w'=>e=.returned (.agg #[.int .i64 14,.int .i64 6,.int .i64 i])∧∃u:WC V,w'=u.w):=Lib.hid (fun z=>WC.call (HWr.out 14 6 i z.w))
            go_wp2_with fail
            (with_reducible refine Calls.mono (KW.out z) ?_)
            rintro e w' ⟨rfl,zr,rfl⟩
            clear KW
            go_wp2_with fail
            have b3:=(((HA.out.keep (HUp.out zr) (HNS.out _ _ (HA.out.cell 0))).set 0 (.int .i64 14)).set 1 (.int .i64 6)).set 2 (.int .i64 i)
            have r0:=b3.cell 0
            have r1:=b3.cell 1
            have r2:=b3.cell 2
            refine bodyPost_ret (v:=.agg #[.int .i64 14,.int .i64 6,.int .i64 i]) (res_wrong Hres.out (by rfl) r0 r1 r2) rfl ?_
            exact⟨by rw[←HR.out];rfl,keep_set3 (keep_out (HBK.out.trans (HUp.out zr)) (by have:=HNb.out;omega)) (Nat.le_refl _),fun hh=>absurd hh (by rw[←HR.out];show ¬ ((14:Int)=0);decide)⟩
           | false=>
            have hs:twF 6 l5 x i=none:=htw
            have HF2:=Lib.hid ((scan_miss hs).symm.trans HF1.out)
            clear HF1 hs
            have hno:∀p∈A5,p.1≠.int .i32 x.1:=by rw[HAs.out.2.2.2.2.2];exact no_from hBq
            obtain⟨o,hrun,hMi⟩:=(HStz.out z).m5.store keyed_rune Tryz.underlying124 (x:=.int .i32 x.1) (key_rune (i32_of hxr)) hno (.string x.2)
            have HMi:=Lib.hid hMi
            have HNe:Hid (b9≠m5):=Lib.hid (fun e=>(HStz.out z).apart ((HBkz.out z).cell 0) (by simp only[InM];simp[e]))
            clear hMi hno hBq hxr htw
            go_wp2_with fail
            exact⟨⟨i+1,⟨World.put z.w m5 o,(HUp.out z).put (fun _=>Or.inr (Or.inr (Or.inr (Or.inr (Or.inl rfl))))) o⟩,by go_num,by omega,HF2,Lib.hid (by have h:=(HStz.out z).put5 HD.out HMi.out;obtain⟨e0,e1,e2,e3,e4,e5⟩:=HAs.out;rw[HTk.out,List.map_append];subst e0 e1 e2 e3 e4 e5;exact h),Lib.hid ((put_block HNe.out).trans (HBkz.out z)),by first | rfl | trivial⟩,by simp[intOf];omega⟩
          ·obtain rfl:i=l5.length:=by omega
           have HF0:=Lib.hid (scan_end HF.out)
           clear hi hlt i0 HF
           have HF:=Lib.hid HF0.out
           clear HF0
           replace HStY:=Lib.hid (by have h:=HStY.out;simp only[List.take_length] at h;exact h)
           go_wp2_with fail
           exact⟨Or.inr (Or.inr ⟨y,rfl,HF,Lib.hid HStY.out,HBk,by first | rfl | trivial⟩),by simp[intOf]⟩
        obtain⟨y,rfl,HF,HStY,HBk,rfl⟩:=hrel
        have HR:=Lib.hid HF.out
        go_wp2_with fail
        have b3:=(((HA.out.keep y.h (HNS.out _ _ (HA.out.cell 0))).set 0 (.int .i64 0)).set 1 (.int .i64 0)).set 2 (.int .i64 0)
        have r0:=b3.cell 0
        have r1:=b3.cell 1
        have r2:=b3.cell 2
        refine bodyPost_ret (v:=.agg #[.int .i64 0,.int .i64 0,.int .i64 0]) (res_wrong Hres.out (by rfl) r0 r1 r2) rfl ?_
        refine⟨by rw[←HR.out];rfl,keep_set3 (keep_out (HBK.out.trans y.h) (by have:=HNb.out;omega)) (Nat.le_refl _),fun _=>?_⟩
        have hni:=HNS.out _ _ (HA.out.cell 0)
        exact⟨HStY.out.m1.set3 (fun e=>hni (Or.inl e.symm)),HStY.out.m2.set3 (fun e=>hni (Or.inr (Or.inl e.symm)))  ,HStY.out.m3.set3 (fun e=>hni (Or.inr (Or.inr (Or.inl e.symm))))  ,HStY.out.m4.set3 (fun e=>hni (Or.inr (Or.inr (Or.inr (Or.inl e.symm)))))  ,HStY.out.m5.set3 (fun e=>hni (Or.inr (Or.inr (Or.inr (Or.inr (Or.inl e.symm))))))⟩
end Go.Proofs.YtioehfhdoohdmaaGreatDoor
