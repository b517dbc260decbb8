/- guiseref14.Tally, walked. Printed by gen_rtally.py. -/
import Derived.Test.YtioehfhdoohdmaaGreatDoorRefRuns
import Derived.Test.YtioehfhdoohdmaaGreatDoorTallyP
import Derived.Test.YtioehfhdoohdmaaGreatDoorBkAB
import Derived.Deep.OwnRows
set_option linter.unusedVariables false
set_option linter.unusedSimpArgs false
namespace Go.Proofs.YtioehfhdoohdmaaGreatDoor
open Go.RowKit Go.Shelf BigFrame
theorem make_ints (N:Nat) (hN:N≤1048577) (W:World):(Instr.makeSlice 40 (.int .i64 (N:Int)) (.int .i64 (N:Int))).run Tryz.prog W=.ok (.slice (some ⟨W.heap.size,0,none⟩) N N) (W.alloc (.cells (List.replicate N (.int .i64 0)).toArray 3)):=by
 obtain⟨i0,hi,hz0,hz1,hz2⟩:=info_parts info_int
 have h:=run_make_row (P:=Tryz.prog) 40 3 i0 (.int .i64 0) Tryz.underlying40 hi hz0 hz1 rfl .i64 .i64 N (by rw[hz2];omega) (by omega) W
 have e:madeCells #[(.int .i64 0:Value)] N=(List.replicate N (.int .i64 0:Value)).toArray:=by
  apply Array.ext_getElem?
  intro i
  by_cases hi:i<N
  ·simp[madeCells,hi,Nat.mod_one]
  ·rw[Array.getElem?_eq_none (by rw[size_madeCells];omega),Array.getElem?_eq_none (by simp;omega)]
 rw[e] at h
 exact h
def RTPost (W:World) (l:List Int) (e:Ending) (w':World):Prop:=∃b:Nat,W.heap.size≤b∧e=.returned (.slice (some ⟨b,0,none⟩) l.length l.length)∧Blk w' b (iV l) 3∧Below W.heap.size W w'
set_option maxRecDepth 100000 in
set_option maxHeartbeats 8000000 in
theorem rtally_any (T:Tab) (a:TAddr) (s:ByteArray) (W:World) (h:TabAt W T a) (hs:s.size≤1048576) (hl:T.scripts.length≤1048576):Calls Tryz.prog 37 #[.agg (tabCells T a),.string s] W (RTPost W (tallyR T s)):=by
 obtain⟨TT,hTT⟩:∃TT:Tab,TT=T:=⟨_,rfl⟩
 have hea:=tallyV_all T s
 have hle:=tallyR_len T s
 obtain⟨l0,l1,l2,l3,l4,l5,l6,l7⟩:=T
 obtain⟨o0,o1,o2,o3,o4,o5,o6,o7,c0,c1,c2,c3,c4,c5,c6,c7⟩:=a
 obtain⟨hT,HTb,hB1,hz⟩:=box1 h
 simp only[tabCells] at hT HTb hB1 hz hl hea hle ⊢
 rw[←hTT] at hea hle ⊢
 obtain⟨W0,hW0⟩:∃W0,(W.alloc (.cells #[.slice o0 l0.length c0,.slice o1 l1.length c1,.slice o2 l2.length c2,.slice o3 l3.length c3,.slice o4 l4.length c4,.slice o5 l5.length c5,.slice o6 l6.length c6,.slice o7 l7.length c7] 28))=W0:=⟨_,rfl⟩
 rw[hW0] at hT HTb hB1 hz
 have HW0:=Lib.hid hW0
 have HB:=Lib.hid hB1
 have hsp:=rspots_any s W0 hs
 unfold SpotsPost at hsp
 obtain⟨ps,hps⟩:∃ps,places s=ps:=⟨_,rfl⟩
 have HPe:=Lib.hid hps
 have hpl:ps.length≤1048576:=by rw[←hps];exact Nat.le_trans scan_any_len hs
 have HFr:Hid (∀(r p k:Int) (bad:Bool) (W1:World),Below W0.heap.size W0 W1→Calls Tryz.prog 55 #[.agg #[.slice o0 l0.length c0,.slice o1 l1.length c1,.slice o2 l2.length c2,.slice o3 l3.length c3,.slice o4 l4.length c4,.slice o5 l5.length c5,.slice o6 l6.length c6,.slice o7 l7.length c7],.agg #[.int .i32 r,.int .i64 p,.int .i64 k,.bool bad]] W1 fun e w'=>e=.returned (.bool (freeR TT r bad))∧Below W1.heap.size W1 w'):=Lib.hid (fun r p k bad W1 h1=>by rw[hTT];exact rfree_any _ ⟨o0,o1,o2,o3,o4,o5,o6,o7,c0,c1,c2,c3,c4,c5,c6,c7⟩ r p k bad W1 (hT.below h1))
 have HBo:Hid (∀(r p k:Int) (bad:Bool) (n:Int) (W1:World),Below W0.heap.size W0 W1→Calls Tryz.prog 56 #[.agg #[.slice o0 l0.length c0,.slice o1 l1.length c1,.slice o2 l2.length c2,.slice o3 l3.length c3,.slice o4 l4.length c4,.slice o5 l5.length c5,.slice o6 l6.length c6,.slice o7 l7.length c7],.agg #[.int .i32 r,.int .i64 p,.int .i64 k,.bool bad],.int .i64 n] W1 fun e w'=>e=.returned (.bool (boundB TT r bad n))∧Below W1.heap.size W1 w'):=Lib.hid (fun r p k bad n W1 h1=>by rw[hTT];exact rbound_any _ ⟨o0,o1,o2,o3,o4,o5,o6,o7,c0,c1,c2,c3,c4,c5,c6,c7⟩ r p k bad n W1 (hT.below h1))
 have HTc:=Lib.hid HTb
 rw[hps] at hsp hea
 have HSt:=Lib.hid (tallyV_start TT s ps l0.length)
 have HLe:Hid ((tallyR TT s).length=l0.length):=Lib.hid hle
 have HEa:Hid (tallyV TT s ps l0.length ps.length 0=iV (tallyR TT s)):=Lib.hid hea
 have HSp:=Lib.hid hsp
 obtain⟨P,hP⟩:∃P,RTPost W (tallyR TT s)=P:=⟨_,rfl⟩
 have HP:Hid (∀e w',P e w'=RTPost W (tallyR TT s) e w'):=Lib.hid (fun e w'=>by rw[hP])
 rw[hP]
 obtain⟨R,hR⟩:∃R,tallyR TT s=R:=⟨_,rfl⟩
 rw[hR] at HLe HEa HP
 clear hP hR hT HTb hB1 hz h hW0 hsp hps hTT hea hle
 go_enter Tryz.func37,Tryz.ntmps37
 have t0:W0.cell? ⟨W.heap.size,0,none⟩=some (.slice o0 l0.length c0):=HTc.out 0 (.slice o0 l0.length c0) rfl
 have hmk:=make_ints l0.length (by omega) W0
 rw[←HSt.out] at hmk
 have hz0:=HB.out.size
 have hal:Below W0.heap.size W0 (W0.alloc (.cells (tallyV TT s ps l0.length 0 0).toArray 3)):=(Below.refl _ _).alloc (Nat.le_refl _) _
 have HBl0:=Lib.hid (Blk.new W0 (tallyV TT s ps l0.length 0 0) 3)
 have HAl:=Lib.hid hal
 clear hal
 go_upto_region 1 with fail
 rw[HW0.out]
 clear HW0
 go_upto_region 2 with fail
 obtain⟨bs,hbs⟩:∃b,W0.heap.size=b:=⟨_,rfl⟩
 rw[hbs] at HBl0 HAl ⊢
 have HSz:=Lib.hid (World.size_alloc W0 (.cells (tallyV TT s ps l0.length 0 0).toArray 3))
 rw[hbs] at HSz
 generalize W0.alloc (.cells (tallyV TT s ps l0.length 0 0).toArray 3)=W1 at *
 have HBs:=Lib.hid hbs
 clear hbs hmk t0
 have hsp1:=rspots_any s W1 hs
 unfold SpotsPost at hsp1
 rw[HPe.out] at hsp1
 go_wp2_with fail
 (with_reducible refine Calls.mono hsp1 ?_)
 rintro e W2 ⟨v,rfl,ho,hB2⟩
 obtain⟨o,c,rfl,hnc,hcm,hrd,hoo⟩:=run_own4 ho
 clear hsp1 HSp HPe
 have HPs:Hid (SpsAt W2 s o ps):=Lib.hid hrd
 have hz1:W1.heap.size=bs+1:=HSz.out
 have hB12:Below W0.heap.size W0 W2:=(by have h:=HAl.out;rw[←HBs.out] at h;exact h:Below W0.heap.size W0 W1).trans (hB2.mono (by have:=HBs.out;omega))
 have HB2:=Lib.hid hB12
 have HBW:=Lib.hid (HB.out.trans (hB12.mono HB.out.size))
 have HBl:=Lib.hid (HBl0.out.keep (Keep.of_below hB2 (fun _=>False)) (by simp))
 have HTc1:=Lib.hid (fun k v hv=>cell_bel hB12 (HTc.out k v hv))
 have hb2:bs<W2.heap.size:=HBl.out.lt
 have hcm2:c≤9223372036854775807:=hcm
 have hpb:∀a,o=some a→a.block≠bs∧a.off=0:=fun a ha=>by have h:=hoo a ha;exact⟨by omega,h.2.2.1⟩
 have HOo:=Lib.hid hpb
 have hwb:W.heap.size<bs:=by have h1:=cell_lt (HTc.out 0 (.slice o0 l0.length c0) rfl);have:=HBs.out;simp only at h1;omega
 clear hrd ho hB2 hB12 HTc HB HBl0 HAl hoo hcm hpb hz1 HSz
 go_wp2_with fail
 go_loopw [7] (fun v7 wr=>∃i:Nat,v7=.int .i64 i∧i≤ps.length∧Hid (Keep (fun k=>k=bs) W2 wr)∧Hid (Blk wr bs (tallyV TT s ps l0.length i 0) 3)) (fun v7 _=>ps.length - (intOf v7).toNat)
 case atStart=>exact⟨0,rfl,Nat.zero_le _,Lib.hid (Keep.refl _ _),HBl⟩
 case round=>
  clear HBl
  obtain⟨i,rfl,hi,HV,HBl⟩:=hrel
  have i0:(0:Int)≤(i:Int):=Int.natCast_nonneg _
  by_cases hlt:i<ps.length
  ·have i1:(i:Int)<(ps.length:Int):=by omega
   obtain⟨x,hx⟩:∃x,ps[i]=x:=⟨_,rfl⟩
   obtain⟨g,off,ho,q0,q1,q2,q3⟩:=SpsAt.row HPs.out hlt
   subst ho
   obtain⟨hgb,hof⟩:=HOo.out _ rfl
   simp only at hgb hof
   subst hof
   rw[hx] at q0 q1 q2 q3
   simp only[Nat.zero_add] at q0 q1 q2 q3
   obtain⟨fb,hfb⟩:∃b,freeR TT (spR s x) (spB s x)=b:=⟨_,rfl⟩
   have HFx:Hid (∀W1,Below W0.heap.size W0 W1→Calls Tryz.prog 55 #[.agg #[.slice o0 l0.length c0,.slice o1 l1.length c1,.slice o2 l2.length c2,.slice o3 l3.length c3,.slice o4 l4.length c4,.slice o5 l5.length c5,.slice o6 l6.length c6,.slice o7 l7.length c7],.agg #[.int .i32 (spR s x),.int .i64 (x.1:Nat),.int .i64 ((Utf8.decode s x.1).2:Nat),.bool (spB s x)]] W1 fun e w'=>e=.returned (.bool fb)∧Below W1.heap.size W1 w'):=Lib.hid (fun W1 h1=>by rw[←hfb];exact HFr.out _ _ _ _ W1 h1)
   have HFb:=Lib.hid hfb
   have HX:=Lib.hid hx
   have ic:(i:Int)+1≤(c:Int):=by omega
   clear hfb hx
   have HPx:=Lib.hid (And.intro q0 (And.intro q1 (And.intro q2 q3)))
   clear q0 q1 q2 q3
   go_wp2_with fail
   go_loopw [8] (fun v8 wi=>∃m:Nat,v8=.int .i64 m∧m≤l0.length∧Hid (Keep (fun k=>k=bs) W2 wi)∧Hid (Blk wi bs (tallyV TT s ps l0.length i m) 3)) (fun v8 _=>l0.length - (intOf v8).toNat)
   case atStart=>exact⟨0,rfl,Nat.zero_le _,HV,HBl⟩
   case round=>
    clear HBl HV
    obtain⟨m,rfl,hm,HV,HBl⟩:=hrel
    have m0:(0:Int)≤(m:Int):=Int.natCast_nonneg _
    have HVw:Hid (Below W0.heap.size W0 wr):=Lib.hid (HB2.out.trans (HV.out.below (fun k hk=>by have:=HBs.out;have:=HB2.out.size;omega)))
    have t0:∀y:WC wr,y.w.cell? ⟨W.heap.size,0,none⟩=some (.slice o0 l0.length c0):=WC.cell ((HV.out.cell (cell_lt (HTc1.out 0 (.slice o0 l0.length c0) rfl)) (by simp only;omega)).trans (HTc1.out 0 (.slice o0 l0.length c0) rfl))
    have t1:∀y:WC wr,y.w.cell? ⟨W.heap.size,1,none⟩=some (.slice o1 l1.length c1):=WC.cell ((HV.out.cell (cell_lt (HTc1.out 1 (.slice o1 l1.length c1) rfl)) (by simp only;omega)).trans (HTc1.out 1 (.slice o1 l1.length c1) rfl))
    have t2:∀y:WC wr,y.w.cell? ⟨W.heap.size,2,none⟩=some (.slice o2 l2.length c2):=WC.cell ((HV.out.cell (cell_lt (HTc1.out 2 (.slice o2 l2.length c2) rfl)) (by simp only;omega)).trans (HTc1.out 2 (.slice o2 l2.length c2) rfl))
    have t3:∀y:WC wr,y.w.cell? ⟨W.heap.size,3,none⟩=some (.slice o3 l3.length c3):=WC.cell ((HV.out.cell (cell_lt (HTc1.out 3 (.slice o3 l3.length c3) rfl)) (by simp only;omega)).trans (HTc1.out 3 (.slice o3 l3.length c3) rfl))
    have t4:∀y:WC wr,y.w.cell? ⟨W.heap.size,4,none⟩=some (.slice o4 l4.length c4):=WC.cell ((HV.out.cell (cell_lt (HTc1.out 4 (.slice o4 l4.length c4) rfl)) (by simp only;omega)).trans (HTc1.out 4 (.slice o4 l4.length c4) rfl))
    have t5:∀y:WC wr,y.w.cell? ⟨W.heap.size,5,none⟩=some (.slice o5 l5.length c5):=WC.cell ((HV.out.cell (cell_lt (HTc1.out 5 (.slice o5 l5.length c5) rfl)) (by simp only;omega)).trans (HTc1.out 5 (.slice o5 l5.length c5) rfl))
    have t6:∀y:WC wr,y.w.cell? ⟨W.heap.size,6,none⟩=some (.slice o6 l6.length c6):=WC.cell ((HV.out.cell (cell_lt (HTc1.out 6 (.slice o6 l6.length c6) rfl)) (by simp only;omega)).trans (HTc1.out 6 (.slice o6 l6.length c6) rfl))
    have t7:∀y:WC wr,y.w.cell? ⟨W.heap.size,7,none⟩=some (.slice o7 l7.length c7):=WC.cell ((HV.out.cell (cell_lt (HTc1.out 7 (.slice o7 l7.length c7) rfl)) (by simp only;omega)).trans (HTc1.out 7 (.slice o7 l7.length c7) rfl))
    obtain⟨q0,q1,q2,q3⟩:=HPx.out
    have e0:∀y:WC wr,y.w.cell? _=_:=WC.cell ((HV.out.cell (cell_lt q0) hgb).trans q0)
    have e1:∀y:WC wr,y.w.cell? _=_:=WC.cell ((HV.out.cell (cell_lt q1) hgb).trans q1)
    have e2:∀y:WC wr,y.w.cell? _=_:=WC.cell ((HV.out.cell (cell_lt q2) hgb).trans q2)
    have e3:∀y:WC wr,y.w.cell? _=_:=WC.cell ((HV.out.cell (cell_lt q3) hgb).trans q3)
    clear q0 q1 q2 q3
    by_cases hml:m<l0.length
    ·have m1:(m:Int)<(l0.length:Int):=by omega
     have K0:Hid (∀(y:WC wr),Calls Tryz.prog 55 #[.agg #[.slice o0 l0.length c0,.slice o1 l1.length c1,.slice o2 l2.length c2,.slice o3 l3.length c3,.slice o4 l4.length c4,.slice o5 l5.length c5,.slice o6 l6.length c6,.slice o7 l7.length c7],.agg #[.int .i32 (spR s x),.int .i64 (x.1:Nat),.int .i64 ((Utf8.decode s x.1).2:Nat),.bool (spB s x)]] y.w fun e w'=>e=.returned (.bool fb)∧∃z:WC wr,w'=z.w):=Lib.hid (fun y=>WC.call (HFx.out y.w (HVw.out.trans (y.h.mono HVw.out.size))))
     have d1:decide ((m:Int)<(l0.length:Int))=true:=by rw[decide_eq_true_iff];omega
     cases fb with
     | true=>
      go_upto_region 7 with fail
      refine wp_region_wc (W0:=wr) (by kernel_rfl) (by kernel_rfl) (Below.refl _ _) ?_
      repeat (first | go_big_quiet_step (((go_at_call 55;(with_reducible exact K0.out _)))) | quiet_step (((go_at_call 55;(with_reducible exact K0.out _)))))
      refine wpQuiet_nil ?_
      rintro _ ⟨y1,rfl⟩
      have HFin:Hid (Blk y1.w bs (tallyV TT s ps l0.length (i+1) 0) 3):=Lib.hid (by have hb:=HBl.out.keep (Keep.of_below y1.h (fun _=>False)) (by simp);rw[tallyV_free hlt (by rw[HX.out];exact HFb.out)] at hb;exact hb)
      have HVf:Hid (Keep (fun k=>k=bs) W2 y1.w):=Lib.hid (HV.out.trans (Keep.of_below y1.h _))
      go_wp2_with fail
      exact⟨⟨i+1,by go_num,by omega,HVf,HFin⟩,by simp[intOf];omega⟩
     | false=>
      obtain⟨bb,hbb⟩:∃b,boundB TT (spR s x) (spB s x) (m:Int)=b:=⟨_,rfl⟩
      have HTb:Hid (tBo TT s ps[i] m=bb):=Lib.hid (by unfold tBo;rw[HX.out,HFb.out,hbb];rfl)
      have K1:Hid (∀(y:WC wr),Calls Tryz.prog 56 #[.agg #[.slice o0 l0.length c0,.slice o1 l1.length c1,.slice o2 l2.length c2,.slice o3 l3.length c3,.slice o4 l4.length c4,.slice o5 l5.length c5,.slice o6 l6.length c6,.slice o7 l7.length c7],.agg #[.int .i32 (spR s x),.int .i64 (x.1:Nat),.int .i64 ((Utf8.decode s x.1).2:Nat),.bool (spB s x)],.int .i64 (m:Int)] y.w fun e w'=>e=.returned (.bool bb)∧∃z:WC wr,w'=z.w):=Lib.hid (fun y=>WC.call (by rw[←hbb];exact HBo.out _ _ _ _ _ y.w (HVw.out.trans (y.h.mono HVw.out.size))))
      clear hbb
      go_upto_region 7 with fail
      refine wp_region_wc (W0:=wr) (by kernel_rfl) (by kernel_rfl) (Below.refl _ _) ?_
      repeat (first | go_big_quiet_step (((go_at_call 55;(with_reducible exact K0.out _)))) | quiet_step (((go_at_call 55;(with_reducible exact K0.out _)))))
      refine wpQuiet_nil ?_
      rintro _ ⟨y1,rfl⟩
      go_upto_region 9 with fail
      refine wp_region_wc (W0:=wr) (by kernel_rfl) (by kernel_rfl) y1.h ?_
      repeat (first | go_big_quiet_step (((go_at_call 56;(with_reducible exact K1.out _)))) | quiet_step (((go_at_call 56;(with_reducible exact K1.out _)))))
      refine wpQuiet_nil ?_
      rintro _ ⟨y2,rfl⟩
      clear K0 K1
      have HV2:Hid (Keep (fun k=>k=bs) W2 y2.w):=Lib.hid (HV.out.trans (Keep.of_below y2.h _))
      have hb2w:=HBl.out.keep (Keep.of_below y2.h (fun _=>False)) (by simp)
      have HBl2:=Lib.hid hb2w
      clear t0 t1 t2 t3 t4 t5 t6 t7 e0 e1 e2 e3
      cases bb with
      | false=>
       have HFin:Hid (Blk y2.w bs (tallyV TT s ps l0.length i (m+1)) 3):=Lib.hid (by have hb:=HBl2.out;rw[tallyV_no hlt HTb.out] at hb;exact hb)
       clear hb2w HBl2 HBl
       go_wp2_with fail
       exact⟨⟨m+1,by go_num,by omega,HV2,HFin⟩,by simp[intOf];omega⟩
      | true=>
       obtain⟨q,hq⟩:∃q,cntN TT s (ps.take i) m=q:=⟨_,rfl⟩
       have hql:q≤1048576:=by rw[←hq];exact Nat.le_trans (cntN_le _ _ _ _) (by rw[List.length_take];omega)
       have g0:y2.w.cell? ⟨bs,m,none⟩=some (.int .i64 (q:Nat)):=by rw[hb2w.cell,tallyV_get hml,if_neg (by omega),hq]
       have g1:=hb2w.frozen m
       have HFin:Hid (Blk (y2.w.setCell ⟨bs,m,none⟩ (.int .i64 ((q:Nat)+1))) bs (tallyV TT s ps l0.length i (m+1)) 3):=Lib.hid (by have hb:=HBl2.out.set m (.int .i64 ((q:Nat)+1));rw[←hq,tallyV_yes hlt hml HTb.out,hq] at hb;exact hb)
       have HVf:Hid (Keep (fun k=>k=bs) W2 (y2.w.setCell ⟨bs,m,none⟩ (.int .i64 ((q:Nat)+1)))):=Lib.hid (HV2.out.setCell (fun _=>rfl) _)
       clear hb2w HBl2 HBl hq
       go_wp2_with fail
       exact⟨⟨m+1,by go_num,by omega,HVf,HFin⟩,by simp[intOf];omega⟩
    ·obtain rfl:m=l0.length:=by omega
     have d1:decide ((l0.length:Int)<(l0.length:Int))=false:=by rw[decide_eq_false_iff_not];omega
     go_upto_region 7 with fail
     refine wp_region_wc (W0:=wr) (by kernel_rfl) (by kernel_rfl) (Below.refl _ _) ?_
     repeat (first | go_big_quiet_step ((fail)) | quiet_step ((fail)))
     refine wpQuiet_nil ?_
     rintro _ ⟨y1,rfl⟩
     have HFin:Hid (Blk y1.w bs (tallyV TT s ps l0.length (i+1) 0) 3):=Lib.hid (by have hb:=HBl.out.keep (Keep.of_below y1.h (fun _=>False)) (by simp);rw[tallyV_end] at hb;exact hb)
     have HVf:Hid (Keep (fun k=>k=bs) W2 y1.w):=Lib.hid (HV.out.trans (Keep.of_below y1.h _))
     clear t0 t1 t2 t3 t4 t5 t6 t7 e0 e1 e2 e3
     go_wp2_with fail
     exact⟨⟨i+1,by go_num,by omega,HVf,HFin⟩,by simp[intOf];omega⟩
  ·obtain rfl:i=ps.length:=by omega
   have HFin:Hid (Blk wr bs (iV R) 3):=Lib.hid (by have hb:=HBl.out;rw[HEa.out] at hb;exact hb)
   have HVf:Hid (Below W.heap.size W wr):=Lib.hid (HBW.out.trans (HV.out.below (fun k hk=>by have:=HBs.out;have:=HBW.out.size;omega)))
   clear HBl HV hlt hi
   go_wp2_with fail
   try go_ret
   rw[HP.out]
   exact⟨bs,by have:=HBs.out;omega,by rw[HLe.out];rfl,HFin.out,HVf.out⟩
end Go.Proofs.YtioehfhdoohdmaaGreatDoor
