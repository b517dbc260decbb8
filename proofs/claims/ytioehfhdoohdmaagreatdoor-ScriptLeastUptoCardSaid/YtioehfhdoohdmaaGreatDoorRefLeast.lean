/- guiseref14.Least, walked. Printed by gen_rleast.py. -/
import Derived.Test.YtioehfhdoohdmaaGreatDoorRefRuns
import Derived.Test.YtioehfhdoohdmaaGreatDoorLeastP
import Derived.Test.YtioehfhdoohdmaaGreatDoorBkAB
import Derived.Deep.OwnRows
set_option linter.unusedVariables false
set_option linter.unusedSimpArgs false
namespace Go.Proofs.YtioehfhdoohdmaaGreatDoor
open Go.RowKit Go.Shelf BigFrame
theorem make_zero (N:Nat) (hN:N≤1048577) (W:World):(Instr.makeSlice 40 (.int .i64 (N:Int)) (.int .i64 (N:Int))).run Tryz.prog W=.ok (.slice (some ⟨W.heap.size,0,none⟩) N N) (W.alloc (.cells (List.replicate N (.int .i64 0)).toArray 3)):=by
 obtain⟨i0,hi,hz0,hz1,hz2⟩:=info_parts info_int
 have h:=run_make_row (P:=Tryz.prog) 40 3 i0 (.int .i64 0) Tryz.underlying40 hi hz0 hz1 rfl .i64 .i64 N (by rw[hz2];omega) (by omega) W
 have e:madeCells #[(.int .i64 0:Value)] N=(List.replicate N (.int .i64 0:Value)).toArray:=by
  apply Array.ext_getElem?
  intro i
  by_cases hi:i<N
  ·simp[madeCells,hi,Nat.mod_one]
  ·rw[Array.getElem?_eq_none (by rw[size_madeCells];omega),Array.getElem?_eq_none (by simp;omega)]
 rw[e] at h
 exact h
set_option maxRecDepth 100000 in
set_option maxHeartbeats 8000000 in
theorem rleast_any (T:Tab) (a:TAddr) (s:ByteArray) (W:World) (h:TabAt W T a) (hs:s.size≤1048576) (hl:T.scripts.length≤1048576):Calls Tryz.prog 31 #[.agg (tabCells T a),.string s] W fun e w'=>e=.returned (.int .i64 (leastN T s (places s).length:Nat))∧Below W.heap.size W w':=by
 obtain⟨TT,hTT⟩:∃TT:Tab,TT=T:=⟨_,rfl⟩
 obtain⟨l0,l1,l2,l3,l4,l5,l6,l7⟩:=T
 obtain⟨o0,o1,o2,o3,o4,o5,o6,o7,c0,c1,c2,c3,c4,c5,c6,c7⟩:=a
 obtain⟨hT,HTb,hB1,hz⟩:=box1 h
 simp only[tabCells] at hT HTb hB1 hz hl ⊢
 rw[←hTT]
 obtain⟨W0,hW0⟩:∃W0,(W.alloc (.cells #[.slice o0 l0.length c0,.slice o1 l1.length c1,.slice o2 l2.length c2,.slice o3 l3.length c3,.slice o4 l4.length c4,.slice o5 l5.length c5,.slice o6 l6.length c6,.slice o7 l7.length c7] 28))=W0:=⟨_,rfl⟩
 rw[hW0] at hT HTb hB1 hz
 have HW0:=Lib.hid hW0
 have HB:=Lib.hid hB1
 have hsp:=rspots_any s W0 hs
 unfold SpotsPost at hsp
 obtain⟨ps,hps⟩:∃ps,places s=ps:=⟨_,rfl⟩
 have hpl:ps.length≤1048576:=by rw[←hps];exact Nat.le_trans scan_any_len hs
 have HMk:Hid (∀(W1:World),Below W0.heap.size W0 W1→∀(o:Option Addr) (l:List (Pl s)) (n c:Nat),l.length=n→n≤1048576→SpsAt W1 s o l→Calls Tryz.prog 53 #[.agg #[.slice o0 l0.length c0,.slice o1 l1.length c1,.slice o2 l2.length c2,.slice o3 l3.length c3,.slice o4 l4.length c4,.slice o5 l5.length c5,.slice o6 l6.length c6,.slice o7 l7.length c7],.slice o n c] W1 fun e w'=>e=.returned (.bool (mixB TT s l))∧Below W1.heap.size W1 w'):=Lib.hid (fun W1 h1 o l n c hn hn2 hsp=>by
  subst hn;rw[hTT];exact rmixed_any ⟨l0,l1,l2,l3,l4,l5,l6,l7⟩ ⟨o0,o1,o2,o3,o4,o5,o6,o7,c0,c1,c2,c3,c4,c5,c6,c7⟩ s l o c W1 (hT.below h1) hsp hn2 hl)
 have HTc:=Lib.hid HTb
 have HMr:Hid (∀i e,mixB TT s ((ps.drop i).take (e - i))=mixR TT s i e):=Lib.hid (fun i e=>by unfold mixR;rw[hps])
 have HL0:=Lib.hid (least_zero TT s)
 have HLe:=Lib.hid (least_le TT s)
 have HI0:Hid (∀e,0<e→InnR TT s e (e - 1) (leastN TT s (e - 1)+1)):=Lib.hid (fun e h=>inn_start TT s h)
 have HIb:Hid (∀e m cur,InnR TT s e (m+1) cur→e≤(places s).length→mixR TT s m e=true→cur=leastN TT s e):=Lib.hid (fun e m cur h=>inn_break h)
 have HIl:Hid (∀e m cur,InnR TT s e (m+1) cur→e≤(places s).length→m<e→mixR TT s m e=false→leastN TT s m+1<cur→InnR TT s e m (leastN TT s m+1)):=Lib.hid (fun e m cur h=>inn_less h)
 have HIk:Hid (∀e m cur,InnR TT s e (m+1) cur→e≤(places s).length→m<e→mixR TT s m e=false→¬ leastN TT s m+1<cur→InnR TT s e m cur):=Lib.hid (fun e m cur h=>inn_keep h)
 have HIe:Hid (∀e cur,InnR TT s e 0 cur→cur=leastN TT s e):=Lib.hid (fun e cur h=>inn_end h)
 have HIc:Hid (∀e m cur,InnR TT s e m cur→cur≤e):=Lib.hid (fun e m cur h=>h.2.1)
 rw[hps] at hsp HIb HIl HIk ⊢
 have HSp:=Lib.hid hsp
 obtain⟨f,hf⟩:∃f,leastN TT s=f:=⟨_,rfl⟩
 simp only[hf] at HL0 HLe HI0 HIb HIl HIk HIe ⊢
 obtain⟨mR,hmR⟩:∃g,mixR TT s=g:=⟨_,rfl⟩
 obtain⟨inn,hinn⟩:∃g,InnR TT s=g:=⟨_,rfl⟩
 simp only[hmR] at HMr HIb HIl HIk
 simp only[hinn] at HI0 HIb HIl HIk HIe HIc
 clear hmR hinn hf hT HTb hB1 hz h hW0 hsp hps hTT
 go_enter Tryz.func31,Tryz.ntmps31
 go_wp2_with fail
 rw[HW0.out]
 clear HW0
 (with_reducible refine Calls.mono HSp.out ?_)
 rintro e W1 ⟨v,rfl,ho,hB2⟩
 obtain⟨o,c,rfl,hnc,hcm,hrd,hoo⟩:=run_own4 ho
 have HPs:Hid (SpsAt W1 s o ps):=Lib.hid hrd
 have HB2:=Lib.hid hB2
 have HBW:=Lib.hid (HB.out.trans (hB2.mono HB.out.size))
 have HTc1:=Lib.hid (fun k v hv=>cell_bel hB2 (HTc.out k v hv))
 have hz1:W0.heap.size≤W1.heap.size:=hB2.size
 clear hrd ho hB2 HSp HTc HB
 have hcm2:c≤9223372036854775807:=hcm
 have HOo:=Lib.hid hoo
 clear hoo
 have hmk:=make_zero (ps.length+1) (by omega) W1
 have hpc:(((ps.length+1:Nat)):Int)=(ps.length:Int)+1:=by omega
 rw[hpc] at hmk
 have hst:=bestV_start f ps.length HL0.out
 rw[hst] at hmk
 have hpp:(0:Int)≤(ps.length:Int):=Int.natCast_nonneg _
 have HBl0:=Lib.hid (Blk.new W1 (bestV f ps.length 1 0) 3)
 have hal:Below W1.heap.size W1 (W1.alloc (.cells (bestV f ps.length 1 0).toArray 3)):=(Below.refl _ _).alloc (Nat.le_refl _) _
 have HAl:=Lib.hid hal
 clear hal hst
 go_wp2_with fail
 clear hmk
 obtain⟨bs,hbs⟩:∃b,W1.heap.size=b:=⟨_,rfl⟩
 rw[hbs] at HBl0 HAl ⊢
 generalize W1.alloc (.cells (bestV f ps.length 1 0).toArray 3)=W2 at *
 have HBs:=Lib.hid hbs
 clear hbs
 go_loopw [7] (fun v7 wr=>∃e:Nat,v7=.int .i64 e∧1≤e∧e≤ps.length+1∧Hid (Below bs W1 wr)∧Hid (Blk wr bs (bestV f ps.length e 0) 3)) (fun v7 _=>ps.length+1 - (intOf v7).toNat)
 case atStart=>exact⟨1,rfl,Nat.le_refl _,by omega,HAl,HBl0⟩
 case round=>
  clear HBl0 HAl
  obtain⟨e,rfl,he1,hen,HV,HBl⟩:=hrel
  have e0:(0:Int)≤(e:Int):=Int.natCast_nonneg _
  by_cases hlt:e≤ps.length
  ·have i1:(e:Int)≤(ps.length:Int):=by omega
   obtain⟨e',rfl⟩:∃k,e=k+1:=⟨e - 1,by omega⟩
   have g0:wr.cell? ⟨bs,e',none⟩=some (.int .i64 (f e':Nat)):=by rw[HBl.out.cell,bestV_get f _ _ (by omega),if_pos (by omega)]
   have g1:wr.cell? ⟨bs,e'+1,none⟩=some (.int .i64 (0:Nat)):=by rw[HBl.out.cell,bestV_get f _ _ hlt,if_neg (by omega),if_pos rfl]
   have f1:=HBl.out.frozen (e'+1)
   have hle:=HLe.out e'
   have ee:(((e'+1:Nat)):Int)=(e':Int)+1:=by omega
   rw[ee] at i1 e0
   simp only[ee]
   have e9:(0:Int)≤(e':Int):=Int.natCast_nonneg _
   have HP0:Hid (Blk (wr.setCell ⟨bs,e'+1,none⟩ (.int .i64 ((f e':Nat)+1))) bs (bestV f ps.length (e'+1) (f e'+1)) 3):=Lib.hid (by have hb:=HBl.out.set (e'+1) (.int .i64 ((f e'+1:Nat):Int));rw[bestV_set f _ _ hlt] at hb;exact hb)
   have HV0:Hid (Below bs W1 (wr.setCell ⟨bs,e'+1,none⟩ (.int .i64 ((f e':Nat)+1)))):=Lib.hid (HV.out.setCell (Nat.le_refl _) _)
   have HN0:Hid (inn (e'+1) (((e':Int)+1 - 2+1).toNat) (f e'+1)):=Lib.hid (by rw[show ((e':Int)+1 - 2+1).toNat=e' by omega];have:=HI0.out (e'+1) (by omega);rwa [Nat.add_sub_cancel] at this)
   obtain⟨g,off,ho,_,q1,_,_⟩:=SpsAt.row HPs.out (show 0<ps.length by omega)
   subst ho
   have hof:off=0:=(HOo.out _ rfl).2.2.1
   subst hof
   clear q1
   go_wp2_with fail
   go_loopw [8] (fun v8 wi=>∃(x:Int) (cur:Nat),v8=.int .i64 x∧-1≤x∧x<(e':Int)∧Hid (Below bs W1 wi)∧Hid (Blk wi bs (bestV f ps.length (e'+1) cur) 3)∧Hid (inn (e'+1) (x+1).toNat cur)) (fun v8 _=>(intOf v8+1).toNat)
   case atStart=>exact⟨_,f e'+1,rfl,by omega,by omega,HV0,HP0,HN0⟩
   case round=>
    clear HV0 HP0 HN0 HV HBl g0 g1 f1
    obtain⟨x,cur,rfl,hx0,hx1,HV,HBl,HN⟩:=hrel
    by_cases hx:0≤x
    ·obtain⟨m,rfl⟩:∃m:Nat,x=(m:Int):=⟨x.toNat,by omega⟩
     have hN:=HN.out
     rw[show ((m:Int)+1).toNat=m+1 by omega] at hN
     have HN:=Lib.hid hN
     have hcur:=HIc.out _ _ _ hN
     have hfm:=HLe.out m
     clear hN
     have t0:∀y:WC wr,y.w.cell? ⟨W.heap.size,0,none⟩=some (.slice o0 l0.length c0):=WC.cell (cell_bel (by have h:=HV.out;rw[←HBs.out] at h;exact h) (HTc1.out 0 (.slice o0 l0.length c0) rfl))
     have t1:∀y:WC wr,y.w.cell? ⟨W.heap.size,1,none⟩=some (.slice o1 l1.length c1):=WC.cell (cell_bel (by have h:=HV.out;rw[←HBs.out] at h;exact h) (HTc1.out 1 (.slice o1 l1.length c1) rfl))
     have t2:∀y:WC wr,y.w.cell? ⟨W.heap.size,2,none⟩=some (.slice o2 l2.length c2):=WC.cell (cell_bel (by have h:=HV.out;rw[←HBs.out] at h;exact h) (HTc1.out 2 (.slice o2 l2.length c2) rfl))
     have t3:∀y:WC wr,y.w.cell? ⟨W.heap.size,3,none⟩=some (.slice o3 l3.length c3):=WC.cell (cell_bel (by have h:=HV.out;rw[←HBs.out] at h;exact h) (HTc1.out 3 (.slice o3 l3.length c3) rfl))
     have t4:∀y:WC wr,y.w.cell? ⟨W.heap.size,4,none⟩=some (.slice o4 l4.length c4):=WC.cell (cell_bel (by have h:=HV.out;rw[←HBs.out] at h;exact h) (HTc1.out 4 (.slice o4 l4.length c4) rfl))
     have t5:∀y:WC wr,y.w.cell? ⟨W.heap.size,5,none⟩=some (.slice o5 l5.length c5):=WC.cell (cell_bel (by have h:=HV.out;rw[←HBs.out] at h;exact h) (HTc1.out 5 (.slice o5 l5.length c5) rfl))
     have t6:∀y:WC wr,y.w.cell? ⟨W.heap.size,6,none⟩=some (.slice o6 l6.length c6):=WC.cell (cell_bel (by have h:=HV.out;rw[←HBs.out] at h;exact h) (HTc1.out 6 (.slice o6 l6.length c6) rfl))
     have t7:∀y:WC wr,y.w.cell? ⟨W.heap.size,7,none⟩=some (.slice o7 l7.length c7):=WC.cell (cell_bel (by have h:=HV.out;rw[←HBs.out] at h;exact h) (HTc1.out 7 (.slice o7 l7.length c7) rfl))
     have HV1:Hid (Below W1.heap.size W1 wr):=Lib.hid (by have h:=HV.out;rw[←HBs.out] at h;exact h)
     have HPw:=Lib.hid (HPs.out.below HV1.out)
     have hWw:Hid (Below W0.heap.size W0 wr):=Lib.hid (HB2.out.trans (HV1.out.mono HB2.out.size))
     have K0:Hid (∀(y:WC wr),Calls Tryz.prog 53 #[.agg #[.slice o0 l0.length c0,.slice o1 l1.length c1,.slice o2 l2.length c2,.slice o3 l3.length c3,.slice o4 l4.length c4,.slice o5 l5.length c5,.slice o6 l6.length c6,.slice o7 l7.length c7],.slice (some ⟨g,m*4,none⟩) (e'+1 - m) (c - m)] y.w fun e w'=>e=.returned (.bool (mR m (e'+1)))∧∃z:WC wr,w'=z.w):=Lib.hid (fun y=>by rw[←HMr.out m (e'+1)];exact WC.call (HMk.out y.w (hWw.out.trans (y.h.mono hWw.out.size)) _ _ (e'+1 - m) (c - m) (by rw[List.length_take,List.length_drop];omega) (by omega) (by have:=sps_sub (HPw.out.below y.h) m (e'+1 - m);rw[Nat.zero_add] at this;exact this)))
     have k1:((e':Int)+1 - (m:Int))=((e'+1 - m:Nat):Int):=by omega
     have hcc:¬ c=m:=by omega
     obtain⟨mb,hmb⟩:∃b,mR m (e'+1)=b:=⟨_,rfl⟩
     rw[hmb] at K0
     have HMb:=Lib.hid hmb
     clear hmb
     have hme:(m:Int)≤(e':Int)+1:=by omega
     cases mb with
     | true=>
      go_upto_region 10 with fail
      refine wp_region_wc (W0:=wr) (by kernel_rfl) (by kernel_rfl) (Below.refl _ _) ?_
      repeat (first | go_big_quiet_step (((go_at_call 53;(with_reducible exact K0.out _)))) | quiet_step (((go_at_call 53;(with_reducible exact K0.out _)))))
      refine wpQuiet_nil ?_
      rintro _ ⟨y1,rfl⟩
      have HFin:Hid (Blk y1.w bs (bestV f ps.length (e'+2) 0) 3):=Lib.hid (by have hb:=HBl.out.keep (Keep.of_below y1.h (fun _=>False)) (by simp);rw[bestV_next f (HIb.out _ _ _ HN.out hlt HMb.out)] at hb;exact hb)
      have HVf:Hid (Below bs W1 y1.w):=Lib.hid (HV.out.trans (y1.h.mono (by have:=HV.out.size;have:=HBs.out;omega)))
      go_wp2_with fail
      exact⟨⟨e'+2,by go_num,by omega,by omega,HVf,HFin⟩,by simp[intOf];omega⟩
     | false=>
      have g0:∀y:WC wr,y.w.cell? ⟨bs,m,none⟩=some (.int .i64 (f m:Nat)):=WC.cell (by rw[HBl.out.cell,bestV_get f _ _ (by omega),if_pos (by omega)])
      have g1:∀y:WC wr,y.w.cell? ⟨bs,e'+1,none⟩=some (.int .i64 (cur:Nat)):=WC.cell (by rw[HBl.out.cell,bestV_get f _ _ hlt,if_neg (by omega),if_pos rfl])
      go_upto_region 10 with fail
      refine wp_region_wc (W0:=wr) (by kernel_rfl) (by kernel_rfl) (Below.refl _ _) ?_
      repeat (first | go_big_quiet_step (((go_at_call 53;(with_reducible exact K0.out _)))) | quiet_step (((go_at_call 53;(with_reducible exact K0.out _)))))
      refine wpQuiet_nil ?_
      rintro _ ⟨y1,rfl⟩
      by_cases hd:f m+1<cur
      ·have hd1:decide (((f m:Nat):Int)+1<(cur:Int))=true:=by rw[decide_eq_true_iff];omega
       go_upto_region 11 with fail
       refine wp_region_wc (W0:=wr) (by kernel_rfl) (by kernel_rfl) y1.h ?_
       repeat (first | go_big_quiet_step ((fail)) | quiet_step ((fail)))
       refine wpQuiet_nil ?_
       rintro _ ⟨y2,rfl⟩
       have hb2:=HBl.out.keep (Keep.of_below y2.h (fun _=>False)) (by simp)
       have g2:=g0 y2
       have g3:=g1 y2
       have f3:=hb2.frozen (e'+1)
       have HFin:Hid (Blk (y2.w.setCell ⟨bs,e'+1,none⟩ (.int .i64 ((f m:Nat)+1))) bs (bestV f ps.length (e'+1) (f m+1)) 3):=Lib.hid (by have hb:=hb2.set (e'+1) (.int .i64 ((f m+1:Nat):Int));rw[bestV_set f _ _ hlt] at hb;exact hb)
       have HVf:Hid (Below bs W1 (y2.w.setCell ⟨bs,e'+1,none⟩ (.int .i64 ((f m:Nat)+1)))):=Lib.hid ((HV.out.trans (y2.h.mono (by have:=HV.out.size;have:=HBs.out;omega))).setCell (Nat.le_refl _) _)
       have HNf:Hid (inn (e'+1) (((m:Int) - 1+1).toNat) (f m+1)):=Lib.hid (by rw[show ((m:Int) - 1+1).toNat=m by omega];exact HIl.out _ _ _ HN.out hlt (by omega) HMb.out hd)
       clear hb2
       go_wp2_with fail
       exact⟨⟨_,f m+1,rfl,by omega,by omega,HVf,HFin,HNf⟩,by simp[intOf]⟩
      ·have hd1:decide (((f m:Nat):Int)+1<(cur:Int))=false:=by rw[decide_eq_false_iff_not];omega
       go_upto_region 11 with fail
       refine wp_region_wc (W0:=wr) (by kernel_rfl) (by kernel_rfl) y1.h ?_
       repeat (first | go_big_quiet_step ((fail)) | quiet_step ((fail)))
       refine wpQuiet_nil ?_
       rintro _ ⟨y2,rfl⟩
       have HFin:Hid (Blk y2.w bs (bestV f ps.length (e'+1) cur) 3):=Lib.hid (HBl.out.keep (Keep.of_below y2.h (fun _=>False)) (by simp))
       have HVf:Hid (Below bs W1 y2.w):=Lib.hid (HV.out.trans (y2.h.mono (by have:=HV.out.size;have:=HBs.out;omega)))
       have HNf:Hid (inn (e'+1) (((m:Int) - 1+1).toNat) cur):=Lib.hid (by rw[show ((m:Int) - 1+1).toNat=m by omega];exact HIk.out _ _ _ HN.out hlt (by omega) HMb.out hd)
       go_wp2_with fail
       exact⟨⟨_,cur,rfl,by omega,by omega,HVf,HFin,HNf⟩,by simp[intOf]⟩
    ·obtain rfl:x=-1:=by omega
     have HFin:Hid (Blk wr bs (bestV f ps.length (e'+2) 0) 3):=Lib.hid (by have hb:=HBl.out;rw[bestV_next f (HIe.out _ _ HN.out)] at hb;exact hb)
     go_wp2_with fail
     exact⟨⟨e'+2,by go_num,by omega,by omega,HV,HFin⟩,by simp[intOf];omega⟩
  ·obtain rfl:e=ps.length+1:=by omega
   have g0:wr.cell? ⟨bs,ps.length,none⟩=some (.int .i64 (f ps.length:Nat)):=by rw[HBl.out.cell,bestV_get f _ _ (Nat.le_refl _),if_pos (by omega)]
   have ee:(((ps.length+1:Nat)):Int)=(ps.length:Int)+1:=by omega
   simp only[ee]
   have HVf:Hid (Below W.heap.size W wr):=Lib.hid (HBW.out.trans ((by have h:=HV.out;rw[←HBs.out] at h;exact h:Below W1.heap.size W1 wr).mono HBW.out.size))
   clear hlt hen
   go_wp2_with fail
   go_ret
   exact⟨rfl,HVf.out⟩
end Go.Proofs.YtioehfhdoohdmaaGreatDoor
