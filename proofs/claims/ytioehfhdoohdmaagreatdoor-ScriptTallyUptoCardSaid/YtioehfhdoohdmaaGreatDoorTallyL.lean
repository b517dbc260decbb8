/- The law ScriptTally, walked. Printed by gen_tally14.py. -/
import Derived.Test.YtioehfhdoohdmaaGreatDoorKnownA
import Derived.Test.YtioehfhdoohdmaaGreatDoorFewB
import Derived.Test.YtioehfhdoohdmaaGreatDoorRefTally
import Derived.Test.YtioehfhdoohdmaaGreatDoorTally
import Derived.Test.YtioehfhdoohdmaaGreatDoorBookShareI
set_option linter.unusedVariables false
set_option linter.unusedSimpArgs false
namespace Go.Proofs.YtioehfhdoohdmaaGreatDoor.scriptTally
open Go.RowKit Go.Shelf BigFrame
set_option maxRecDepth 100000 in
set_option maxHeartbeats 40000000 in
theorem walk (T:Tab) (a:TAddr) (s:ByteArray) (W:World) (h:TabAt W T a) (hz:Lib.Utf8Tabs 0 1 W) (hr:TabRoom T) (hs:s.size≤1048576):Calls Tryz.prog 9 #[.agg (tabCells T a),.string s] W fun e w'=>e=.returned (.bool true)∧Below W.heap.size W w':=by
 obtain⟨hT,HTb,hB,hz0⟩:=box1 h
 obtain⟨TT,hTT⟩:∃TT:Tab,T=TT:=⟨_,rfl⟩
 have HPo:Hid (∀(W1:World),Below W.heap.size W W1→Calls Tryz.prog 11 #[.agg (tabCells T a)] W1 (OfPost W1 TT)):=Lib.hid (fun W1 h1=>by rw[←hTT];exact keepOf_any T a W1 (h.below h1) (tabs_below hz h1) hr)
 have HKn:Hid (∀(W1:World),Below W.heap.size W W1→Calls Tryz.prog 12 #[] W1 (fun e w'=>e=.returned (.bool true)∧Below W1.heap.size W1 w')):=Lib.hid (fun W1 h1=>known_any W1 (tabs_below hz h1))
 have HFit:Hid (upB TT=true→TabFit TT):=Lib.hid (fun hu=>by rw[←hTT] at hu ⊢;exact hr.fit (by cases hl:largeB T with | false=>rfl | true=>simp[upB,hl] at hu))
 have HZ:=Lib.hid hz
 obtain⟨l0,l1,l2,l3,l4,l5,l6,l7⟩:=T
 obtain⟨o0,o1,o2,o3,o4,o5,o6,o7,c0,c1,c2,c3,c4,c5,c6,c7⟩:=a
 simp only[tabCells] at hT HTb hB hz0 HPo ⊢
 obtain⟨W0,hW0⟩:∃W0,(W.alloc (.cells #[.slice o0 l0.length c0,.slice o1 l1.length c1,.slice o2 l2.length c2,.slice o3 l3.length c3,.slice o4 l4.length c4,.slice o5 l5.length c5,.slice o6 l6.length c6,.slice o7 l7.length c7] 28))=W0:=⟨_,rfl⟩
 rw[hW0] at hT HTb hB hz0
 have HW0:=Lib.hid hW0
 have HB:=Lib.hid hB
 have t0:=HTb 0 (.slice o0 l0.length c0) rfl
 have t1:=HTb 1 (.slice o1 l1.length c1) rfl
 have t2:=HTb 2 (.slice o2 l2.length c2) rfl
 have t3:=HTb 3 (.slice o3 l3.length c3) rfl
 have t4:=HTb 4 (.slice o4 l4.length c4) rfl
 have t5:=HTb 5 (.slice o5 l5.length c5) rfl
 have t6:=HTb 6 (.slice o6 l6.length c6) rfl
 have t7:=HTb 7 (.slice o7 l7.length c7) rfl
 have HTq:=Lib.hid hT
 have HCq:=Lib.hid HTb
 clear hT HTb hB hz0 h hW0 hz hr
 have HTT:=Lib.hid hTT
 clear hTT
 go_enter Tryz.func9,Tryz.ntmps9
 go_wp2_with fail
 rw[HW0.out]
 clear HW0
 (with_reducible refine Calls.mono (HPo.out _ HB.out) ?_)
 rintro e w2 ⟨hB2,hrest⟩
 clear HPo t0 t1 t2 t3 t4 t5 t6 t7
 have HBz:=Lib.hid hB2
 have HB2:=Lib.hid (HB.out.trans (hB2.mono HB.out.size))
 clear hB2
 rcases hrest with ⟨hu,rfl⟩ | ⟨hu,bb,B,rfl,hbk,_⟩
 ·clear hu HFit
  go_wp2_with fail
  (with_reducible refine Calls.mono (HKn.out _ HB2.out) ?_)
  rintro e w3 ⟨rfl,hB3⟩
  have HB3:=Lib.hid (HB2.out.trans (hB3.mono HB2.out.size))
  clear hB3 HKn
  go_wp2_with fail
  go_ret
  exact⟨rfl,HB3.out⟩
 have HFt:=Lib.hid (HFit.out hu)
 have HBk:Hid (∀W1,Below w2.heap.size w2 W1→BookAt W1 bb B TT):=Lib.hid (fun W1 h1=>hbk.below h1)
 have HBW:Hid (∀W1,Below w2.heap.size w2 W1→Below W.heap.size W W1):=Lib.hid (fun W1 h1=>HB2.out.trans (h1.mono HB2.out.size))
 clear hu hbk HFit HB
 have HTb:Hid (∀W1,Below w2.heap.size w2 W1→Lib.Utf8Tabs 0 1 W1):=Lib.hid (fun W1 h1=>tabs_below HZ.out (HBW.out _ h1))
 have HKn2:Hid (∀(W1:World),Below w2.heap.size w2 W1→Calls Tryz.prog 12 #[] W1 (fun e w'=>e=.returned (.bool true)∧Below w2.heap.size w2 w')):=Lib.hid (fun W1 h1=>(HKn.out W1 (HBW.out _ h1)).mono fun e w' hh=>⟨hh.1,h1.trans (hh.2.mono h1.size)⟩)
 have HStop:Hid (∀(x:ByteArray) (W1:World),x.size≤1048576→Below w2.heap.size w2 W1→Calls Tryz.prog 19 #[.pointer (some ⟨bb,0,none⟩),.string x] W1 (fun e w'=>e=.returned (stopV (stopN TT x))∧Below w2.heap.size w2 w')):=Lib.hid (fun x W1 hx h1=>(sstop_any TT bb B x W1 (HBk.out _ h1) HFt.out hx).mono fun e w' hh=>⟨hh.1,h1.trans (hh.2.mono h1.size)⟩)
 have HSof:Hid (∀(x:ByteArray) (W1:World),x.size≤1048576→Below w2.heap.size w2 W1→Calls Tryz.prog 15 #[.pointer (some ⟨bb,0,none⟩),.string x] W1 (fun e w'=>∃(g c:Nat),e=.returned (.slice (some ⟨g,0,none⟩) (foldO TT x (places x)).length c)∧w'.ownsRow W1.heap.size 3 1 (.slice (some ⟨g,0,none⟩) (foldO TT x (places x)).length c) (foldO TT x (places x)).length (iV (foldO TT x (places x)))∧Below w2.heap.size w2 w'∧Below W1.heap.size W1 w')):=Lib.hid (fun x W1 hx h1=>(sof_any TT bb B x W1 (HBk.out _ h1) HFt.out hx).mono fun e w' hh=>by obtain⟨g,c,he,ho,hb⟩:=hh;exact⟨g,c,he,ho,h1.trans (hb.mono h1.size),hb⟩)
 have HLn:Hid (∀x:ByteArray,(foldO TT x (places x)).length≤1048576):=Lib.hid (fun x=>Nat.le_trans (foldO_len TT x _) HFt.out.l0)
 have HBk0:=HBk
 clear HKn HBk
 have HTl:Hid (∀W1,Below w2.heap.size w2 W1→TabAt W1 ⟨l0,l1,l2,l3,l4,l5,l6,l7⟩ ⟨o0,o1,o2,o3,o4,o5,o6,o7,c0,c1,c2,c3,c4,c5,c6,c7⟩):=Lib.hid (fun W1 h1=>HTq.out.below (HBz.out.trans (h1.mono HBz.out.size)))
 have HX0:Hid (∀W1,Below w2.heap.size w2 W1→W1.cell? ⟨W.heap.size,0,none⟩=some (.slice o0 l0.length c0)):=Lib.hid (fun W1 h1=>cell_bel (HBz.out.trans (h1.mono HBz.out.size)) (HCq.out 0 (.slice o0 l0.length c0) rfl))
 have HX1:Hid (∀W1,Below w2.heap.size w2 W1→W1.cell? ⟨W.heap.size,1,none⟩=some (.slice o1 l1.length c1)):=Lib.hid (fun W1 h1=>cell_bel (HBz.out.trans (h1.mono HBz.out.size)) (HCq.out 1 (.slice o1 l1.length c1) rfl))
 have HX2:Hid (∀W1,Below w2.heap.size w2 W1→W1.cell? ⟨W.heap.size,2,none⟩=some (.slice o2 l2.length c2)):=Lib.hid (fun W1 h1=>cell_bel (HBz.out.trans (h1.mono HBz.out.size)) (HCq.out 2 (.slice o2 l2.length c2) rfl))
 have HX3:Hid (∀W1,Below w2.heap.size w2 W1→W1.cell? ⟨W.heap.size,3,none⟩=some (.slice o3 l3.length c3)):=Lib.hid (fun W1 h1=>cell_bel (HBz.out.trans (h1.mono HBz.out.size)) (HCq.out 3 (.slice o3 l3.length c3) rfl))
 have HX4:Hid (∀W1,Below w2.heap.size w2 W1→W1.cell? ⟨W.heap.size,4,none⟩=some (.slice o4 l4.length c4)):=Lib.hid (fun W1 h1=>cell_bel (HBz.out.trans (h1.mono HBz.out.size)) (HCq.out 4 (.slice o4 l4.length c4) rfl))
 have HX5:Hid (∀W1,Below w2.heap.size w2 W1→W1.cell? ⟨W.heap.size,5,none⟩=some (.slice o5 l5.length c5)):=Lib.hid (fun W1 h1=>cell_bel (HBz.out.trans (h1.mono HBz.out.size)) (HCq.out 5 (.slice o5 l5.length c5) rfl))
 have HX6:Hid (∀W1,Below w2.heap.size w2 W1→W1.cell? ⟨W.heap.size,6,none⟩=some (.slice o6 l6.length c6)):=Lib.hid (fun W1 h1=>cell_bel (HBz.out.trans (h1.mono HBz.out.size)) (HCq.out 6 (.slice o6 l6.length c6) rfl))
 have HX7:Hid (∀W1,Below w2.heap.size w2 W1→W1.cell? ⟨W.heap.size,7,none⟩=some (.slice o7 l7.length c7)):=Lib.hid (fun W1 h1=>cell_bel (HBz.out.trans (h1.mono HBz.out.size)) (HCq.out 7 (.slice o7 l7.length c7) rfl))
 clear HTq HCq HBz
 have hfz:=fewB_size s 3000
 have hfw:=few14_any s 3000 w2 hs (by omega)
 generalize fewB s 3000=t at *
 have HFw:=Lib.hid hfw
 clear hfw
 have ht:t.size≤1048576:=by omega
 have hl1:l0.length≤1048576:=by have h:=HFt.out.l0;rw[←HTT.out] at h;exact h
 have hll:TT.scripts.length=l0.length:=by rw[←HTT.out]
 have R1:Hid (∀(W1:World),Below w2.heap.size w2 W1→Calls Tryz.prog 37 #[.agg #[.slice o0 l0.length c0,.slice o1 l1.length c1,.slice o2 l2.length c2,.slice o3 l3.length c3,.slice o4 l4.length c4,.slice o5 l5.length c5,.slice o6 l6.length c6,.slice o7 l7.length c7],.string t] W1 (RTPost W1 (tallyR TT t))):=Lib.hid (fun W1 h1=>by rw[←HTT.out];exact rtally_any ⟨l0,l1,l2,l3,l4,l5,l6,l7⟩ ⟨o0,o1,o2,o3,o4,o5,o6,o7,c0,c1,c2,c3,c4,c5,c6,c7⟩ t W1 (HTl.out W1 h1) ht hl1)
 have Q1:Hid (∀(W1:World),Below w2.heap.size w2 W1→Calls Tryz.prog 38 #[.pointer (some ⟨bb,0,none⟩),.string t] W1 (TalPost W1 (sharesL TT t))):=Lib.hid (fun W1 h1=>stally_any TT bb B t W1 (HBk0.out _ h1) HFt.out ht)
 have hrl:=tallyR_len TT t
 rw[hll] at hrl
 have HWn:=Lib.hid (bookShare.wantL_next TT t)
 have HWa:Hid (bookShare.wantL TT t l0.length=sharesL TT t):=Lib.hid (by rw[←hll];exact bookShare.wantL_all TT t)
 have HWl:=Lib.hid (bookShare.wantL_len TT t)
 have HSl:Hid ((sharesL TT t).length≤1048576):=Lib.hid (by rw[←HWa.out];exact Nat.le_trans (HWl.out _) hl1)
 have HGt:Hid (∀i,i<l0.length→(iV (tallyR TT t))[i]?=some (.int .i64 (cntN TT t (places t) i:Nat))):=Lib.hid (fun i hi=>by rw[←hll] at hi;unfold iV tallyR;rw[List.getElem?_map,List.getElem?_map,List.getElem?_range hi];rfl)
 have HCn:Hid (∀i,cntN TT t (places t) i≤1048576):=Lib.hid (fun i=>Nat.le_trans (cntN_le _ _ _ _) (Nat.le_trans scan_any_len ht))
 obtain⟨cn,hcn⟩:∃f,cntN TT t (places t)=f:=⟨_,rfl⟩
 have HW0e:Hid (bookShare.wantL TT t 0=[]):=Lib.hid rfl
 simp only[hcn] at HGt HCn HWn
 generalize bookShare.wantL TT t=wl at *
 generalize tallyR TT t=tr at *
 generalize sharesL TT t=sh at *
 obtain⟨i0_,hi_,hzi0,hzi1,hzi2⟩:=info_parts info_share
 have HIn:=Lib.hid (And.intro hi_ (And.intro hzi0 (And.intro hzi1 hzi2)))
 clear hi_ hzi0 hzi1 hzi2 hll HSof HStop HLn HTl HBk0 HTT hcn
 go_wp2_with fail
 (with_reducible refine Calls.mono HFw.out ?_)
 rintro e w3 ⟨rfl,rfl⟩
 clear HFw
 have t0:=HX0.out w2 (Below.refl _ _)
 have t1:=HX1.out w2 (Below.refl _ _)
 have t2:=HX2.out w2 (Below.refl _ _)
 have t3:=HX3.out w2 (Below.refl _ _)
 have t4:=HX4.out w2 (Below.refl _ _)
 have t5:=HX5.out w2 (Below.refl _ _)
 have t6:=HX6.out w2 (Below.refl _ _)
 have t7:=HX7.out w2 (Below.refl _ _)
 have K1:=Lib.hid (R1.out w2 (Below.refl _ _))
 clear R1
 go_wp2_with fail
 (with_reducible refine Calls.mono K1.out ?_)
 rintro e w4 ⟨bc,hbc,rfl,hbl,hB4⟩
 rw[hrl]
 have HBl:=Lib.hid hbl
 have HB4:=Lib.hid hB4
 have hbl4:bc<w4.heap.size:=hbl.lt
 clear hbl hB4 K1 t0 t1 t2 t3 t4 t5 t6 t7 HX0 HX1 HX2 HX3 HX4 HX5 HX6 HX7
 go_wp2_with fail
 go_loopw [9,10] (fun v9 v10 wr=>∃i:Nat,v10=.int .i64 i∧i≤l0.length∧Hid (Below w4.heap.size w4 wr)∧Hid (wr.ownsRow w4.heap.size 85 2 v9 (wl i).length ((wl i).flatMap shV))) (fun _ v10 _=>l0.length - (intOf v10).toNat)
 case atStart=>exact⟨0,rfl,Nat.zero_le _,Lib.hid (Below.refl _ _),Lib.hid (by rw[HW0e.out];exact own_nil _ _ _ _)⟩
 case round=>
  obtain⟨i,rfl,hi,HV,HRow⟩:=hrel
  have i0:(0:Int)≤(i:Int):=Int.natCast_nonneg _
  by_cases hlt:i<l0.length
  ·have i1:(i:Int)<(l0.length:Int):=by omega
   have hcb:=HCn.out i
   have hnx:=HWn.out i
   have g0:wr.cell? ⟨bc,i,none⟩=some (.int .i64 (cn i:Nat)):=cell_bel HV.out (by rw[HBl.out.cell];exact HGt.out i hlt)
   obtain⟨q,hq⟩:∃q,cn i=q:=⟨_,rfl⟩
   rw[hq] at hcb hnx g0
   have hwl:=HWl.out i
   have HNx:=Lib.hid hnx
   clear hnx hq
   by_cases hq0:0<q
   ·have d1:decide ((0:Int)<(q:Int))=true:=by rw[decide_eq_true_iff];omega
    have HN2:Hid (wl (i+1)=wl i++[(i,q)]):=Lib.hid (by rw[HNx.out,if_pos hq0])
    obtain⟨acc,hacc⟩:∃acc,wl i=acc:=⟨_,rfl⟩
    have hrow:=HRow.out
    rw[hacc] at hrow HN2 hwl
    have hz:=HV.out.size
    obtain⟨hi1,hi2,hi3,hi4⟩:=HIn.out
    clear hacc HRow HNx
    go_wp2_with (at_builtin;refine wpList_append_own _ rfl _ _ 83 rfl w4.heap.size 85 i0_ _ 2 16 Tryz.underlying83 hi1 hi2 hi3 hi4 rfl (by decide) _ acc.length (acc.flatMap shV) rfl (hrow.alloc _) ⟨wr.heap.size,0,none⟩ 1 1 [.int .i64 i,.int .i64 (q:Nat)] rfl rfl (new_cells _ _ (by simp) [.int .i64 i,.int .i64 (q:Nat)] _) (by simp[Value.oneCell']) (by unfold maxLen;omega) (by omega) (by simp;omega) ?_;intro v' w5 hown' hgrow _)
    exact⟨⟨i+1,by go_num,by omega,Lib.hid ((HV.out.alloc hz _).grown hgrow (by simp;omega) (fun b e=>by have:=(hrow.lt b e).1;omega)),Lib.hid (by rw[HN2.out,List.length_append,List.flatMap_append];exact hown')⟩,by simp[intOf];omega⟩
   ·have d1:decide ((0:Int)<(q:Int))=false:=by rw[decide_eq_false_iff_not];omega
    have HN2:Hid (wl (i+1)=wl i):=Lib.hid (by rw[HNx.out,if_neg hq0])
    have HR2:Hid _:=HRow
    clear HNx
    go_wp2_with fail
    exact⟨⟨i+1,by go_num,by omega,HV,Lib.hid (by rw[HN2.out];exact HRow.out)⟩,by simp[intOf];omega⟩
  ·obtain rfl:i=l0.length:=by omega
   have hrow:=HRow.out
   rw[HWa.out] at hrow
   obtain⟨wo,wc,hwv,hwo,hwb⟩:=bookShare.share_own hrow
   subst hwv
   have HWo:=Lib.hid hwo
   clear hwo hrow HRow hlt hi i0 HWn HWa HWl HGt HCn HW0e HBl hwb
   generalize wr=w6 at *
   have HAl:=Lib.hid ((Below.refl _ w6).alloc (Nat.le_refl _) (.cells #[.slice none 0 0,.slice none 0 0,.int .i64 0,.bool false] 89))
   have H0:=Lib.hid (bookShare.book_new w6)
   go_wp2_with fail
   generalize w6.alloc (.cells #[.slice none 0 0,.slice none 0 0,.int .i64 0,.bool false] 89)=w5 at *
   go_loopw [12,13] (fun v12 v13 wi=>∃i:Nat,v12=.int .i64 i∧i≤2∧Hid (bookShare.BookIn w6 wi w6.heap.size i)∧Hid (Below w6.heap.size w6 wi)) (fun v12 _ _=>2 - (intOf v12).toNat)
   case atStart=>exact⟨0,rfl,Nat.zero_le _,H0,HAl⟩
   case round=>
    clear H0 HAl
    obtain⟨i,rfl,hi,HK,HW⟩:=hrel
    have i0:(0:Int)≤(i:Int):=Int.natCast_nonneg _
    have HW2:Hid (Below w2.heap.size w2 wr):=Lib.hid (HB4.out.trans ((HV.out.trans (HW.out.mono HV.out.size)).mono HB4.out.size))
    by_cases hlt:i<2
    ·have i1:(i:Int)<2:=by omega
     have K1:=Lib.hid (Q1.out wr HW2.out)
     go_wp2_with fail
     (with_reducible refine Calls.mono K1.out ?_)
     rintro e w7 ⟨v7,rfl,ho7,hB7⟩
     obtain⟨o7,c7q,hv7,hO7,hf7⟩:=bookShare.share_own ho7
     subst hv7
     have hsm:=bookShare.same_any w7 o7 wo c7q wc (sh.map bookShare.cel) hO7 (HWo.out.below (HW.out.trans (hB7.mono HW.out.size)))
     rw[List.length_map] at hsm
     have HSm:=Lib.hid hsm
     have HO7:=Lib.hid hO7
     have HF7:=Lib.hid hf7
     have HB7:=Lib.hid hB7
     clear hsm hO7 hf7 ho7 hB7 K1
     go_wp2_with fail
     (with_reducible refine Calls.mono HSm.out ?_)
     rintro e w' ⟨rfl,k7,rfl⟩
     clear HSm
     have hB78:Below w7.heap.size w7 (w7.drewN k7):=drewN_below w7 k7
     generalize w7.drewN k7=w8 at *
     have hkp:=bookShare.book_keep HK.out (by omega) (HB7.out.trans (hB78.mono HB7.out.size)) (HO7.out.below hB78) HF7.out (by rw[List.length_map];exact HSl.out)
     rw[List.length_map] at hkp
     have HKp:=Lib.hid hkp
     clear hkp hB78
     go_wp2_with fail
     (with_reducible refine Calls.mono HKp.out ?_)
     rintro e w9 ⟨⟨v9,rfl⟩,hb9⟩
     have HN:Hid (bookShare.BookIn w6 w9 w6.heap.size (i+1)):=Lib.hid hb9
     have HW9:Hid (Below w6.heap.size w6 w9):=Lib.hid hb9.below
     clear hb9 HKp
     go_wp2_with fail
     exact⟨⟨i+1,by go_num,by omega,HN,HW9⟩,by simp[intOf];omega⟩
    ·obtain rfl:i=2:=by omega
     clear hi hlt i0
     have K1:=Lib.hid (bookShare.book_apart HK.out)
     clear Q1 HWo
     go_wp2_with fail
     (with_reducible refine Calls.mono K1.out ?_)
     rintro e w10 ⟨rfl,hB10⟩
     have K2:=Lib.hid (HKn2.out w10 (HB4.out.trans ((HV.out.trans (hB10.mono HV.out.size)).mono HB4.out.size)))
     clear K1 hB10
     go_wp2_with fail
     (with_reducible refine Calls.mono K2.out ?_)
     rintro e w11 ⟨rfl,hB11⟩
     have HFin:=Lib.hid (HBW.out _ hB11)
     clear K2 hB11
     go_wp2_with fail
     try go_ret
     exact⟨rfl,HFin.out⟩
end Go.Proofs.YtioehfhdoohdmaaGreatDoor.scriptTally
