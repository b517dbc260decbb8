/- The law ScriptRuns, walked. Printed by gen_runs14.py. -/
import Derived.Test.YtioehfhdoohdmaaGreatDoorKnownA
import Derived.Test.YtioehfhdoohdmaaGreatDoorRunsIt
import Derived.Test.YtioehfhdoohdmaaGreatDoorRefRuns
import Derived.Test.YtioehfhdoohdmaaGreatDoorRunsB
import Derived.Test.YtioehfhdoohdmaaGreatDoorRunsS
import Derived.Test.YtioehfhdoohdmaaGreatDoorRunsK
import Derived.Test.YtioehfhdoohdmaaGreatDoorTabA
import Derived.Deep.LoopGhost
set_option linter.unusedVariables false
set_option linter.unusedSimpArgs false
namespace Go.Proofs.YtioehfhdoohdmaaGreatDoor.scriptRuns
open Go.RowKit Go.Shelf BigFrame
attribute [local go_sem] Oper.semAt_some
theorem run_eq_func_nil {P:Program}(w:World) (t:TypeId) {ps rs:Array TypeId}{v:Bool}(f:Fn) (a b:Array Value) (h:P.underlying t=some (.func ps rs v)):(binOp .eql t (.func f a b) .nilFunc).run P w=.ok (.bool false) w:=by
 have h1:∀d,(Op.equalIn (d+1) t (.func f a b) .nilFunc).run P w=.ok false w:=fun d=>by simp[Op.equalIn,run_underlying h]
 have h2:(Op.equal t (.func f a b) .nilFunc).run P w=.ok false w:=h1 9999
 simp only[binOp]
 simp[h2]
theorem own_setG {X:World}{base n size:Nat}{e:TypeId}{xs:List Value}{v:Value}(h:X.ownsRow base e size v n xs) {p:Addr}(hp:p.block<base) (u:Value):(X.setCell p u).ownsRow base e size v n xs:=by
 refine⟨h.1,?_⟩
 rcases h.2 with h2 | ⟨q,cap,cur,hv,q0,hq,q1⟩
 ·exact Or.inl h2
 ·exact Or.inr ⟨q,cap,cur,hv,q0,(Below.heap_setCell _ _ _ _ (by omega)).trans hq,q1⟩
theorem outAt_set {X:World}{base:Nat}{v:Value}{rows:List RunV}(h:OutAt X base v rows) {p:Addr}(hp:p.block<base) (u:Value):OutAt (X.setCell p u) base v rows:=⟨own_setG h.own hp u,fun r hr=>own_setG (h.lists r hr) hp u⟩
theorem rd_setB {X:World}{o:Option Addr}{xs:List Value}(h:Rd X o xs) {p:Addr}(hp:∀a,o=some a→a.block≠p.block) (u:Value):Rd (X.setCell p u) o xs:=
 Rd.mono h (fun a v hv ⟨b,hb,e⟩=>(World.cell?_of_block (Below.heap_setCell _ _ _ _ (by have:=hp b hb;rw[e];exact this))).trans hv)
set_option maxRecDepth 100000 in
set_option maxHeartbeats 40000000 in
theorem walk (T:Tab) (a:TAddr) (s:ByteArray) (stop:Int) (W:World) (h:TabAt W T a) (hz:Lib.Utf8Tabs 0 1 W) (hr:TabRoom T) (hs:s.size≤1048576) (hp1:-9223372036854775808≤stop) (hp2:stop≤9223372036854775807):Calls Tryz.prog 4 #[.agg (tabCells T a),.string s,.int .i64 stop] W fun e w'=>e=.returned (.bool true)∧Below W.heap.size W w':=by
 obtain⟨TT,hTT⟩:∃TT:Tab,T=TT:=⟨_,rfl⟩
 have HPo:Hid (∀(W1:World),Below W.heap.size W W1→Calls Tryz.prog 11 #[.agg (tabCells T a)] W1 (OfPost W1 TT)):=Lib.hid (fun W1 h1=>by rw[←hTT];exact keepOf_any T a W1 (h.below h1) (tabs_below hz h1) hr)
 have HKn:Hid (∀(W1:World),Below W.heap.size W W1→Calls Tryz.prog 12 #[] W1 (fun e w'=>e=.returned (.bool true)∧Below W1.heap.size W1 w')):=Lib.hid (fun W1 h1=>known_any W1 (tabs_below hz h1))
 have HFit:Hid (upB TT=true→TabFit TT):=Lib.hid (fun hu=>by rw[←hTT] at hu ⊢;exact hr.fit (by cases hl:largeB T with | false=>rfl | true=>simp[upB,hl] at hu))
 have HRr:Hid (∀(t:ByteArray) (W1:World),t.size≤300→T.scripts.length≤1048576→Below W.heap.size W W1→Calls Tryz.prog 27 #[.agg (tabCells T a),.string t] W1 (RRPost W1 (runsL TT t))):=Lib.hid (fun t W1 ht hl h1=>by rw[←hTT];exact rruns_any T a t W1 (h.below h1) (by omega) hl)
 have hll:TT.scripts.length=T.scripts.length:=by rw[hTT]
 obtain⟨l0,l1,l2,l3,l4,l5,l6,l7⟩:=T
 obtain⟨o0,o1,o2,o3,o4,o5,o6,o7,c0,c1,c2,c3,c4,c5,c6,c7⟩:=a
 simp only[tabCells] at HPo HRr ⊢
 have HC0:Hid (∀W1,Below (W.heap.size+1) (W.alloc (.cells #[.slice o0 l0.length c0,.slice o1 l1.length c1,.slice o2 l2.length c2,.slice o3 l3.length c3,.slice o4 l4.length c4,.slice o5 l5.length c5,.slice o6 l6.length c6,.slice o7 l7.length c7] 28)) W1→W1.cell? ⟨W.heap.size,0,none⟩=some (.slice o0 l0.length c0)∧W1.cell? ⟨W.heap.size,1,none⟩=some (.slice o1 l1.length c1)∧W1.cell? ⟨W.heap.size,2,none⟩=some (.slice o2 l2.length c2)∧W1.cell? ⟨W.heap.size,3,none⟩=some (.slice o3 l3.length c3)∧W1.cell? ⟨W.heap.size,4,none⟩=some (.slice o4 l4.length c4)∧W1.cell? ⟨W.heap.size,5,none⟩=some (.slice o5 l5.length c5)∧W1.cell? ⟨W.heap.size,6,none⟩=some (.slice o6 l6.length c6)∧W1.cell? ⟨W.heap.size,7,none⟩=some (.slice o7 l7.length c7)):=Lib.hid (fun W1 h1=>by
  have hb:Blk W1 W.heap.size [.slice o0 l0.length c0,.slice o1 l1.length c1,.slice o2 l2.length c2,.slice o3 l3.length c3,.slice o4 l4.length c4,.slice o5 l5.length c5,.slice o6 l6.length c6,.slice o7 l7.length c7] 28:=(h1.block W.heap.size (by omega)).trans (Blk.new W _ _)
  exact⟨hb.cell 0,hb.cell 1,hb.cell 2,hb.cell 3,hb.cell 4,hb.cell 5,hb.cell 6,hb.cell 7⟩)
 obtain⟨W0,hW0⟩:∃W0,((((W.alloc (.cells #[.slice o0 l0.length c0,.slice o1 l1.length c1,.slice o2 l2.length c2,.slice o3 l3.length c3,.slice o4 l4.length c4,.slice o5 l5.length c5,.slice o6 l6.length c6,.slice o7 l7.length c7] 28)).alloc (.cells #[.string s] 9)).alloc (.cells #[.int .i64 stop] 3)).alloc (.cells #[.bool false] 4))=W0:=⟨_,rfl⟩
 have hB0:Below (W.heap.size+1) (W.alloc (.cells #[.slice o0 l0.length c0,.slice o1 l1.length c1,.slice o2 l2.length c2,.slice o3 l3.length c3,.slice o4 l4.length c4,.slice o5 l5.length c5,.slice o6 l6.length c6,.slice o7 l7.length c7] 28)) W0:=by rw[←hW0];exact (((Below.refl _ _).alloc (by simp) _).alloc (by simp) _).alloc (by simp) _
 have k4:Blk W0 (W.heap.size+1) [.string s] 9:=by
  have hb:=((Blk.new' (W.alloc (.cells #[.slice o0 l0.length c0,.slice o1 l1.length c1,.slice o2 l2.length c2,.slice o3 l3.length c3,.slice o4 l4.length c4,.slice o5 l5.length c5,.slice o6 l6.length c6,.slice o7 l7.length c7] 28)) #[.string s] 9).alloc (.cells #[.int .i64 stop] 3)).alloc (.cells #[.bool false] 4)
  rw[hW0,World.size_alloc] at hb
  exact hb
 have k5:Blk W0 (W.heap.size+2) [.int .i64 stop] 3:=by
  have hb:=(Blk.new' ((W.alloc (.cells #[.slice o0 l0.length c0,.slice o1 l1.length c1,.slice o2 l2.length c2,.slice o3 l3.length c3,.slice o4 l4.length c4,.slice o5 l5.length c5,.slice o6 l6.length c6,.slice o7 l7.length c7] 28)).alloc (.cells #[.string s] 9)) #[.int .i64 stop] 3).alloc (.cells #[.bool false] 4)
  rw[hW0,World.size_alloc,World.size_alloc] at hb
  exact hb
 have k6:Blk W0 (W.heap.size+3) [.bool false] 4:=by
  have hb:=Blk.new' (((W.alloc (.cells #[.slice o0 l0.length c0,.slice o1 l1.length c1,.slice o2 l2.length c2,.slice o3 l3.length c3,.slice o4 l4.length c4,.slice o5 l5.length c5,.slice o6 l6.length c6,.slice o7 l7.length c7] 28)).alloc (.cells #[.string s] 9)).alloc (.cells #[.int .i64 stop] 3)) #[.bool false] 4
  rw[hW0,World.size_alloc,World.size_alloc,World.size_alloc] at hb
  exact hb
 have hBW:Below W.heap.size W W0:=((Below.refl _ W).alloc (Nat.le_refl _) _).trans (hB0.mono (by omega))
 have hz00:W0.heap.size=W.heap.size+4:=by rw[←hW0];simp
 have HW0:=Lib.hid hW0
 have HZ0:=Lib.hid hz00
 have HB0:=Lib.hid hB0
 have HBW:=Lib.hid hBW
 have HK4:=Lib.hid k4
 have HK5:=Lib.hid k5
 have HK6:=Lib.hid k6
 have HLL:=Lib.hid hll
 have t0123:=HC0.out W0 hB0
 obtain⟨t0,t1,t2,t3,t4,t5,t6,t7⟩:=t0123
 clear hW0 hB0 hBW k4 k5 k6 hz00 h hz hr hTT hll
 refine (callsIn_wide (n:=12)).1 ?_
 refine callsIn_of_wp_marks Tryz.func4 rfl trivial ?_ rfl
 refine wpIn_wide.2 ?_
 simp only[Tryz.ntmps4,List.size_toArray,List.length_cons,List.length_nil,Nat.reduceAdd,Nat.reduceSub,Array.replicate_succ,Array.replicate_zero,List.push_toArray,List.append_toArray,List.nil_append,List.cons_append]
 go_wp2_with fail
 rw[HW0.out]
 clear HW0
 obtain⟨b4,hb4⟩:∃b,W.heap.size+1=b:=⟨_,rfl⟩
 obtain⟨b5,hb5⟩:∃b,W.heap.size+2=b:=⟨_,rfl⟩
 obtain⟨b6,hb6⟩:∃b,W.heap.size+3=b:=⟨_,rfl⟩
 rw[hb4] at HK4
 rw[hb5] at HK5
 rw[hb6] at HK6
 rw[show W.heap.size+1+1+1=b6 from hb6,show W.heap.size+1+1=b5 from hb5,hb4]
 have HBb:=Lib.hid (And.intro hb4 (And.intro hb5 hb6))
 have b4l:W.heap.size<b4:=by omega
 have b45:b4<b5:=by omega
 have b56:b5<b6:=by omega
 have b6l:b6<W0.heap.size:=by have:=HZ0.out;omega
 clear hb4 hb5 hb6
 (with_reducible refine Calls.mono (HPo.out _ HBW.out) ?_)
 rintro e w2 ⟨hB2,hrest⟩
 clear HPo t0 t1 t2 t3 t4 t5 t6 t7
 have HB2:=Lib.hid hB2
 have hBW2:=HBW.out.trans (hB2.mono HBW.out.size)
 have HBW2:=Lib.hid hBW2
 have k4:=HK4.out.keep (Keep.of_below hB2 (fun _=>False)) (by simp)
 have k5:=HK5.out.keep (Keep.of_below hB2 (fun _=>False)) (by simp)
 have k6:=HK6.out.keep (Keep.of_below hB2 (fun _=>False)) (by simp)
 have HK4:=Lib.hid k4
 have HK5:=Lib.hid k5
 have HK6:=Lib.hid k6
 clear k4 k5 k6 hB2 hBW2
 rcases hrest with ⟨hu,rfl⟩ | ⟨hu,bb,B,rfl,hbk,hnw,q0,q1,q2,q3,q4,q5⟩
 ·clear hu HFit HRr
  go_wp2_with fail
  (with_reducible refine Calls.mono (HKn.out _ HBW2.out) ?_)
  rintro e w3 ⟨rfl,hB3⟩
  have k6:=HK6.out.keep (Keep.of_below hB3 (fun _=>False)) (by simp)
  have c6:=k6.cell 0
  have f6:=k6.frozen 0
  dsimp only[List.getElem?_cons_zero] at c6
  have HB3:=Lib.hid (HBW2.out.trans (hB3.mono HBW2.out.size))
  have HK:=Lib.hid k6
  clear hB3 k6
  go_wp2_with fail
  refine⟨.bool true,?_,rfl,HB3.out.setCell (by simp only;omega) _⟩
  have r0:=(HK.out.set 0 (.bool true)).cell 0
  dsimp only[List.set_cons_zero,List.getElem?_cons_zero] at r0
  simp[results,Tryz.results4,go_sem,r0]
 have HFt:=Lib.hid (HFit.out hu)
 have hl1:l0.length≤1048576:=by have h:=HFt.out.l0;rw[HLL.out] at h;exact h
 have HQ:=Lib.hid (And.intro hbk (And.intro hnw (And.intro q0 (And.intro q1 (And.intro q2 (And.intro q3 (And.intro q4 q5)))))))
 clear hu HFit hbk hnw q0 q1 q2 q3 q4 q5
 have hfz:=fewB_size s 300
 have hfw:=few14_any s 300 w2 hs (by omega)
 generalize fewB s 300=t at *
 have HFw:=Lib.hid hfw
 clear hfw
 have ht:t.size≤1048576:=by omega
 have hzz:=HZ0.out
 have hw2z:=HB2.out.size
 obtain⟨w3,hw3⟩:∃w3,w2.setCell ⟨b4,0,none⟩ (.string t)=w3:=⟨_,rfl⟩
 have hk23:Keep (fun i=>i=b4) w2 w3:=by rw[←hw3];exact (Keep.refl (fun i=>i=b4) w2).setCell (p:=⟨b4,0,none⟩) (fun _=>rfl) _
 have k4:Blk w3 b4 [.string t] 9:=by rw[←hw3];exact HK4.out.set 0 _
 have k5:=HK5.out.keep hk23 (by omega)
 have k6:=HK6.out.keep hk23 (by omega)
 have hB23:Below (W.heap.size+1) (W.alloc (.cells #[.slice o0 l0.length c0,.slice o1 l1.length c1,.slice o2 l2.length c2,.slice o3 l3.length c3,.slice o4 l4.length c4,.slice o5 l5.length c5,.slice o6 l6.length c6,.slice o7 l7.length c7] 28)) w3:=(HB0.out.trans (HB2.out.mono (by omega))).trans (by rw[←hw3];exact (Below.refl _ w2).setCell (by simp only;omega) _)
 have hBW3:Below W.heap.size W w3:=HBW2.out.trans (by rw[←hw3];exact (Below.refl _ w2).setCell (by simp only;omega) _)
 have hbk3:=BookAt.of_keep HQ.out.1 HQ.out.2.1 (by omega) (by have:=HQ.out.2.2.1;omega) (by have:=HQ.out.2.2.2.1;omega) (by have:=HQ.out.2.2.2.2.1;omega) (by have:=HQ.out.2.2.2.2.2.1;omega) (by have:=HQ.out.2.2.2.2.2.2.1;omega) (by have:=HQ.out.2.2.2.2.2.2.2;omega) hk23
 have hsp:=rspots_any t w3 ht
 unfold SpotsPost at hsp
 have hpl:(places t).length≤300:=Nat.le_trans scan_any_len hfz
 have HSp:=Lib.hid hsp
 have HQ3:=Lib.hid (And.intro hbk3 HQ.out.2.2)
 have HK23:=Lib.hid hk23
 have e4:=HK4.out.cell 0
 have f4:=HK4.out.frozen 0
 dsimp only[List.getElem?_cons_zero] at e4
 have HZ3:Hid (w3.heap.size=w2.heap.size):=Lib.hid (by rw[←hw3,World.size_setCell])
 have HW3:=Lib.hid hw3
 have HB23:=Lib.hid hB23
 have HBW3:=Lib.hid hBW3
 have HK4':=Lib.hid k4
 have HK5':=Lib.hid k5
 have HK6':=Lib.hid k6
 clear hw3 hk23 k4 k5 k6 hB23 hBW3 hbk3 hsp
 go_wp2_with fail
 (with_reducible refine Calls.mono HFw.out ?_)
 rintro e w' ⟨rfl,rfl⟩
 clear HFw
 go_wp2_with fail
 rw[HW3.out]
 clear e4 f4 HK4 HK5 HK6 HQ HK23 HW3 HB0 HBW HBW2 HB2
 (with_reducible refine Calls.mono HSp.out ?_)
 rintro e w4 ⟨v4,rfl,ho4,hB4⟩
 obtain⟨o,c,rfl,hnc,hcm,hrd,hoo⟩:=run_own4 ho4
 have hcm2:c≤9223372036854775807:=hcm
 have hz34:=hB4.size
 have HW30:Hid (W0.heap.size≤w3.heap.size):=Lib.hid (by have h1:=HZ3.out;omega)
 obtain⟨b10,hb10⟩:∃b,w4.heap.size=b:=⟨_,rfl⟩
 have k10:=Blk.new' w4 #[.slice o (places t).length c] 34
 rw[hb10] at k10
 have hB45:Below w4.heap.size w4 (w4.alloc (.cells #[.slice o (places t).length c] 34)):=(Below.refl _ _).alloc (Nat.le_refl _) _
 obtain⟨w5,hw5⟩:∃w5,w4.alloc (.cells #[.slice o (places t).length c] 34)=w5:=⟨_,rfl⟩
 rw[hw5] at k10 hB45
 have hB35:=hB4.trans (hB45.mono hB4.size)
 have hz45:w5.heap.size=b10+1:=by rw[←hw5,World.size_alloc,hb10]
 have HPs:Hid (SpsAt w5 t o (places t)):=Lib.hid (hrd.below hB45)
 have HOo:=Lib.hid hoo
 have k4:=HK4'.out.keep (Keep.of_below hB35 (fun _=>False)) (by simp)
 have k5:=HK5'.out.keep (Keep.of_below hB35 (fun _=>False)) (by simp)
 have k6:=HK6'.out.keep (Keep.of_below hB35 (fun _=>False)) (by simp)
 have HBW5:=Lib.hid (HBW3.out.trans (hB35.mono HBW3.out.size))
 have t0123:=HC0.out w5 (HB23.out.trans (hB35.mono (by have:=HB23.out.size;simp at this;omega)))
 obtain⟨t0,t1,t2,t3,t4,t5,t6,t7⟩:=t0123
 have e4:=k4.cell 0
 dsimp only[List.getElem?_cons_zero] at e4
 have HK4:=Lib.hid k4
 have HK5:=Lib.hid k5
 have HK6:=Lib.hid k6
 have HB35:=Lib.hid hB35
 have HW5:=Lib.hid hw5
 have HK10:=Lib.hid k10
 clear hw5 hrd hoo ho4 hB4 hB45 hB35 k4 k5 k6 k10 HSp HK4' HK5' HK6'
 have HRx:=Lib.hid (HRr.out t w5 hfz hl1 HBW5.out)
 clear HRr
 go_upto_region 6 with fail
 rw[HW5.out]
 go_wp2_with fail
 (with_reducible refine Calls.mono HRx.out ?_)
 rintro e w6 ⟨oR,cR,rows,rfl,hrows,hout,hB6⟩
 clear HRx HW5 t0 t1 t2 t3 t4 t5 t6 t7
 have hz56:=hB6.size
 obtain⟨b11,hb11⟩:∃b,w6.heap.size=b:=⟨_,rfl⟩
 have k11:=Blk.new' w6 #[.slice oR rows.length cR] 57
 rw[hb11] at k11
 have hB67:Below w6.heap.size w6 (w6.alloc (.cells #[.slice oR rows.length cR] 57)):=(Below.refl _ _).alloc (Nat.le_refl _) _
 obtain⟨w7,hw7⟩:∃w7,w6.alloc (.cells #[.slice oR rows.length cR] 57)=w7:=⟨_,rfl⟩
 rw[hw7] at k11 hB67
 have hz67:w7.heap.size=b11+1:=by rw[←hw7,World.size_alloc,hb11]
 obtain⟨b1,hb1⟩:∃b,w7.heap.size=b:=⟨_,rfl⟩
 obtain⟨w8,hw8⟩:∃w8,(w7.alloc (.cells #[.pointer (some ⟨bb,0,none⟩)] 29)).alloc (.cells #[.string t] 9)=w8:=⟨_,rfl⟩
 have hB78:Below w7.heap.size w7 w8:=by rw[←hw8];exact ((Below.refl _ w7).alloc (Nat.le_refl _) _).alloc (by simp) _
 have hz78:w8.heap.size=b1+2:=by rw[←hw8,World.size_alloc,World.size_alloc,hb1]
 have kb1:Blk w8 b1 [.pointer (some ⟨bb,0,none⟩)] 29:=by rw[←hw8,←hb1];exact (Blk.new' w7 #[.pointer (some ⟨bb,0,none⟩)] 29).alloc _
 have kb2:Blk w8 (b1+1) [.string t] 9:=by
  have hb:=Blk.new' (w7.alloc (.cells #[.pointer (some ⟨bb,0,none⟩)] 29)) #[.string t] 9
  rw[World.size_alloc,hb1,hw8] at hb
  exact hb
 have hru:=runs_any bb t w7
 rw[hw8,hb1] at hru
 have hB58:=hB6.trans ((hB67.mono hz56).trans (hB78.mono (by have:=hB67.size;omega)))
 have hzn:0≤((rows.length:Nat):Int):=Int.natCast_nonneg _
 have hrn:rows.length≤300:=by have h1:=congrArg List.length hrows;rw[List.length_map] at h1;have h2:=runs_cnt TT t;omega
 have hwi:=within_any stop (rows.length:Nat) w8 hzn (by omega) hp1 hp2
 have hik:=inN_le stop hzn
 obtain⟨k,hk⟩:∃k:Nat,inN stop (rows.length:Nat)=(k:Int):=⟨(inN stop (rows.length:Nat)).toNat,by omega⟩
 rw[hk] at hwi hik
 obtain⟨w9,hw9⟩:∃w9,w8.setCell ⟨b5,0,none⟩ (.int .i64 (k:Nat))=w9:=⟨_,rfl⟩
 have hk89:Keep (fun i=>i=b5) w8 w9:=by rw[←hw9];exact (Keep.refl (fun i=>i=b5) w8).setCell (p:=⟨b5,0,none⟩) (fun _=>rfl) _
 have hz89:w9.heap.size=w8.heap.size:=by rw[←hw9,World.size_setCell]
 have hk58:=Keep.of_below hB58 (fun _=>False)
 have k58:=HK5.out.keep hk58 (by simp)
 have kf:∀ {b:Nat} {vs:List Value} {t:TypeId},Blk w5 b vs t→b≠b5→Blk w9 b vs t:=fun h hne=>(h.keep hk58 (by simp)).keep hk89 hne
 have h36:W0.heap.size≤w3.heap.size:=by have h1:=HW30.out;omega
 have h5z:w5.heap.size=b10+1:=hz45
 have h6z:w5.heap.size≤b11:=by omega
 have HF4:=Lib.hid (kf HK4.out (by omega))
 have HF6:=Lib.hid (kf HK6.out (by omega))
 have HF10:=Lib.hid (kf HK10.out (by omega))
 have HF5:Hid (Blk w9 b5 [.int .i64 (k:Nat)] 3):=Lib.hid (by rw[←hw9];exact k58.set 0 _)
 have HF11:=Lib.hid ((k11.keep (Keep.of_below hB78 (fun _=>False)) (by simp)).keep hk89 (by omega))
 have HFb1:=Lib.hid (kb1.keep hk89 (by omega))
 have HFb2:=Lib.hid (kb2.keep hk89 (by omega))
 have HFps:Hid (SpsAt w9 t o (places t)):=Lib.hid (by rw[←hw9];exact rd_setB (HPs.out.below hB58) (fun a ha=>by have:=(HOo.out a ha).1;simp only;omega) _)
 have HFo:Hid (OutAt w9 w5.heap.size (.slice oR rows.length cR) rows):=Lib.hid (by rw[←hw9];exact outAt_set (hout.later ((hB67.trans (hB78.mono (by omega))))) (by simp only;omega) _)
 have HFk:=Lib.hid ((BookAt.of_keep (HQ3.out.1.1.below (HB35.out.trans (hB58.mono HB35.out.size))) (HQ3.out.1.2.below (HB35.out.trans (hB58.mono HB35.out.size))) (b:=b5) (by omega) HQ3.out.2.1 HQ3.out.2.2.1 HQ3.out.2.2.2.1 HQ3.out.2.2.2.2.1 HQ3.out.2.2.2.2.2.1 HQ3.out.2.2.2.2.2.2 hk89).1)
 have HFW:Hid (Below W.heap.size W w9):=Lib.hid ((HBW5.out.trans (hB58.mono HBW5.out.size)).trans (by rw[←hw9];exact (Below.refl _ w8).setCell (by simp only;omega) _))
 have HRows:=Lib.hid hrows
 have HRu:=Lib.hid hru
 have HWi:=Lib.hid hwi
 have HW7:=Lib.hid hw7
 have HW9:=Lib.hid hw9
 have hz9:w9.heap.size=b1+2:=by omega
 have e4:=(HK4.out.keep (Keep.of_below (hB6.trans (hB67.mono hz56)) (fun _=>False)) (by simp)).cell 0
 have e5:=k58.cell 0
 have f5:=k58.frozen 0
 have e11:=(k11.keep (Keep.of_below hB78 (fun _=>False)) (by simp)).cell 0
 dsimp only[List.getElem?_cons_zero] at e4 e5 e11
 have hb10l:b6<b10:=by omega
 have hb11l:b10<b11:=by omega
 have hb1l:b11<b1:=by omega
 have HSz:=Lib.hid hz9
 have HB11:=Lib.hid hb11
 clear hrows hru hwi hw7 hw8 hw9 hk89 hk58 k58 kf k11 kb1 kb2 hB58 hB78 hB67 hB6 hout hk hz45 hz67 hz78 hz89 hz56 hb1 hb11 HK4 HK5 HK6 HK10 HPs HOo HQ3 HB35 HB23 HBW3 HBW5 hz34 hzz hw2z HW30 h36 h5z h6z hz9 hb10
 go_upto_region 7 with fail
 rw[HW7.out,HB11.out]
 go_wp2_with fail
 (with_reducible refine Calls.mono HRu.out ?_)
 rintro e w' ⟨rfl,rfl⟩
 clear HRu HW7 e4
 have hfn:=fun (X:World)=>run_eq_func_nil (P:=Tryz.prog) X 60 (.func 58) #[] #[.pointer (some ⟨b1,0,none⟩),.pointer (some ⟨b1+1,0,none⟩)] Tryz.underlying60
 go_wp2_with fail
 (with_reducible refine Calls.mono HWi.out ?_)
 rintro e w' ⟨rfl,rfl⟩
 clear HWi hfn
 go_upto_region 11 with fail
 rw[HW9.out]
 clear HW9 e5 f5 e11
 obtain⟨bk,hbk0⟩:∃b,w9.heap.size=b:=⟨_,rfl⟩
 obtain⟨w11,hw11⟩:∃w11,(((w9.alloc (.cells #[.slice none 0 0,.slice none 0 0,.int .i64 0,.bool false] 39)).alloc (.cells #[.pointer (some ⟨bk,0,none⟩)] 36)).alloc (.cells #[.int .i64 0] 3))=w11:=⟨_,rfl⟩
 have hB911:Below w9.heap.size w9 w11:=by rw[←hw11];exact (((Below.refl _ w9).alloc (Nat.le_refl _) _).alloc (by simp only[World.size_alloc];omega) _).alloc (by simp only[World.size_alloc];omega) _
 have hz11:w11.heap.size=bk+3:=by rw[←hw11,World.size_alloc,World.size_alloc,World.size_alloc,hbk0]
 have k13:Blk w11 (bk+1) [.pointer (some ⟨bk,0,none⟩)] 36:=by
  have hb:=(Blk.new' (w9.alloc (.cells #[.slice none 0 0,.slice none 0 0,.int .i64 0,.bool false] 39)) #[.pointer (some ⟨bk,0,none⟩)] 36).alloc (.cells #[.int .i64 0] 3)
  rw[World.size_alloc,hbk0,hw11] at hb
  exact hb
 have k14:Blk w11 (bk+2) [.int .i64 0] 3:=by
  have hb:=Blk.new' ((w9.alloc (.cells #[.slice none 0 0,.slice none 0 0,.int .i64 0,.bool false] 39)).alloc (.cells #[.pointer (some ⟨bk,0,none⟩)] 36)) #[.int .i64 0] 3
  rw[World.size_alloc,World.size_alloc,hbk0,hw11] at hb
  exact hb
 have hbi:bookInt.BookIt (fun k=>k=bk+1∨k=bk+2) w9.heap.size w11 (bk+1) bk 0:=by
  have hb:=bookInt.bookIt_new w9
  rw[hbk0] at hb ⊢
  have h2:=hb.less (It':=fun k=>k=bk+1∨k=bk+2) (fun k hk=>Or.inr (by rw[World.size_alloc,hbk0];omega))
  have h3:Below (w9.alloc (.cells #[.slice none 0 0,.slice none 0 0,.int .i64 0,.bool false] 39)).heap.size (w9.alloc (.cells #[.slice none 0 0,.slice none 0 0,.int .i64 0,.bool false] 39)) w11:=by rw[←hw11];exact ((Below.refl _ _).alloc (Nat.le_refl _) _).alloc (by simp) _
  exact h2.later h3
 have HSq:Hid (SeqM (fun _=>True) Fence.wide 11 3 Tryz.prog 58 #[.pointer (some ⟨b1,0,none⟩),.pointer (some ⟨b1+1,0,none⟩)] (encR t) (memR (runsL TT t)) (Below w9.heap.size) (fun xs=>xs.map (fun y:RunM=>y.it)=runsL TT t) (fun pre=>pre.map (fun y:RunM=>y.it) <+: runsL TT t) (runsL TT t).length w9):=Lib.hid (runs1_seq TT bb B t 11 (by omega) w9 HFk.out HFt.out ht b1 (b1+1) (HFb1.out.cell 0) (HFb2.out.cell 0))
 have HLx:Hid (∀r∈runsL TT t,∀L,r.2.2=L→L.length≤TT.scripts.length):=Lib.hid (fun r h L e=>by subst e;exact runs_few TT t h)
 have HRw:=Lib.hid (fun r (h:r∈runsL TT t)=>runs_row TT t h)
 have HRl:Hid ((runsL TT t).length=rows.length):=Lib.hid (by rw[←HRows.out,List.length_map])
 have HW11:=Lib.hid hw11
 have HB911:=Lib.hid hB911
 have HK13:=Lib.hid k13
 have HK14:=Lib.hid k14
 have HBi:=Lib.hid hbi
 have HBk0:=Lib.hid hbk0
 have HZ11:=Lib.hid hz11
 clear hw11 hB911 k13 k14 hbi hz11
 go_wp2_with fail
 rw[HW11.out]
 clear HW11
 refine wp_loop_ghost_k (fun gk a X=>∃u14 u15 u16 u17 u48 u49 u50 u51 u52 u53 u54 u55 u56 u57 u58 u59 u60 u61 u62 u63 u64 u65 u66 u67 u68 u69 u70 u71 u72 u73 u74 u75 u76 u77 u78 u79 u80 u81 u82 u83 u84 u85 u86 u87 u88 u89 u90 u91 u92 u93 u94 u95 u96 u97 u98 u99 u100 u101 u102 u103 u104 u105 u106 u107 u108 u109 u110 u111 u112 u113 u114 u115 u116 u117 u118 u119 u120 u121 u122 u123 u124 u125 u126 u127 u128 u129 u130 u131 u132 u133 u134 u135 u136 u137 u138 u139 u140 u141 u142:Value,∃ds:List Deferred,(∃(r b14 m:Nat) (Ds:List Nat),gk+r=2∧u14=.pointer (some ⟨b14,0,none⟩)∧bk+2≤b14∧ds=Ds.map (fun D=>({ target:=.collected D,args:=#[] }:Deferred))∧Ds.length=r∧m≤300*r∧Hid (Below w9.heap.size w9 X)∧Hid (Blk X (bk+1) [.pointer (some ⟨bk,0,none⟩)] 36)∧Hid (Blk X b14 [.int .i64 (r:Nat)] 3)∧Hid (∃B1,bookInt.BookIt (fun k=>k=bk+1∨k=b14) w9.heap.size X B1 bk m)∧Hid (Marks X w9.heap.size b14 Ds))∧a={ tmps:=#[.agg #[.slice o0 l0.length c0,.slice o1 l1.length c1,.slice o2 l2.length c2,.slice o3 l3.length c3,.slice o4 l4.length c4,.slice o5 l5.length c5,.slice o6 l6.length c6,.slice o7 l7.length c7],.string s,.int .i64 stop,.pointer (some ⟨W.heap.size,0,none⟩),.pointer (some ⟨b4,0,none⟩),.pointer (some ⟨b5,0,none⟩),.pointer (some ⟨b6,0,none⟩),.pointer (some ⟨bb,0,none⟩),.bool true,.bool true,.pointer (some ⟨b10,0,none⟩),.pointer (some ⟨b11,0,none⟩),.func (.func 58) #[] #[.pointer (some ⟨b1,0,none⟩),.pointer (some ⟨b1+1,0,none⟩)],.pointer (some ⟨bk+1,0,none⟩),u14,u15,u16,u17,.tuple #[.pointer (some ⟨bb,0,none⟩),.bool true,.bool true],.agg #[.slice o0 l0.length c0,.slice o1 l1.length c1,.slice o2 l2.length c2,.slice o3 l3.length c3,.slice o4 l4.length c4,.slice o5 l5.length c5,.slice o6 l6.length c6,.slice o7 l7.length c7],.tuple #[.pointer (some ⟨bb,0,none⟩),.bool true,.bool true],.pointer (some ⟨bb,0,none⟩),.bool true,.bool true,.bool true,.bool false,undef,undef,undef,undef,.string s,.string t,.string t,.slice o (places t).length c,.agg #[.slice o0 l0.length c0,.slice o1 l1.length c1,.slice o2 l2.length c2,.slice o3 l3.length c3,.slice o4 l4.length c4,.slice o5 l5.length c5,.slice o6 l6.length c6,.slice o7 l7.length c7],.string t,.slice oR rows.length cR,.pointer (some ⟨bb,0,none⟩),.string t,.func (.func 58) #[] #[.pointer (some ⟨b1,0,none⟩),.pointer (some ⟨b1+1,0,none⟩)],.func (.func 58) #[] #[.pointer (some ⟨b1,0,none⟩),.pointer (some ⟨b1+1,0,none⟩)],.bool false,.int .i64 stop,.slice oR rows.length cR,.int .i64 (rows.length:Nat),.int .i64 (k:Nat),.agg #[.slice none 0 0,.slice none 0 0,.int .i64 0,.bool false],.pointer (some ⟨bk,0,none⟩),u48,u49,u50,u51,u52,u53,u54,u55,u56,u57,u58,u59,u60,u61,u62,u63,u64,u65,u66,u67,u68,u69,u70,u71,u72,u73,u74,u75,u76,u77,u78,u79,u80,u81,u82,u83,u84,u85,u86,u87,u88,u89,u90,u91,u92,u93,u94,u95,u96,u97,u98,u99,u100,u101,u102,u103,u104,u105,u106,u107,u108,u109,u110,u111,u112,u113,u114,u115,u116,u117,u118,u119,u120,u121,u122,u123,u124,u125,u126,u127,u128,u129,u130,u131,u132,u133,u134,u135,u136,u137,u138,u139,u140,u141,u142,undef,undef,undef,undef,undef],defers:=ds }) 2 ?start ?round
 case start=>
  repeat apply Exists.intro
  refine⟨⟨0,bk+2,0,[],rfl,rfl,Nat.le_refl _,rfl,rfl,by omega,HB911,HK13,HK14,Lib.hid ⟨_,HBi.out⟩,Lib.hid (Marks.nil _ _ _)⟩,rfl⟩
 case round=>
  clear HB911 HK13 HK14 HBi HZ11
  intro gk _ wr hinv
  obtain⟨u14,hinv⟩:=hinv
  obtain⟨u15,hinv⟩:=hinv
  obtain⟨u16,hinv⟩:=hinv
  obtain⟨u17,hinv⟩:=hinv
  obtain⟨u48,hinv⟩:=hinv
  obtain⟨u49,hinv⟩:=hinv
  obtain⟨u50,hinv⟩:=hinv
  obtain⟨u51,hinv⟩:=hinv
  obtain⟨u52,hinv⟩:=hinv
  obtain⟨u53,hinv⟩:=hinv
  obtain⟨u54,hinv⟩:=hinv
  obtain⟨u55,hinv⟩:=hinv
  obtain⟨u56,hinv⟩:=hinv
  obtain⟨u57,hinv⟩:=hinv
  obtain⟨u58,hinv⟩:=hinv
  obtain⟨u59,hinv⟩:=hinv
  obtain⟨u60,hinv⟩:=hinv
  obtain⟨u61,hinv⟩:=hinv
  obtain⟨u62,hinv⟩:=hinv
  obtain⟨u63,hinv⟩:=hinv
  obtain⟨u64,hinv⟩:=hinv
  obtain⟨u65,hinv⟩:=hinv
  obtain⟨u66,hinv⟩:=hinv
  obtain⟨u67,hinv⟩:=hinv
  obtain⟨u68,hinv⟩:=hinv
  obtain⟨u69,hinv⟩:=hinv
  obtain⟨u70,hinv⟩:=hinv
  obtain⟨u71,hinv⟩:=hinv
  obtain⟨u72,hinv⟩:=hinv
  obtain⟨u73,hinv⟩:=hinv
  obtain⟨u74,hinv⟩:=hinv
  obtain⟨u75,hinv⟩:=hinv
  obtain⟨u76,hinv⟩:=hinv
  obtain⟨u77,hinv⟩:=hinv
  obtain⟨u78,hinv⟩:=hinv
  obtain⟨u79,hinv⟩:=hinv
  obtain⟨u80,hinv⟩:=hinv
  obtain⟨u81,hinv⟩:=hinv
  obtain⟨u82,hinv⟩:=hinv
  obtain⟨u83,hinv⟩:=hinv
  obtain⟨u84,hinv⟩:=hinv
  obtain⟨u85,hinv⟩:=hinv
  obtain⟨u86,hinv⟩:=hinv
  obtain⟨u87,hinv⟩:=hinv
  obtain⟨u88,hinv⟩:=hinv
  obtain⟨u89,hinv⟩:=hinv
  obtain⟨u90,hinv⟩:=hinv
  obtain⟨u91,hinv⟩:=hinv
  obtain⟨u92,hinv⟩:=hinv
  obtain⟨u93,hinv⟩:=hinv
  obtain⟨u94,hinv⟩:=hinv
  obtain⟨u95,hinv⟩:=hinv
  obtain⟨u96,hinv⟩:=hinv
  obtain⟨u97,hinv⟩:=hinv
  obtain⟨u98,hinv⟩:=hinv
  obtain⟨u99,hinv⟩:=hinv
  obtain⟨u100,hinv⟩:=hinv
  obtain⟨u101,hinv⟩:=hinv
  obtain⟨u102,hinv⟩:=hinv
  obtain⟨u103,hinv⟩:=hinv
  obtain⟨u104,hinv⟩:=hinv
  obtain⟨u105,hinv⟩:=hinv
  obtain⟨u106,hinv⟩:=hinv
  obtain⟨u107,hinv⟩:=hinv
  obtain⟨u108,hinv⟩:=hinv
  obtain⟨u109,hinv⟩:=hinv
  obtain⟨u110,hinv⟩:=hinv
  obtain⟨u111,hinv⟩:=hinv
  obtain⟨u112,hinv⟩:=hinv
  obtain⟨u113,hinv⟩:=hinv
  obtain⟨u114,hinv⟩:=hinv
  obtain⟨u115,hinv⟩:=hinv
  obtain⟨u116,hinv⟩:=hinv
  obtain⟨u117,hinv⟩:=hinv
  obtain⟨u118,hinv⟩:=hinv
  obtain⟨u119,hinv⟩:=hinv
  obtain⟨u120,hinv⟩:=hinv
  obtain⟨u121,hinv⟩:=hinv
  obtain⟨u122,hinv⟩:=hinv
  obtain⟨u123,hinv⟩:=hinv
  obtain⟨u124,hinv⟩:=hinv
  obtain⟨u125,hinv⟩:=hinv
  obtain⟨u126,hinv⟩:=hinv
  obtain⟨u127,hinv⟩:=hinv
  obtain⟨u128,hinv⟩:=hinv
  obtain⟨u129,hinv⟩:=hinv
  obtain⟨u130,hinv⟩:=hinv
  obtain⟨u131,hinv⟩:=hinv
  obtain⟨u132,hinv⟩:=hinv
  obtain⟨u133,hinv⟩:=hinv
  obtain⟨u134,hinv⟩:=hinv
  obtain⟨u135,hinv⟩:=hinv
  obtain⟨u136,hinv⟩:=hinv
  obtain⟨u137,hinv⟩:=hinv
  obtain⟨u138,hinv⟩:=hinv
  obtain⟨u139,hinv⟩:=hinv
  obtain⟨u140,hinv⟩:=hinv
  obtain⟨u141,hinv⟩:=hinv
  obtain⟨u142,hinv⟩:=hinv
  obtain⟨ds,⟨r,b14,m,Ds,hgr,rfl,hb14,rfl,hDs,hm,HLow,HK13,HK14,HBk,HMk⟩,ha⟩:=hinv
  subst ha
  dsimp only
  intro J K hJ hK
  have c14:=HK14.out.cell 0
  dsimp only[List.getElem?_cons_zero] at c14
  by_cases hr2:r<2
  ·have r1:(r:Int)<2:=by omega
   have r0:(0:Int)≤(r:Int):=Int.natCast_nonneg _
   obtain⟨b15,hb15⟩:∃b,wr.heap.size=b:=⟨_,rfl⟩
   obtain⟨wx,hwx⟩:∃wx,wr.alloc (.cells #[.int .i64 0] 3)=wx:=⟨_,rfl⟩
   have k15:=Blk.new' wr #[.int .i64 0] 3
   rw[hb15,hwx] at k15
   have hBx:Below wr.heap.size wr wx:=by rw[←hwx];exact (Below.refl _ _).alloc (Nat.le_refl _) _
   have hzx:wx.heap.size=b15+1:=by rw[←hwx,World.size_alloc,hb15]
   have h14l:b14<b15:=by have:=HK14.out.lt;omega
   have h13l:bk+1<b15:=by omega
   have hNl:w9.heap.size≤b15:=by have:=HBk0.out;omega
   have hkx:=Keep.of_below hBx (fun _=>False)
   have hI0:RunL w9.heap.size bk b14 b15 r m Ds w9 (fun _=>False) [] wx:=by
    obtain⟨B1,hbi⟩:=HBk.out
    have hbi2:=(hbi.later hBx)
    refine⟨HLow.out.trans (hBx.mono HLow.out.size),HK13.out.keep hkx (by simp),HK14.out.keep hkx (by simp),k15,⟨B1,?_⟩,(HMk.out.keep (fun D hD _ hm=>(hBx.block D (by omega)).trans hm)).up (by omega),fun _ h=>h.elim⟩
    have hbi3:=(hbi.less (It':=fun k=>k=bk+1∨k=b14∨k=b15) (fun k hk=>by rcases hk with h | h | h;exact Or.inl (Or.inl h);exact Or.inl (Or.inr h);exact Or.inr (by omega))).later hBx
    refine (hbi3.less (fun k hk=>Or.inl ?_)).more (by simp)
    rcases hk with h | h
    ·exact h.elim
    ·exact h
   have HI0:=Lib.hid hI0
   have HWx:=Lib.hid hwx
   have HZx:=Lib.hid hzx
   have HB15:=Lib.hid hb15
   have HBx:=Lib.hid hBx
   clear hI0 hwx hzx k15 hkx hBx
   go_upto_region 16 with fail
   rw[HWx.out]
   clear HWx
   go_wp2_with fail
   refine (wpIn_wide (n:=12)).1 ?_
   refine wpIn_rangeFunc_M (Al:=fun _=>True) trivial rfl (by omega) (gf:=58) (lb:=#[.pointer (some ⟨b1,0,none⟩),.pointer (some ⟨b1+1,0,none⟩)]) rfl trivial (enters_of Tryz.func58 (by kernel_rfl) rfl) HSq.out (fun a b=>Below.trans a b) (fun X l o1 o2 hl ho hc hw=>⟨rfl,rfl,rfl,by simp[World.putObj],fun k hk=>World.putObj_heap_other (by have h1:=HZx.out;have h2:=hNl;have h3:wx.heap.size≤l:=hl;omega)⟩) HI0.out.low (fun _=>rfl) (RunL w9.heap.size bk b14 b15 r m Ds w9) (fun cc It pre X=>cc=.exit 2∧r=0∧RunL w9.heap.size bk b14 b15 r m Ds w9 It pre X) (RunL.bears hNl h13l h14l (by have:=HZx.out;omega)) (fun cc=>⟨fun It pre X Y hA h hS=>⟨h.1,h.2.1,h.2.2.stir hNl h13l h14l (by have:=HZx.out;omega) hS⟩,fun It It' pre X _ _ h hi=>⟨h.1,h.2.1,h.2.2.less hi⟩⟩) HI0.out ?rnd ?done ?stop
   case rnd=>
    rintro l It pre x X V K _ hItl hI hS hM hlen hK
    obtain⟨hMo,hMp,hMg,hMi⟩:=hM
    obtain⟨B1,hbX⟩:=hI.book
    have hB1X:=hbX.top
    have hX15:b15<X.heap.size:=hI.k15.lt
    have hB1V:=Nat.le_trans hB1X hS.size
    have hbV:=hbX.moved (Y:=V) hS.size (fun k hk hn=>hS.block k hk.lt (fun hh=>hn (Or.inl hh)) (Or.inr hk))
    have hI2:=hI.stir hNl h13l h14l (by have:=HZx.out;omega) hS
    clear hI
    obtain⟨ov,cv,hxv,_,_,_⟩:=own_intsV hMo
    unfold encR
    rw[hxv]
    gi_wp2
    have hAll:Below V.heap.size V (V.alloc (.cells #[.int .i64 (posAt t x.it.1:Nat),.int .i64 (x.it.1:Nat),.int .i64 (posAt t x.it.2.1:Nat),.int .i64 (x.it.2.1:Nat),.slice ov x.it.2.2.length cv] 64)):=(Below.refl _ _).alloc (Nat.le_refl _) _
    have hVl:w9.heap.size≤V.heap.size:=hI2.low.size
    refine hK _ _ ((Tr.below (B:=w9.heap.size) (It:=It) hAll hVl).round _) ((Tr.below (B:=w9.heap.size) (It:=It) hAll hVl).from_ _) ?_
    intro V0 hS0 hR0
    have hI3:=(hI2.below hNl h13l h14l hAll).stir hNl h13l h14l (by have:=HZx.out;omega) hS0
    have hb0:=(hbV.later hAll).moved (Y:=V0) hS0.size (fun k hk hn=>hS0.block k hk.lt (fun hh=>hn (Or.inl hh)) (Or.inr hk))
    have hbx:¬ It V.heap.size:=fun hh=>by have:=hMi _ hh;omega
    have kx:Blk V0 V.heap.size [.int .i64 (posAt t x.it.1:Nat),.int .i64 (x.it.1:Nat),.int .i64 (posAt t x.it.2.1:Nat),.int .i64 (x.it.2.1:Nat),.slice ov x.it.2.2.length cv] 64:=hS0.blk (Blk.new' V #[.int .i64 (posAt t x.it.1:Nat),.int .i64 (x.it.1:Nat),.int .i64 (posAt t x.it.2.1:Nat),.int .i64 (x.it.2.1:Nat),.slice ov x.it.2.2.length cv] 64) hbx
    have hVz:V.heap.size+1≤V0.heap.size:=by have:=hS0.size;simp only[World.size_alloc] at this;omega
    have h15V:b15<V.heap.size:=hI2.k15.lt
    have hMo0:V0.ownsRow X.heap.size 3 1 x.v x.it.2.2.length (iV x.it.2.2):=by
     have h1:=own_later hMo hAll
     refine⟨h1.1,?_⟩
     rcases h1.2 with h2 | ⟨q,cap,cur,hv,q0,hq,q1⟩
     ·exact Or.inl h2
     ·exact Or.inr ⟨q,cap,cur,hv,q0,hS0.blk hq (hMg q _ cap hv),q1⟩
    obtain⟨ov2,cv2,hxv2,hOv,hOb,hRv⟩:=own_intsV hMo0
    obtain⟨rfl,rfl⟩:ov=ov2∧cv=cv2:=by rw[hxv] at hxv2;simpa using hxv2
    clear hxv2
    have hxi:x.it∈runsL TT t:=by
     have h1:=pre_at hMp
     exact List.mem_of_getElem? h1
    have hxr:=HRw.out x.it hxi
    have hprl:pre.length<rows.length:=by rw[←HRl.out];exact hlen
    have hrow:rows[pre.length].1=x.it:=by
     have h1:=pre_at hMp
     rw[←HRows.out,List.getElem?_map,List.getElem?_eq_getElem hprl] at h1
     simpa using h1
    obtain⟨gR,hgR,hgl,_,_,_⟩:=OutAt.row HFo.out hprl
    subst hgR
    have hlow:=hI3.low
    obtain⟨j0,hj0⟩:∃j,x.it.1=j:=⟨_,rfl⟩
    obtain⟨j1,hj1⟩:∃j,x.it.2.1=j:=⟨_,rfl⟩
    obtain⟨L,hL⟩:∃L,x.it.2.2=L:=⟨_,rfl⟩
    rw[hj0,hj1,hL] at kx
    rw[hj0,hj1] at hxr
    rw[hL] at hxv hOv hRv hMo0 hOb
    have hfr:∀k,bookInt.blkOf ov=some k→B1≤k∧¬ (It k∨k=bk+1∨k=b14∨k=b15):=fun k hk=>by
     obtain⟨h1,h2⟩:=hOb k hk
     refine⟨by omega,?_⟩
     rintro (h3 | h3 | h3 | h3)
     ·exact hMg k _ cv (hxv.trans (by rw[hxv] at h2;simp only[Value.slice.injEq] at h2;rw[h2.1])) h3
     ·omega
     ·omega
     ·omega
    have hLl:L.length≤1048576:=by have h1:=hMo0.1;have h2:L.length≤TT.scripts.length:=HLx.out x.it hxi L hL;have:=HFt.out.l0;omega
    have hRow:∀W1,Below w9.heap.size w9 W1→W1.cell? ⟨gR,pre.length*3,none⟩=some (.int .i64 (j0:Nat))∧W1.cell? ⟨gR,pre.length*3+1,none⟩=some (.int .i64 (j1:Nat))∧∃o2 c2,W1.cell? ⟨gR,pre.length*3+2,none⟩=some (.slice o2 L.length c2)∧Rd W1 o2 (iV L)∧rows[pre.length].2=.slice o2 L.length c2:=fun W1 h1=>by
     obtain⟨g2,hg2,_,r0,r1,r2⟩:=OutAt.row (HFo.out.later h1) hprl
     simp only[Option.some.injEq,Addr.mk.injEq,true_and,and_true] at hg2
     subst hg2
     rw[hrow,hj0] at r0
     rw[hrow,hj1] at r1
     have hl:=(HFo.out.later h1).lists rows[pre.length] (List.getElem_mem hprl)
     rw[hrow,hL] at hl
     obtain⟨o2,c2,hv2,_,_,hr2⟩:=own_intsV hl
     rw[hv2] at r2
     exact⟨r0,r1,o2,c2,r2,hr2,hv2⟩
    obtain⟨_,_,oW,cW,_,_,hvW⟩:=hRow w9 (Below.refl _ _)
    have hRow2:∀W1,Below w9.heap.size w9 W1→W1.cell? ⟨gR,pre.length*3,none⟩=some (.int .i64 (j0:Nat))∧W1.cell? ⟨gR,pre.length*3+1,none⟩=some (.int .i64 (j1:Nat))∧W1.cell? ⟨gR,pre.length*3+2,none⟩=some (.slice oW L.length cW)∧Rd W1 oW (iV L):=fun W1 h1=>by
     obtain⟨r0,r1,o2,c2,r2,hr2,hv2⟩:=hRow W1 h1
     rw[hvW] at hv2
     simp only[Value.slice.injEq,true_and] at hv2
     obtain⟨rfl,rfl⟩:=hv2
     exact⟨r0,r1,r2,hr2⟩
    have hpl0:0<(places t).length:=by omega
    obtain⟨gP,offP,hoP,_⟩:=SpsAt.row HFps.out hpl0
    subst hoP
    have hSpc:∀W1,Below w9.heap.size w9 W1→∀i,i<(places t).length→W1.cell? ⟨gP,offP+i*4+1,none⟩=some (.int .i64 (posAt t i:Nat)):=fun W1 h1 i hi=>by
     obtain⟨g2,off2,e2,_,c1,_⟩:=SpsAt.row (HFps.out.below h1) hi
     simp only[Option.some.injEq,Addr.mk.injEq,and_true] at e2
     obtain⟨rfl,rfl⟩:=e2
     rw[c1]
     unfold posAt
     rw[List.getElem?_eq_getElem hi]
     rfl
    have hcl:∀W1,Below w9.heap.size w9 W1→W1.cell? ⟨b4,0,none⟩=some (.string t)∧W1.cell? ⟨b10,0,none⟩=some (.slice (some ⟨gP,offP,none⟩) (places t).length c)∧W1.cell? ⟨b11,0,none⟩=some (.slice (some ⟨gR,0,none⟩) rows.length cR)∧W1.cell? ⟨b5,0,none⟩=some (.int .i64 (k:Nat)):=fun W1 h1=>⟨cell_bel h1 (HF4.out.cell 0),cell_bel h1 (HF10.out.cell 0),cell_bel h1 (HF11.out.cell 0),cell_bel h1 (HF5.out.cell 0)⟩
    have HFr:=Lib.hid hfr
    have HB0:=Lib.hid hb0
    clear hfr hb0 hbV hbX
    have HI3:=Lib.hid hI3
    have HKx:=Lib.hid kx
    have HOv:=Lib.hid hOv
    have HOb:=Lib.hid hOb
    have HRv:=Lib.hid hRv
    have HRow:=Lib.hid hRow2
    have HSpc:=Lib.hid hSpc
    have HCl:=Lib.hid hcl
    have HMg:=Lib.hid hMg
    have HMi:=Lib.hid hMi
    have HXr:=Lib.hid hxr
    have HLow0:=Lib.hid hlow
    have HEnd:=Lib.hid (posAt_end t)
    have hbV:V.heap.size<V0.heap.size:=by omega
    obtain⟨bx,hbxe⟩:∃b,V.heap.size=b:=⟨_,rfl⟩
    rw[hbxe] at HKx hbx hbV h15V hB1V
    have HIb:=Lib.hid hbx
    have hj0l:j0<(places t).length:=by omega
    clear hI2 hI3 kx hOv hOb hRv hMo hMo0 hMp hMg hMi hRow hRow2 hSpc hcl hS hS0 hR0 hAll hK hVz hVl hxi hlow hrow hvW HI0 HSq HK14 HBk HMk HLow HKn HRw hbx
    obtain⟨q4,q10,q11,q5⟩:=HCl.out V0 HLow0.out
    obtain⟨r0c,r1c,r2c,hrW⟩:=HRow.out V0 HLow0.out
    have x4:=HKx.out.cell 4
    have x0:=HKx.out.cell 0
    have x1:=HKx.out.cell 1
    have x2:=HKx.out.cell 2
    have x3:=HKx.out.cell 3
    have y15:=HI3.out.k15.cell 0
    dsimp only[List.getElem?_cons_zero,List.getElem?_cons_succ] at x0 x1 x2 x3 x4 y15
    have p1:(pre.length:Int)<(rows.length:Int):=by omega
    have p0:(0:Int)≤(pre.length:Int):=Int.natCast_nonneg _
    have d11:∀y:WC V0,y.w.cell? ⟨b11,0,none⟩=some (.slice (some ⟨gR,0,none⟩) rows.length cR):=WC.cell q11
    have d15:∀y:WC V0,y.w.cell? ⟨b15,0,none⟩=some (.int .i64 (pre.length:Nat)):=WC.cell y15
    have dx4:∀y:WC V0,y.w.cell? ⟨bx,4,none⟩=some (.slice ov L.length cv):=WC.cell x4
    have dr2:∀y:WC V0,y.w.cell? ⟨gR,pre.length*3+2,none⟩=some (.slice oW L.length cW):=WC.cell r2c
    have HSm:Hid (∀y:WC V0,Calls Tryz.prog 16 #[.slice ov L.length cv,.slice oW L.length cW] y.w fun e w'=>e=.returned (.bool true)∧∃z:WC V0,w'=z.w):=Lib.hid (fun y=>by
     have h1:=sameI_any ov oW cv cW L L y.w (HRv.out.below y.h) (hrW.below y.h) hLl hLl
     simp only[BEq.rfl] at h1
     exact h1.mono fun e w' hh=>⟨hh.1,by obtain⟨k,hk⟩:=hh.2;exact⟨⟨w',by rw[hk];exact (y.h).trans ((drewN_below y.w k).mono y.h.size)⟩,rfl⟩⟩)
    have HRW:=Lib.hid hrW
    clear hrW q4 q10 q5 r0c r1c x0 x1 x2 x3
    gi_upto_region 18 with fail
    refine wpIn_region_wcR (W0:=V0) (by kernel_rfl) (by kernel_rfl) (by kernel_rfl) (Below.refl _ _) ?_
    repeat (first | go_big_quiet_step (((go_at_call 16;(with_reducible exact HSm.out _)))) | quiet_step (((go_at_call 16;(with_reducible exact HSm.out _)))))
    refine wpQuiet_nil ?_
    rintro _ ⟨y1,rfl⟩
    clear d11 d15 dx4 dr2 HSm HRW HRv q11 r2c x4
    have hT1:Tr w9.heap.size It V0 y1.w:=Tr.below y1.h HLow0.out.size
    have hL1:=HLow0.out.trans (y1.h.mono HLow0.out.size)
    obtain⟨q4,q10,q11,_⟩:=HCl.out y1.w hL1
    have hz1:=y1.h.size
    obtain⟨b17,hb17⟩:∃b,y1.w.heap.size=b:=⟨_,rfl⟩
    obtain⟨V2,hV2⟩:∃V2,y1.w.alloc (.cells #[.int .i64 (t.size:Nat),.int .i64 ((places t).length:Nat)] 46)=V2:=⟨_,rfl⟩
    have k17:=Blk.new' y1.w #[.int .i64 (t.size:Nat),.int .i64 ((places t).length:Nat)] 46
    rw[hb17,hV2] at k17
    have hB12:Below y1.w.heap.size y1.w V2:=by rw[←hV2];exact (Below.refl _ _).alloc (Nat.le_refl _) _
    have hB02:=y1.h.trans (hB12.mono hz1)
    have hT2:=hT1.trans (Tr.below (It:=It) hB12 hL1.size)
    have hL2:=hL1.trans (hB12.mono hL1.size)
    have HV2:=Lib.hid hV2
    have HT2:=Lib.hid hT2
    have HK17:=Lib.hid k17
    have HB02:=Lib.hid hB02
    have HB17:=Lib.hid hb17
    have HL2:=Lib.hid hL2
    have hbx17:bx<b17:=by omega
    have hV017:V0.heap.size≤b17:=by omega
    have h1517:b15<b17:=by omega
    clear hb17 hV2 k17 hB12 hB02 hT1 hT2 hL1 hL2
    gi_upto_region 21 with fail
    rw[HV2.out]
    clear HV2 q4 q10 q11
    try rw[HB17.out]
    obtain⟨q4,q10,q11,_⟩:=HCl.out V2 HL2.out
    obtain⟨r0c,r1c,r2c,_⟩:=HRow.out V2 HL2.out
    have y15:=(HI3.out.below hNl h13l h14l HB02.out).k15.cell 0
    dsimp only[List.getElem?_cons_zero] at y15
    have d10:∀y:WC V2,y.w.cell? ⟨b10,0,none⟩=some (.slice (some ⟨gP,offP,none⟩) (places t).length c):=WC.cell q10
    have d11:∀y:WC V2,y.w.cell? ⟨b11,0,none⟩=some (.slice (some ⟨gR,0,none⟩) rows.length cR):=WC.cell q11
    have d15:∀y:WC V2,y.w.cell? ⟨b15,0,none⟩=some (.int .i64 (pre.length:Nat)):=WC.cell y15
    have dr1:∀y:WC V2,y.w.cell? ⟨gR,pre.length*3+1,none⟩=some (.int .i64 (j1:Nat)):=WC.cell r1c
    obtain⟨A0,hA0⟩:∃A,posAt t j0=A:=⟨_,rfl⟩
    obtain⟨A1,hA1⟩:∃A,posAt t j1=A:=⟨_,rfl⟩
    have HS0:=Lib.hid (fun W1 h1=>HSpc.out W1 h1 j0 hj0l)
    rw[hA0] at HS0 HKx
    rw[hA1] at HKx
    have j00:(0:Int)≤(j0:Int):=Int.natCast_nonneg _
    have j10:(0:Int)≤(j1:Int):=Int.natCast_nonneg _
    have j0b:(j0:Int)<((places t).length:Int):=by omega
    have e1:((A0:Int) == (A0:Int))=true:=by simp
    have e2:((j0:Int) == (j0:Int))=true:=by simp
    have e3:((A1:Int) == (A1:Int))=true:=by simp
    have e4:((j1:Int) == (j1:Int))=true:=by simp
    by_cases hj:j1<(places t).length
    ·have jb:(j1:Int)<((places t).length:Int):=by omega
     have HS1:=Lib.hid (fun W1 h1=>HSpc.out W1 h1 j1 hj)
     rw[hA1] at HS1
     clear HSpc
     refine wpIn_region_wcR (W0:=V2) (by kernel_rfl) (by kernel_rfl) (by kernel_rfl) (Below.refl _ _) ?_
     repeat (first | go_big_quiet_step ((fail)) | quiet_step ((fail)))
     refine wpQuiet_nil ?_
     rintro _ ⟨y2,rfl⟩
     have hk17:=HK17.out.keep (Keep.of_below y2.h (fun _=>False)) (by simp)
     have hL2b:=HL2.out.trans (y2.h.mono HL2.out.size)
     have HI4a:=Lib.hid ((HI3.out.below hNl h13l h14l HB02.out).below hNl h13l h14l y2.h)
     obtain⟨q4,q10,q11,_⟩:=HCl.out y2.w hL2b
     obtain⟨r0c,r1c,r2c,_⟩:=HRow.out y2.w hL2b
     have y15b:=HI4a.out.k15.cell 0
     dsimp only[List.getElem?_cons_zero] at y15b
     have s1:=HS1.out y2.w hL2b
     have hgR:gR≠b17:=by have h1:=cell_lt (HRow.out w9 (Below.refl _ _)).2.1;have h2:=HL2.out.size;have h3:=HK17.out.lt;simp only at h1;have h4:=h15V;have h5:=HSz.out;omega
     have hgP:gP≠b17:=by have h1:=cell_lt (HS0.out w9 (Below.refl _ _));simp only at h1;omega
     have h1017:b10≠b17:=by have h5:=HSz.out;omega
     have h1117:b11≠b17:=by have h5:=HSz.out;omega
     have d10w:∀y:WB y2.w b17,y.w.cell? ⟨b10,0,none⟩=some (.slice (some ⟨gP,offP,none⟩) (places t).length c):=WB.cell q10 h1017
     have d11w:∀y:WB y2.w b17,y.w.cell? ⟨b11,0,none⟩=some (.slice (some ⟨gR,0,none⟩) rows.length cR):=WB.cell q11 h1117
     have d15w:∀y:WB y2.w b17,y.w.cell? ⟨b15,0,none⟩=some (.int .i64 (pre.length:Nat)):=WB.cell y15b (by simp only;omega)
     have dr1w:∀y:WB y2.w b17,y.w.cell? ⟨gR,pre.length*3+1,none⟩=some (.int .i64 (j1:Nat)):=WB.cell r1c hgR
     have ds1w:∀y:WB y2.w b17,y.w.cell? ⟨gP,offP+j1*4+1,none⟩=some (.int .i64 (A1:Nat)):=WB.cell s1 hgP
     have hwb:=WB.of (W:=y2.w) hk17
     have HL2b:=Lib.hid hL2b
     have HY2:=Lib.hid y2.h
     clear d10 d11 d15 dr1 q4 q10 q11 r0c r1c r2c y15 s1 hL2b
     gi_upto_region 22 with fail
     haveI hne:Nonempty (WB y2.w b17):=⟨hwb⟩
     refine wpIn_region_storeR_lit (C:=fun w'=>∃y:WB y2.w b17,w'=y.w) (D:=fun w'=>∃y:WB y2.w b17,w'=y.w∧Blk y.w b17 [.int .i64 (A1:Nat),.int .i64 (j1:Nat)] 46) (k:=15) (by rfl) (by rfl) (by kernel_rfl) (by kernel_rfl) (by kernel_rfl) (by kernel_rfl) (by kernel_rfl) (by intro _;rfl) (fun _ h=>by obtain⟨y,hy,_⟩:=h;exact⟨y,hy⟩) ⟨(⟨y2.w.drew,(Keep.refl _ _).drew,_,_,hk17.drew⟩:WB y2.w b17),rfl⟩ ?_
     dsimp only[List.take,List.getElem?_cons_zero,List.getElem?_cons_succ,Option.getD]
     repeat (first | go_big_quiet_step (fail) | quiet_step (fail))
     refine wpQuiet_nil ?_
     refine⟨?_,?_⟩
     ·rintro _ ⟨y,rfl⟩
      obtain⟨v0,v1,hkb⟩:=y.b
      have g0:=hkb.cell 0
      have g1:=hkb.cell 1
      have f0:=hkb.frozen 0
      have f1:=hkb.frozen 1
      dsimp only[List.getElem?_cons_zero,List.getElem?_cons_succ] at g0 g1
      refine⟨(y.w.setCell ⟨b17,0,none⟩ (.int .i64 (A1:Nat))).setCell ⟨b17,1,none⟩ (.int .i64 (j1:Nat)),?_,⟨⟨_,(y.k.setCell (p:=⟨b17,0,none⟩) (fun _=>rfl) _).setCell (p:=⟨b17,1,none⟩) (fun _=>rfl) _,_,_,(hkb.set 0 _).set 1 _⟩,rfl,?_⟩⟩
      ·simp[go_sem,g0,g1,f0,f1]
      ·simpa using (hkb.set 0 (.int .i64 (A1:Nat))).set 1 (.int .i64 (j1:Nat))
     rintro _ ⟨y4,rfl,hk18⟩
     have HK18:=Lib.hid hk18
     have hIt17:¬ It b17:=fun hh=>by have:=HMi.out b17 hh;omega
     have hB117:B1≤b17:=by omega
     have hT4:Tr w9.heap.size It V0 y4.w:=(HT2.out.trans (Tr.below (It:=It) HY2.out HL2.out.size)).trans (y4.tr hk17 HL2b.out.size (by have:=HL2b.out.size;have h9:=HLow0.out.size;omega) hIt17)
     have HT3:=Lib.hid hT4
     have HL3:=Lib.hid (HL2b.out.trans (y4.k.below (fun k hk=>⟨by have:=HL2b.out.size;omega,by have h9:=HLow0.out.size;omega⟩)))
     have HKx4:=Lib.hid (((HKx.out.keep (Keep.of_below HB02.out (fun _=>False)) (by simp)).keep (Keep.of_below HY2.out (fun _=>False)) (by simp)).keep y4.k (by omega))
     have HOv4:=Lib.hid (((HOv.out.keep (fun k hk hl=>HB02.out.block k hl)).keep (fun k hk hl=>HY2.out.block k hl)).keep (fun k hk hl=>y4.k.block k hl (fun e=>by subst e;have h1:=HOv.out.lt hk;omega)))
     have HB4:=Lib.hid (((HB0.out.later HB02.out).later HY2.out).movedB (Y:=y4.w) y4.k.size (fun k hk hn hlt=>y4.k.block k hk.lt (by omega)))
     have HI4:Hid (RunL w9.heap.size bk b14 b15 r m Ds w9 It pre y4.w):=Lib.hid ⟨HL3.out,HI4a.out.k13.keep y4.k (by omega),HI4a.out.k14.keep y4.k (by omega),HI4a.out.k15.keep y4.k (by omega),⟨B1,HB4.out⟩,HI4a.out.marks.keep (fun D hD _ hm=>(y4.k.block D (lt_of_block hm) (by omega)).trans hm),HI4a.out.itl⟩
     clear hk18 hT4 hk17 d10w d11w d15w dr1w ds1w HI4a HY2 HL2b hwb
     obtain⟨q4,q10,q11,_⟩:=HCl.out y4.w HL3.out
     obtain⟨r0c,r1c,r2c,_⟩:=HRow.out y4.w HL3.out
     have y15:=HI4.out.k15.cell 0
     have y13:=HI4.out.k13.cell 0
     have x0:=HKx4.out.cell 0
     have x1:=HKx4.out.cell 1
     have x2:=HKx4.out.cell 2
     have x3:=HKx4.out.cell 3
     have x4:=HKx4.out.cell 4
     have z0:=HK18.out.cell 0
     have z1:=HK18.out.cell 1
     have s0:=HS0.out y4.w HL3.out
     dsimp only[List.getElem?_cons_zero,List.getElem?_cons_succ] at y15 y13 x0 x1 x2 x3 x4 z0 z1
     have d10:∀y:WC y4.w,y.w.cell? ⟨b10,0,none⟩=some (.slice (some ⟨gP,offP,none⟩) (places t).length c):=WC.cell q10
     have d11:∀y:WC y4.w,y.w.cell? ⟨b11,0,none⟩=some (.slice (some ⟨gR,0,none⟩) rows.length cR):=WC.cell q11
     have d15:∀y:WC y4.w,y.w.cell? ⟨b15,0,none⟩=some (.int .i64 (pre.length:Nat)):=WC.cell y15
     have dr0:∀y:WC y4.w,y.w.cell? ⟨gR,pre.length*3,none⟩=some (.int .i64 (j0:Nat)):=WC.cell r0c
     have dx0:∀y:WC y4.w,y.w.cell? ⟨bx,0,none⟩=some (.int .i64 (A0:Nat)):=WC.cell x0
     have dx1:∀y:WC y4.w,y.w.cell? ⟨bx,1,none⟩=some (.int .i64 (j0:Nat)):=WC.cell x1
     have dx2:∀y:WC y4.w,y.w.cell? ⟨bx,2,none⟩=some (.int .i64 (A1:Nat)):=WC.cell x2
     have dx3:∀y:WC y4.w,y.w.cell? ⟨bx,3,none⟩=some (.int .i64 (j1:Nat)):=WC.cell x3
     have dz0:∀y:WC y4.w,y.w.cell? ⟨b17,0,none⟩=some (.int .i64 (A1:Nat)):=WC.cell z0
     have dz1:∀y:WC y4.w,y.w.cell? ⟨b17,1,none⟩=some (.int .i64 (j1:Nat)):=WC.cell z1
     have ds0:∀y:WC y4.w,y.w.cell? ⟨gP,offP+j0*4+1,none⟩=some (.int .i64 (A0:Nat)):=WC.cell s0
     clear q4 q10 q11 r0c r1c r2c x0 x1 x2 x3 z0 z1 s0
     gi_upto_region 23 with fail
     refine wpIn_region_wcR (W0:=y4.w) (by kernel_rfl) (by kernel_rfl) (by kernel_rfl) (Below.refl _ _) ?_
     repeat (first | go_big_quiet_step ((fail)) | quiet_step ((fail)))
     refine wpQuiet_nil ?_
     rintro _ ⟨y5,rfl⟩
     have f13:=cell_bel y5.h y13
     have f4:=cell_bel y5.h x4
     have hz5:=y5.h.size
     have hKp:=bookInt.bookIt_keep (HB4.out.later y5.h) (by omega) (fun k hk=>by
      have h1:=HI4.out.k15.lt
      rcases hk with hk | hk | hk | hk
      ·have:=HMi.out k hk;have h2:=HKx4.out.lt;omega
      ·omega
      ·omega
      ·omega) (HOv4.out.keep (fun k hk hl=>y5.h.block k hl)) HFr.out (by rw[List.length_map];exact hLl)
     rw[List.length_map] at hKp
     have HKp:=Lib.hid hKp
     have HI5:=Lib.hid (HI4.out.below hNl h13l h14l y5.h)
     have HT5:=Lib.hid (HT3.out.trans (Tr.below (It:=It) y5.h HL3.out.size))
     have HL5:=Lib.hid (HL3.out.trans (y5.h.mono HL3.out.size))
     clear hKp d10 d11 d15 dr0 dx0 dx1 dx2 dx3 dz0 dz1 ds0 y13 x4 y15
     gi_wp2_with fail
     refine⟨trivial,(callsIn_wide.2 HKp.out).mono ?_⟩
     rintro e V6 ⟨⟨v6,rfl⟩,hb6,hB6,hi6,hn6⟩
     clear HKp f13 f4
     have k13:=(hi6 (bk+1) (Or.inr (Or.inl rfl)) HI5.out.k13.lt).trans HI5.out.k13
     have k14:=(hi6 b14 (Or.inr (Or.inr (Or.inl rfl))) HI5.out.k14.lt).trans HI5.out.k14
     have k15:=(hi6 b15 (Or.inr (Or.inr (Or.inr rfl))) HI5.out.k15.lt).trans HI5.out.k15
     have k15b:Blk V6 b15 [.int .i64 (pre.length:Nat)] 3:=k15
     have k14b:Blk V6 b14 [.int .i64 (r:Nat)] 3:=k14
     have k13b:Blk V6 (bk+1) [.pointer (some ⟨bk,0,none⟩)] 36:=k13
     have hT6:Tr w9.heap.size It V0 V6:=HT5.out.trans ⟨hB6,hn6,fun k hk hl=>hi6 k (Or.inl hk) hl⟩
     have hL6:=HL5.out.trans (hB6.mono (Nat.le_refl _))
     have hM6:=HI5.out.marks.keep (Y:=V6) (fun D _ _ hm=>hn6 D _ hm rfl)
     have hln:(pre++[x]).length=pre.length+1:=by simp
     have hIt15:¬ It b15:=fun hh=>by have:=HI5.out.itl b15 hh;omega
     have hfin:RunL w9.heap.size bk b14 b15 r m Ds w9 It (pre++[x]) (V6.setCell ⟨b15,0,none⟩ (.int .i64 ((pre.length:Nat)+1))):=by
      refine⟨hL6.setCell (by simp only;omega) _,k13b.other (by simp only;omega) _,k14b.other (by simp only;omega) _,by rw[hln];exact k15b.set 0 _,⟨V6.heap.size,?_⟩,hM6.keep (fun D hD _ hm=>(Below.heap_setCell _ _ _ _ (by simp only;omega)).trans hm),HI5.out.itl⟩
      rw[hln,←Nat.add_assoc]
      exact hb6.moved (by rw[World.size_setCell];exact Nat.le_refl _) (fun k hk hn=>Below.heap_setCell _ _ _ _ (fun e=>hn (Or.inr (Or.inr (Or.inr e)))))
     have hTf:=hT6.set (p:=⟨b15,0,none⟩) k15b hNl hIt15 (.int .i64 ((pre.length:Nat)+1))
     have HFin:=Lib.hid hfin
     have HTf:=Lib.hid hTf
     have g15:=k15b.cell 0
     have f15:=k15b.frozen 0
     have g14:=k14b.cell 0
     have g5:=cell_bel hL6 (show w9.cell? ⟨b5,0,none⟩=some (.int .i64 (k:Nat)) from HF5.out.cell 0)
     dsimp only[List.getElem?_cons_zero] at g15 g14
     have hb5s:b5≠b15:=by have h1:=HSz.out;omega
     have hb14s:b14≠b15:=by omega
     clear hfin hTf hT6 hL6 hM6 hb6 hB6 hi6 hn6 k13 k14 k15 k13b k14b k15b HI5 HT5 HL5
     clear hbk0
     by_cases hbr:r=0∧k<pre.length+1
     ·obtain⟨rfl,hkk⟩:=hbr
      have hd:decide ((k:Int)<(pre.length:Int)+1)=true:=by rw[decide_eq_true_iff];omega
      have hd2:(k:Int)<(pre.length:Int)+1:=by omega
      gi_wp2
      first | exact⟨HTf.out.from_ _,rfl,rfl,HFin.out⟩ | exact⟨HTf.out.from_ _,rfl,HFin.out⟩
     ·rcases (show r=0∨r=1 by omega) with rfl | rfl
      ·have hd:¬ (k:Int)<(pre.length:Int)+1:=by omega
       gi_wp2
       exact⟨HTf.out.round _,HFin.out⟩
      ·gi_wp2
       exact⟨HTf.out.round _,HFin.out⟩
    ·have hje:j1=(places t).length:=by omega
     have jb:¬ (j1:Int)<((places t).length:Int):=by omega
     clear HSpc
     refine wpIn_region_wcR (W0:=V2) (by kernel_rfl) (by kernel_rfl) (by kernel_rfl) (Below.refl _ _) ?_
     repeat (first | go_big_quiet_step ((fail)) | quiet_step ((fail)))
     refine wpQuiet_nil ?_
     rintro _ ⟨y2,rfl⟩
     have hA1e:A1=t.size:=by rw[←hA1,hje];exact HEnd.out
     have hk17:=HK17.out.keep (Keep.of_below y2.h (fun _=>False)) (by simp)
     rw[←hA1e,←hje] at hk17
     have HK18:=Lib.hid hk17
     have HI4:=Lib.hid ((HI3.out.below hNl h13l h14l HB02.out).below hNl h13l h14l y2.h)
     have HL3:=Lib.hid (HL2.out.trans (y2.h.mono HL2.out.size))
     have HT3:=Lib.hid (HT2.out.trans (Tr.below (It:=It) y2.h HL2.out.size))
     have HKx4:=Lib.hid ((HKx.out.keep (Keep.of_below HB02.out (fun _=>False)) (by simp)).keep (Keep.of_below y2.h (fun _=>False)) (by simp))
     have HOv4:=Lib.hid ((HOv.out.keep (fun k hk hl=>HB02.out.block k hl)).keep (fun k hk hl=>y2.h.block k hl))
     have HB4:=Lib.hid ((HB0.out.later HB02.out).later y2.h)
     clear hk17 d10 d11 d15 dr1 q4 q10 q11 r0c r1c r2c y15 hje
     obtain⟨q4,q10,q11,_⟩:=HCl.out y2.w HL3.out
     obtain⟨r0c,r1c,r2c,_⟩:=HRow.out y2.w HL3.out
     have y15:=HI4.out.k15.cell 0
     have y13:=HI4.out.k13.cell 0
     have x0:=HKx4.out.cell 0
     have x1:=HKx4.out.cell 1
     have x2:=HKx4.out.cell 2
     have x3:=HKx4.out.cell 3
     have x4:=HKx4.out.cell 4
     have z0:=HK18.out.cell 0
     have z1:=HK18.out.cell 1
     have s0:=HS0.out y2.w HL3.out
     dsimp only[List.getElem?_cons_zero,List.getElem?_cons_succ] at y15 y13 x0 x1 x2 x3 x4 z0 z1
     have d10:∀y:WC y2.w,y.w.cell? ⟨b10,0,none⟩=some (.slice (some ⟨gP,offP,none⟩) (places t).length c):=WC.cell q10
     have d11:∀y:WC y2.w,y.w.cell? ⟨b11,0,none⟩=some (.slice (some ⟨gR,0,none⟩) rows.length cR):=WC.cell q11
     have d15:∀y:WC y2.w,y.w.cell? ⟨b15,0,none⟩=some (.int .i64 (pre.length:Nat)):=WC.cell y15
     have dr0:∀y:WC y2.w,y.w.cell? ⟨gR,pre.length*3,none⟩=some (.int .i64 (j0:Nat)):=WC.cell r0c
     have dx0:∀y:WC y2.w,y.w.cell? ⟨bx,0,none⟩=some (.int .i64 (A0:Nat)):=WC.cell x0
     have dx1:∀y:WC y2.w,y.w.cell? ⟨bx,1,none⟩=some (.int .i64 (j0:Nat)):=WC.cell x1
     have dx2:∀y:WC y2.w,y.w.cell? ⟨bx,2,none⟩=some (.int .i64 (A1:Nat)):=WC.cell x2
     have dx3:∀y:WC y2.w,y.w.cell? ⟨bx,3,none⟩=some (.int .i64 (j1:Nat)):=WC.cell x3
     have dz0:∀y:WC y2.w,y.w.cell? ⟨b17,0,none⟩=some (.int .i64 (A1:Nat)):=WC.cell z0
     have dz1:∀y:WC y2.w,y.w.cell? ⟨b17,1,none⟩=some (.int .i64 (j1:Nat)):=WC.cell z1
     have ds0:∀y:WC y2.w,y.w.cell? ⟨gP,offP+j0*4+1,none⟩=some (.int .i64 (A0:Nat)):=WC.cell s0
     clear q4 q10 q11 r0c r1c r2c x0 x1 x2 x3 z0 z1 s0
     gi_upto_region 23 with fail
     refine wpIn_region_wcR (W0:=y2.w) (by kernel_rfl) (by kernel_rfl) (by kernel_rfl) (Below.refl _ _) ?_
     repeat (first | go_big_quiet_step ((fail)) | quiet_step ((fail)))
     refine wpQuiet_nil ?_
     rintro _ ⟨y5,rfl⟩
     have f13:=cell_bel y5.h y13
     have f4:=cell_bel y5.h x4
     have hz5:=y5.h.size
     have hKp:=bookInt.bookIt_keep (HB4.out.later y5.h) (by omega) (fun k hk=>by
      have h1:=HI4.out.k15.lt
      rcases hk with hk | hk | hk | hk
      ·have:=HMi.out k hk;have h2:=HKx4.out.lt;omega
      ·omega
      ·omega
      ·omega) (HOv4.out.keep (fun k hk hl=>y5.h.block k hl)) HFr.out (by rw[List.length_map];exact hLl)
     rw[List.length_map] at hKp
     have HKp:=Lib.hid hKp
     have HI5:=Lib.hid (HI4.out.below hNl h13l h14l y5.h)
     have HT5:=Lib.hid (HT3.out.trans (Tr.below (It:=It) y5.h HL3.out.size))
     have HL5:=Lib.hid (HL3.out.trans (y5.h.mono HL3.out.size))
     clear hKp d10 d11 d15 dr0 dx0 dx1 dx2 dx3 dz0 dz1 ds0 y13 x4 y15
     gi_wp2_with fail
     refine⟨trivial,(callsIn_wide.2 HKp.out).mono ?_⟩
     rintro e V6 ⟨⟨v6,rfl⟩,hb6,hB6,hi6,hn6⟩
     clear HKp f13 f4
     have k13:=(hi6 (bk+1) (Or.inr (Or.inl rfl)) HI5.out.k13.lt).trans HI5.out.k13
     have k14:=(hi6 b14 (Or.inr (Or.inr (Or.inl rfl))) HI5.out.k14.lt).trans HI5.out.k14
     have k15:=(hi6 b15 (Or.inr (Or.inr (Or.inr rfl))) HI5.out.k15.lt).trans HI5.out.k15
     have k15b:Blk V6 b15 [.int .i64 (pre.length:Nat)] 3:=k15
     have k14b:Blk V6 b14 [.int .i64 (r:Nat)] 3:=k14
     have k13b:Blk V6 (bk+1) [.pointer (some ⟨bk,0,none⟩)] 36:=k13
     have hT6:Tr w9.heap.size It V0 V6:=HT5.out.trans ⟨hB6,hn6,fun k hk hl=>hi6 k (Or.inl hk) hl⟩
     have hL6:=HL5.out.trans (hB6.mono (Nat.le_refl _))
     have hM6:=HI5.out.marks.keep (Y:=V6) (fun D _ _ hm=>hn6 D _ hm rfl)
     have hln:(pre++[x]).length=pre.length+1:=by simp
     have hIt15:¬ It b15:=fun hh=>by have:=HI5.out.itl b15 hh;omega
     have hfin:RunL w9.heap.size bk b14 b15 r m Ds w9 It (pre++[x]) (V6.setCell ⟨b15,0,none⟩ (.int .i64 ((pre.length:Nat)+1))):=by
      refine⟨hL6.setCell (by simp only;omega) _,k13b.other (by simp only;omega) _,k14b.other (by simp only;omega) _,by rw[hln];exact k15b.set 0 _,⟨V6.heap.size,?_⟩,hM6.keep (fun D hD _ hm=>(Below.heap_setCell _ _ _ _ (by simp only;omega)).trans hm),HI5.out.itl⟩
      rw[hln,←Nat.add_assoc]
      exact hb6.moved (by rw[World.size_setCell];exact Nat.le_refl _) (fun k hk hn=>Below.heap_setCell _ _ _ _ (fun e=>hn (Or.inr (Or.inr (Or.inr e)))))
     have hTf:=hT6.set (p:=⟨b15,0,none⟩) k15b hNl hIt15 (.int .i64 ((pre.length:Nat)+1))
     have HFin:=Lib.hid hfin
     have HTf:=Lib.hid hTf
     have g15:=k15b.cell 0
     have f15:=k15b.frozen 0
     have g14:=k14b.cell 0
     have g5:=cell_bel hL6 (show w9.cell? ⟨b5,0,none⟩=some (.int .i64 (k:Nat)) from HF5.out.cell 0)
     dsimp only[List.getElem?_cons_zero] at g15 g14
     have hb5s:b5≠b15:=by have h1:=HSz.out;omega
     have hb14s:b14≠b15:=by omega
     clear hfin hTf hT6 hL6 hM6 hb6 hB6 hi6 hn6 k13 k14 k15 k13b k14b k15b HI5 HT5 HL5
     clear hbk0
     by_cases hbr:r=0∧k<pre.length+1
     ·obtain⟨rfl,hkk⟩:=hbr
      have hd:decide ((k:Int)<(pre.length:Int)+1)=true:=by rw[decide_eq_true_iff];omega
      have hd2:(k:Int)<(pre.length:Int)+1:=by omega
      gi_wp2
      first | exact⟨HTf.out.from_ _,rfl,rfl,HFin.out⟩ | exact⟨HTf.out.from_ _,rfl,HFin.out⟩
     ·rcases (show r=0∨r=1 by omega) with rfl | rfl
      ·have hd:¬ (k:Int)<(pre.length:Int)+1:=by omega
       gi_wp2
       exact⟨HTf.out.round _,HFin.out⟩
      ·gi_wp2
       exact⟨HTf.out.round _,HFin.out⟩
   case done=>
    rintro D It xs W4 _ hD hS hI hK4
    have hxl:xs.length=rows.length:=by rw[←HRl.out,←hS,List.length_map]
    have HIw:=Lib.hid hI
    have HK4:=Lib.hid hK4
    clear hI hK4 hS HK14 HBk HMk HLow HI0 HSq
    have e14:=HIw.out.k14.cell 0
    have e15:=HIw.out.k15.cell 0
    have e11:=cell_bel HIw.out.low (show w9.cell? ⟨b11,0,none⟩=some (.slice oR rows.length cR) from HF11.out.cell 0)
    dsimp only[List.getElem?_cons_zero] at e14 e15
    rw[hxl] at e15
    have hee:((rows.length:Nat):Int)=((rows.length:Nat):Int):=rfl
    rcases (show r=0∨r=1 by omega) with rfl | rfl
    ·
     obtain⟨b14',hb14'⟩:∃b,W4.heap.size=b:=⟨_,rfl⟩
     have hal:Below W4.heap.size W4 (W4.alloc (.cells #[.int .i64 1] 3)):=(Below.refl _ _).alloc (Nat.le_refl _) _
     have kn:=Blk.new' W4 #[.int .i64 1] 3
     have HNx:Hid (Below w9.heap.size w9 (W4.alloc (.cells #[.int .i64 1] 3))∧Blk (W4.alloc (.cells #[.int .i64 1] 3)) (bk+1) [.pointer (some ⟨bk,0,none⟩)] 36∧Blk (W4.alloc (.cells #[.int .i64 1] 3)) b14' [.int .i64 1] 3∧(∃B1,bookInt.BookIt (fun k=>k=bk+1∨k=b14') w9.heap.size (W4.alloc (.cells #[.int .i64 1] 3)) B1 bk (m+xs.length))∧Marks (W4.alloc (.cells #[.int .i64 1] 3)) w9.heap.size b14' (D::Ds)∧bk+2≤b14'):=Lib.hid (by
      obtain⟨B1,hbi⟩:=HIw.out.book
      have hz15:=HIw.out.k15.lt
      refine⟨HIw.out.low.trans (hal.mono HIw.out.low.size),HIw.out.k13.keep (Keep.of_below hal (fun _=>False)) (by simp),by rw[←hb14'];exact kn,⟨B1,((hbi.less (fun k hk=>?_)).later hal)⟩,?_,by omega⟩
      ·rcases hk with hk | hk
       ·exact Or.inl (Or.inr (Or.inl hk))
       ·exact Or.inr (by omega)
      ·rw[←hb14']
       exact Marks.snoc (hi:=b15) (HIw.out.marks.keep (fun E hE _ hm=>(hal.block E (lt_of_block hm)).trans hm)) hNl (by have:=HZx.out;omega) (lt_of_block HK4.out) ((hal.block D (lt_of_block HK4.out)).trans HK4.out))
     clear hal kn
     go_wp2_with fail
     go_roundg (gk - 1)
     case measure=>omega
     case rel=>
      refine⟨1,b14',m+xs.length,D::Ds,by omega,by first | rfl | (rw[←hb14']),HNx.out.2.2.2.2.2,rfl,by rw[List.length_cons];omega,by omega,Lib.hid HNx.out.1,Lib.hid HNx.out.2.1,Lib.hid HNx.out.2.2.1,Lib.hid HNx.out.2.2.2.1,Lib.hid HNx.out.2.2.2.2.1⟩
    ·
     obtain⟨b14',hb14'⟩:∃b,W4.heap.size=b:=⟨_,rfl⟩
     have hal:Below W4.heap.size W4 (W4.alloc (.cells #[.int .i64 2] 3)):=(Below.refl _ _).alloc (Nat.le_refl _) _
     have kn:=Blk.new' W4 #[.int .i64 2] 3
     have HNx:Hid (Below w9.heap.size w9 (W4.alloc (.cells #[.int .i64 2] 3))∧Blk (W4.alloc (.cells #[.int .i64 2] 3)) (bk+1) [.pointer (some ⟨bk,0,none⟩)] 36∧Blk (W4.alloc (.cells #[.int .i64 2] 3)) b14' [.int .i64 2] 3∧(∃B1,bookInt.BookIt (fun k=>k=bk+1∨k=b14') w9.heap.size (W4.alloc (.cells #[.int .i64 2] 3)) B1 bk (m+xs.length))∧Marks (W4.alloc (.cells #[.int .i64 2] 3)) w9.heap.size b14' (D::Ds)∧bk+2≤b14'):=Lib.hid (by
      obtain⟨B1,hbi⟩:=HIw.out.book
      have hz15:=HIw.out.k15.lt
      refine⟨HIw.out.low.trans (hal.mono HIw.out.low.size),HIw.out.k13.keep (Keep.of_below hal (fun _=>False)) (by simp),by rw[←hb14'];exact kn,⟨B1,((hbi.less (fun k hk=>?_)).later hal)⟩,?_,by omega⟩
      ·rcases hk with hk | hk
       ·exact Or.inl (Or.inr (Or.inl hk))
       ·exact Or.inr (by omega)
      ·rw[←hb14']
       exact Marks.snoc (hi:=b15) (HIw.out.marks.keep (fun E hE _ hm=>(hal.block E (lt_of_block hm)).trans hm)) hNl (by have:=HZx.out;omega) (lt_of_block HK4.out) ((hal.block D (lt_of_block HK4.out)).trans HK4.out))
     clear hal kn
     go_wp2_with fail
     go_roundg (gk - 1)
     case measure=>omega
     case rel=>
      refine⟨2,b14',m+xs.length,D::Ds,by omega,by first | rfl | (rw[←hb14']),HNx.out.2.2.2.2.2,rfl,by rw[List.length_cons];omega,by omega,Lib.hid HNx.out.1,Lib.hid HNx.out.2.1,Lib.hid HNx.out.2.2.1,Lib.hid HNx.out.2.2.2.1,Lib.hid HNx.out.2.2.2.2.1⟩
   case stop=>
    rintro D cc It xs W4 _ hD hp ⟨rfl,rfl,hI⟩ hK4
    have hxl:xs.length≤rows.length:=by have:=hp.length_le;rw[List.length_map,HRl.out] at this;exact this
    have HIw:=Lib.hid hI
    have HK4:=Lib.hid hK4
    clear hI hK4 hp HK14 HBk HMk HLow HI0 HSq
    have e14:=HIw.out.k14.cell 0
    have e15:=HIw.out.k15.cell 0
    have e11:=cell_bel HIw.out.low (show w9.cell? ⟨b11,0,none⟩=some (.slice oR rows.length cR) from HF11.out.cell 0)
    dsimp only[List.getElem?_cons_zero] at e14 e15
    refine (wpIn_wide (n:=12)).2 ?_
    obtain⟨b14',hb14'⟩:∃b,W4.heap.size=b:=⟨_,rfl⟩
    have hal:Below W4.heap.size W4 (W4.alloc (.cells #[.int .i64 1] 3)):=(Below.refl _ _).alloc (Nat.le_refl _) _
    have kn:=Blk.new' W4 #[.int .i64 1] 3
    have HNx:Hid (Below w9.heap.size w9 (W4.alloc (.cells #[.int .i64 1] 3))∧Blk (W4.alloc (.cells #[.int .i64 1] 3)) (bk+1) [.pointer (some ⟨bk,0,none⟩)] 36∧Blk (W4.alloc (.cells #[.int .i64 1] 3)) b14' [.int .i64 1] 3∧(∃B1,bookInt.BookIt (fun k=>k=bk+1∨k=b14') w9.heap.size (W4.alloc (.cells #[.int .i64 1] 3)) B1 bk (m+xs.length))∧Marks (W4.alloc (.cells #[.int .i64 1] 3)) w9.heap.size b14' (D::Ds)∧bk+2≤b14'):=Lib.hid (by
     obtain⟨B1,hbi⟩:=HIw.out.book
     have hz15:=HIw.out.k15.lt
     refine⟨HIw.out.low.trans (hal.mono HIw.out.low.size),HIw.out.k13.keep (Keep.of_below hal (fun _=>False)) (by simp),by rw[←hb14'];exact kn,⟨B1,((hbi.less (fun k hk=>?_)).later hal)⟩,?_,by omega⟩
     ·rcases hk with hk | hk
      ·exact Or.inl (Or.inr (Or.inl hk))
      ·exact Or.inr (by omega)
     ·rw[←hb14']
      exact Marks.snoc (hi:=b15) (HIw.out.marks.keep (fun E hE _ hm=>(hal.block E (lt_of_block hm)).trans hm)) hNl (by have:=HZx.out;omega) (lt_of_block HK4.out) ((hal.block D (lt_of_block HK4.out)).trans HK4.out))
    clear hal kn
    go_wp2_with fail
    go_roundg (gk - 1)
    case measure=>omega
    case rel=>
     refine⟨1,b14',m+xs.length,D::Ds,by omega,by first | rfl | (rw[←hb14']),HNx.out.2.2.2.2.2,rfl,by rw[List.length_cons];omega,by omega,Lib.hid HNx.out.1,Lib.hid HNx.out.2.1,Lib.hid HNx.out.2.2.1,Lib.hid HNx.out.2.2.2.1,Lib.hid HNx.out.2.2.2.2.1⟩
  ·obtain rfl:r=2:=by omega
   obtain⟨B1,hbi⟩:=HBk.out
   have HAp:=Lib.hid (bookInt.bookIt_apart hbi)
   have e13:=HK13.out.cell 0
   dsimp only[List.getElem?_cons_zero] at e13
   clear hbi HBk HSq
   go_wp2_with fail
   (with_reducible refine Calls.mono HAp.out ?_)
   rintro e w12 ⟨rfl,hB12,hn12⟩
   have HM12:=Lib.hid (HMk.out.keep (fun D hD _ hm=>hn12 D _ hm rfl))
   have HB12:=Lib.hid (HLow.out.trans hB12)
   have HW12:=Lib.hid (HFW.out.trans ((HLow.out.trans hB12).mono HFW.out.size))
   clear hB12 hn12 HAp HMk HLow
   go_wp2_with fail
   (with_reducible refine Calls.mono (HKn.out _ HW12.out) ?_)
   rintro e w13 ⟨rfl,hB13⟩
   have hM13:=HM12.out.keep (fun D hD _ hm=>(hB13.block D (lt_of_block hm)).trans hm)
   have k6:=(HF6.out.keep (Keep.of_below HB12.out (fun _=>False)) (by simp)).keep (Keep.of_below hB13 (fun _=>False)) (by simp)
   have e6:=k6.cell 0
   have f6:=k6.frozen 0
   dsimp only[List.getElem?_cons_zero] at e6
   have HB13:=Lib.hid (HW12.out.trans (hB13.mono HW12.out.size))
   have HK:=Lib.hid k6
   have HM13:=Lib.hid hM13
   clear hB13 hM13 k6 HKn
   obtain⟨D2,D1,rfl⟩:∃D2 D1,Ds=[D2,D1]:=by
    match Ds,hDs with
    | [a,b],_=>exact⟨a,b,rfl⟩
   go_wp2_with fail
   obtain⟨hnd,hmm⟩:=HM13.out
   have m2:=(hmm D2 (by simp))
   have m1:=(hmm D1 (by simp))
   have hne:D2≠D1:=by intro e;subst e;simp at hnd
   have hb6D2:D2≠b6:=by have h1:=HSz.out;omega
   have hb6D1:D1≠b6:=by have h1:=HSz.out;omega
   have p2:(w13.setCell ⟨b6,0,none⟩ (.bool true)).heap[D2]?=some (.deferred (some [])):=(Below.heap_setCell _ _ _ _ hb6D2).trans m2.2.2
   have p1:((w13.setCell ⟨b6,0,none⟩ (.bool true)).putObj D2 (.deferred none)).heap[D1]?=some (.deferred (some [])):=(World.putObj_heap_other (fun e=>hne e.symm)).trans ((Below.heap_setCell _ _ _ _ hb6D1).trans m1.2.2)
   refine⟨by simp,.inl ⟨_,_,rfl,run_takeDeferred p2,by simp,.inl ⟨_,_,rfl,run_takeDeferred p1,?_⟩⟩⟩
   have r0:(((w13.setCell ⟨b6,0,none⟩ (.bool true)).putObj D2 (.deferred none)).putObj D1 (.deferred none)).cell? ⟨b6,0,none⟩=some (.bool true):=by
    rw[World.cell?_of_block (World.putObj_heap_other (fun e=>hb6D1 e.symm)),World.cell?_of_block (World.putObj_heap_other (fun e=>hb6D2 e.symm))]
    have:=(HK.out.set 0 (.bool true)).cell 0
    simpa using this
   refine⟨.bool true,by simp[results,Tryz.results4,go_sem,r0],rfl,?_⟩
   have hWb:W.heap.size<b6:=by omega
   have hpo:∀(X:World) (D:Nat) (o:Obj),W.heap.size≤D→Below W.heap.size X (X.putObj D o):=fun X D o hD=>⟨rfl,rfl,rfl,by simp[World.putObj],fun k hk=>World.putObj_heap_other (by omega)⟩
   exact ((HB13.out.setCell (by simp only;omega) _).trans (hpo _ D2 _ (by have h1:=HSz.out;have:=m2.1;omega))).trans (hpo _ D1 _ (by have h1:=HSz.out;have:=m1.1;omega))
end Go.Proofs.YtioehfhdoohdmaaGreatDoor.scriptRuns
