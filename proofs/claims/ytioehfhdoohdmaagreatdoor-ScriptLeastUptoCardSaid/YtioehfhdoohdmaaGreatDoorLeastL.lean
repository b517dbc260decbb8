/- The law ScriptLeast, walked. Printed by gen_least14.py. -/
import Derived.Test.YtioehfhdoohdmaaGreatDoorKnownA
import Derived.Test.YtioehfhdoohdmaaGreatDoorRefLeast
import Derived.Test.YtioehfhdoohdmaaGreatDoorLeastK
import Derived.Test.YtioehfhdoohdmaaGreatDoorFewB
import Derived.Test.YtioehfhdoohdmaaGreatDoorHeldR
import Derived.Test.YtioehfhdoohdmaaGreatDoorCutA
set_option linter.unusedVariables false
set_option linter.unusedSimpArgs false
namespace Go.Proofs.YtioehfhdoohdmaaGreatDoor.scriptLeast
open Go.RowKit Go.Shelf BigFrame
attribute [local go_sem] Oper.semAt_some
theorem run_eq_func_nil {P:Program}(w:World) (t:TypeId) {ps rs:Array TypeId}{v:Bool}(f:Fn) (a b:Array Value) (h:P.underlying t=some (.func ps rs v)):(binOp .eql t (.func f a b) .nilFunc).run P w=.ok (.bool false) w:=by
 have h1:∀d,(Op.equalIn (d+1) t (.func f a b) .nilFunc).run P w=.ok false w:=fun d=>by simp[Op.equalIn,run_underlying h]
 have h2:(Op.equal t (.func f a b) .nilFunc).run P w=.ok false w:=h1 9999
 simp only[binOp]
 simp[h2]
set_option maxRecDepth 100000 in
set_option maxHeartbeats 40000000 in
theorem walk (T:Tab) (a:TAddr) (s:ByteArray) (W:World) (h:TabAt W T a) (hz:Lib.Utf8Tabs 0 1 W) (hr:TabRoom T) (hs:s.size≤1048576):Calls Tryz.prog 5 #[.agg (tabCells T a),.string s] W fun e w'=>e=.returned (.bool true)∧Below W.heap.size W w':=by
 obtain⟨TT,hTT⟩:∃TT:Tab,T=TT:=⟨_,rfl⟩
 have HPo:Hid (∀(W1:World),Below W.heap.size W W1→Calls Tryz.prog 11 #[.agg (tabCells T a)] W1 (OfPost W1 TT)):=Lib.hid (fun W1 h1=>by rw[←hTT];exact keepOf_any T a W1 (h.below h1) (tabs_below hz h1) hr)
 have HKn:Hid (∀(W1:World),Below W.heap.size W W1→Calls Tryz.prog 12 #[] W1 (fun e w'=>e=.returned (.bool true)∧Below W1.heap.size W1 w')):=Lib.hid (fun W1 h1=>known_any W1 (tabs_below hz h1))
 have HFit:Hid (upB TT=true→TabFit TT):=Lib.hid (fun hu=>by rw[←hTT] at hu ⊢;exact hr.fit (by cases hl:largeB T with | false=>rfl | true=>simp[upB,hl] at hu))
 have HRl:Hid (∀(t:ByteArray) (W1:World),t.size≤120→T.scripts.length≤1048576→Below W.heap.size W W1→Calls Tryz.prog 31 #[.agg (tabCells T a),.string t] W1 fun e w'=>e=.returned (.int .i64 (leastN TT t (places t).length:Nat))∧Below W1.heap.size W1 w'):=Lib.hid (fun t W1 ht hl h1=>by rw[←hTT];exact rleast_any T a t W1 (h.below h1) (by omega) hl)
 have hll:TT.scripts.length=T.scripts.length:=by rw[hTT]
 obtain⟨l0,l1,l2,l3,l4,l5,l6,l7⟩:=T
 obtain⟨o0,o1,o2,o3,o4,o5,o6,o7,c0,c1,c2,c3,c4,c5,c6,c7⟩:=a
 simp only[tabCells] at HPo HRl ⊢
 have HC0:Hid (∀W1,Below (W.heap.size+1) (W.alloc (.cells #[.slice o0 l0.length c0,.slice o1 l1.length c1,.slice o2 l2.length c2,.slice o3 l3.length c3,.slice o4 l4.length c4,.slice o5 l5.length c5,.slice o6 l6.length c6,.slice o7 l7.length c7] 28)) W1→W1.cell? ⟨W.heap.size,0,none⟩=some (.slice o0 l0.length c0)∧W1.cell? ⟨W.heap.size,1,none⟩=some (.slice o1 l1.length c1)∧W1.cell? ⟨W.heap.size,2,none⟩=some (.slice o2 l2.length c2)∧W1.cell? ⟨W.heap.size,3,none⟩=some (.slice o3 l3.length c3)∧W1.cell? ⟨W.heap.size,4,none⟩=some (.slice o4 l4.length c4)∧W1.cell? ⟨W.heap.size,5,none⟩=some (.slice o5 l5.length c5)∧W1.cell? ⟨W.heap.size,6,none⟩=some (.slice o6 l6.length c6)∧W1.cell? ⟨W.heap.size,7,none⟩=some (.slice o7 l7.length c7)):=Lib.hid (fun W1 h1=>by
  have hb:Blk W1 W.heap.size [.slice o0 l0.length c0,.slice o1 l1.length c1,.slice o2 l2.length c2,.slice o3 l3.length c3,.slice o4 l4.length c4,.slice o5 l5.length c5,.slice o6 l6.length c6,.slice o7 l7.length c7] 28:=(h1.block W.heap.size (by omega)).trans (Blk.new W _ _)
  exact⟨hb.cell 0,hb.cell 1,hb.cell 2,hb.cell 3,hb.cell 4,hb.cell 5,hb.cell 6,hb.cell 7⟩)
 obtain⟨W0,hW0⟩:∃W0,(((W.alloc (.cells #[.slice o0 l0.length c0,.slice o1 l1.length c1,.slice o2 l2.length c2,.slice o3 l3.length c3,.slice o4 l4.length c4,.slice o5 l5.length c5,.slice o6 l6.length c6,.slice o7 l7.length c7] 28)).alloc (.cells #[.string s] 9)).alloc (.cells #[.bool false] 4))=W0:=⟨_,rfl⟩
 have hB0:Below (W.heap.size+1) (W.alloc (.cells #[.slice o0 l0.length c0,.slice o1 l1.length c1,.slice o2 l2.length c2,.slice o3 l3.length c3,.slice o4 l4.length c4,.slice o5 l5.length c5,.slice o6 l6.length c6,.slice o7 l7.length c7] 28)) W0:=by rw[←hW0];exact ((Below.refl _ _).alloc (by simp) _).alloc (by simp) _
 have k3:Blk W0 (W.heap.size+1) [.string s] 9:=by
  have hb:=(Blk.new' (W.alloc (.cells #[.slice o0 l0.length c0,.slice o1 l1.length c1,.slice o2 l2.length c2,.slice o3 l3.length c3,.slice o4 l4.length c4,.slice o5 l5.length c5,.slice o6 l6.length c6,.slice o7 l7.length c7] 28)) #[.string s] 9).alloc (.cells #[.bool false] 4)
  rw[hW0,World.size_alloc] at hb
  exact hb
 have k4:Blk W0 (W.heap.size+2) [.bool false] 4:=by
  have hb:=Blk.new' ((W.alloc (.cells #[.slice o0 l0.length c0,.slice o1 l1.length c1,.slice o2 l2.length c2,.slice o3 l3.length c3,.slice o4 l4.length c4,.slice o5 l5.length c5,.slice o6 l6.length c6,.slice o7 l7.length c7] 28)).alloc (.cells #[.string s] 9)) #[.bool false] 4
  rw[hW0,World.size_alloc,World.size_alloc] at hb
  exact hb
 have hBW:Below W.heap.size W W0:=((Below.refl _ W).alloc (Nat.le_refl _) _).trans (hB0.mono (by omega))
 have hz00:W0.heap.size=W.heap.size+3:=by rw[←hW0];simp
 have HW0:=Lib.hid hW0
 have HZ0:=Lib.hid hz00
 have HB0:=Lib.hid hB0
 have HBW:=Lib.hid hBW
 have HK3:=Lib.hid k3
 have HK4:=Lib.hid k4
 have HLL:=Lib.hid hll
 have t0123:=HC0.out W0 hB0
 obtain⟨t0,t1,t2,t3,t4,t5,t6,t7⟩:=t0123
 clear hW0 hB0 hBW k3 k4 hz00 h hz hr hTT hll
 refine (callsIn_wide (n:=12)).1 ?_
 refine callsIn_of_wp_marks Tryz.func5 rfl trivial ?_ rfl
 refine wpIn_wide.2 ?_
 simp only[Tryz.ntmps5,List.size_toArray,List.length_cons,List.length_nil,Nat.reduceAdd,Nat.reduceSub,Array.replicate_succ,Array.replicate_zero,List.push_toArray,List.append_toArray,List.nil_append,List.cons_append]
 go_wp2_with fail
 rw[HW0.out]
 clear HW0
 obtain⟨b3,hb3⟩:∃b,W.heap.size+1=b:=⟨_,rfl⟩
 obtain⟨b4,hb4⟩:∃b,W.heap.size+2=b:=⟨_,rfl⟩
 rw[hb3] at HK3
 rw[hb4] at HK4
 rw[show W.heap.size+1+1=b4 from hb4,hb3]
 have b3l:W.heap.size<b3:=by omega
 have b34:b3<b4:=by omega
 have b4l:b4<W0.heap.size:=by have:=HZ0.out;omega
 clear hb3 hb4
 (with_reducible refine Calls.mono (HPo.out _ HBW.out) ?_)
 rintro e w2 ⟨hB2,hrest⟩
 clear HPo t0 t1 t2 t3 t4 t5 t6 t7
 have HB2:=Lib.hid hB2
 have hBW2:=HBW.out.trans (hB2.mono HBW.out.size)
 have HBW2:=Lib.hid hBW2
 have k3:=HK3.out.keep (Keep.of_below hB2 (fun _=>False)) (by simp)
 have k4:=HK4.out.keep (Keep.of_below hB2 (fun _=>False)) (by simp)
 have HK3:=Lib.hid k3
 have HK4:=Lib.hid k4
 clear k3 k4 hB2 hBW2
 rcases hrest with ⟨hu,rfl⟩ | ⟨hu,bb,B,rfl,hbk,hnw,q0,q1,q2,q3,q4,q5⟩
 ·clear hu HFit HRl
  have hBa:Below w2.heap.size w2 (w2.alloc (.cells #[.pointer none] 29)):=(Below.refl _ w2).alloc (Nat.le_refl _) _
  have HBa:=Lib.hid hBa
  clear hBa
  go_wp2_with fail
  (with_reducible refine Calls.mono (HKn.out _ (HBW2.out.trans (HBa.out.mono HBW2.out.size))) ?_)
  rintro e w3 ⟨rfl,hB3⟩
  have k4:=(HK4.out.keep (Keep.of_below HBa.out (fun _=>False)) (by simp)).keep (Keep.of_below hB3 (fun _=>False)) (by simp)
  have e4:=k4.cell 0
  have f4:=k4.frozen 0
  dsimp only[List.getElem?_cons_zero] at e4
  have HB3:=Lib.hid ((HBW2.out.trans (HBa.out.mono HBW2.out.size)).trans (hB3.mono (by have:=HBa.out.size;have:=HBW2.out.size;omega)))
  have HK:=Lib.hid k4
  clear hB3 k4 HBa
  go_wp2_with fail
  refine⟨.bool true,?_,rfl,HB3.out.setCell (by simp only;omega) _⟩
  have r0:=(HK.out.set 0 (.bool true)).cell 0
  dsimp only[List.set_cons_zero,List.getElem?_cons_zero] at r0
  simp[results,Tryz.results5,go_sem,r0]
 have HFt:=Lib.hid (HFit.out hu)
 have hl1:l0.length≤1048576:=by have h:=HFt.out.l0;rw[HLL.out] at h;exact h
 obtain⟨b5,hb5⟩:∃b,w2.heap.size=b:=⟨_,rfl⟩
 obtain⟨w3,hw3⟩:∃w3,(w2.alloc (.cells #[.pointer (some ⟨bb,0,none⟩)] 29))=w3:=⟨_,rfl⟩
 have hB23:Below w2.heap.size w2 w3:=by rw[←hw3];exact (Below.refl _ w2).alloc (Nat.le_refl _) _
 have k5:Blk w3 b5 [.pointer (some ⟨bb,0,none⟩)] 29:=by rw[←hw3,←hb5];exact Blk.new' w2 #[.pointer (some ⟨bb,0,none⟩)] 29
 have hz23:w3.heap.size=b5+1:=by rw[←hw3,World.size_alloc,hb5]
 have hfz:=fewB_size s 120
 have hfw:=few14_any s 120 w3 hs (by omega)
 generalize fewB s 120=t at *
 have HFw:=Lib.hid hfw
 clear hfw
 have ht:t.size≤1048576:=by omega
 have hpl:(places t).length≤120:=Nat.le_trans scan_any_len hfz
 obtain⟨w4,hw4⟩:∃w4,w3.setCell ⟨b3,0,none⟩ (.string t)=w4:=⟨_,rfl⟩
 have hk34:Keep (fun i=>i=b3) w3 w4:=by rw[←hw4];exact (Keep.refl (fun i=>i=b3) w3).setCell (p:=⟨b3,0,none⟩) (fun _=>rfl) _
 have hz34:w4.heap.size=w3.heap.size:=by rw[←hw4,World.size_setCell]
 obtain⟨b1,hb1⟩:∃b,w4.heap.size=b:=⟨_,rfl⟩
 obtain⟨w9,hw9⟩:∃w9,(w4.alloc (.cells #[.pointer (some ⟨bb,0,none⟩)] 29)).alloc (.cells #[.string t] 9)=w9:=⟨_,rfl⟩
 have hB49:Below w4.heap.size w4 w9:=by rw[←hw9];exact ((Below.refl _ w4).alloc (Nat.le_refl _) _).alloc (by simp) _
 have hz49:w9.heap.size=b1+2:=by rw[←hw9,World.size_alloc,World.size_alloc,hb1]
 have kb1:Blk w9 b1 [.pointer (some ⟨bb,0,none⟩)] 29:=by rw[←hw9,←hb1];exact (Blk.new' w4 #[.pointer (some ⟨bb,0,none⟩)] 29).alloc _
 have kb2:Blk w9 (b1+1) [.string t] 9:=by
  have hb:=Blk.new' (w4.alloc (.cells #[.pointer (some ⟨bb,0,none⟩)] 29)) #[.string t] 9
  rw[World.size_alloc,hb1,hw9] at hb
  exact hb
 have hru:=runs_any bb t w4
 rw[hw9,hb1] at hru
 have hw2z:=HB2.out.size
 have hzz:=HZ0.out
 have kf:∀ {b:Nat} {vs:List Value} {ty:TypeId},Blk w3 b vs ty→b≠b3→Blk w9 b vs ty:=fun h hne=>(h.keep hk34 hne).keep (Keep.of_below hB49 (fun _=>False)) (by simp)
 have HF4:=Lib.hid (kf (HK4.out.keep (Keep.of_below hB23 (fun _=>False)) (by simp)) (by omega))
 have HF5:=Lib.hid (kf k5 (by omega))
 have k3w:=HK3.out.keep (Keep.of_below hB23 (fun _=>False)) (by simp)
 have HF3:Hid (Blk w9 b3 [.string t] 9):=Lib.hid ((by rw[←hw4];exact k3w.set 0 _:Blk w4 b3 [.string t] 9).keep (Keep.of_below hB49 (fun _=>False)) (by simp))
 have HFk:=Lib.hid (((BookAt.of_keep (hbk.below hB23) (hnw.below hB23) (b:=b3) (by omega) q0 q1 q2 q3 q4 q5 hk34).1).below hB49)
 have hBs:Below W.heap.size w3 w4:=by rw[←hw4];exact (Below.refl _ w3).setCell (by simp only;omega) _
 have hBs1:Below (W.heap.size+1) w3 w4:=by rw[←hw4];exact (Below.refl _ w3).setCell (by simp only;omega) _
 have HFW:Hid (Below W.heap.size W w9):=Lib.hid (((HBW2.out.trans (hB23.mono HBW2.out.size)).trans hBs).trans (hB49.mono (by have:=HBW2.out.size;omega)))
 have HFT:Hid (Below (W.heap.size+1) (W.alloc (.cells #[.slice o0 l0.length c0,.slice o1 l1.length c1,.slice o2 l2.length c2,.slice o3 l3.length c3,.slice o4 l4.length c4,.slice o5 l5.length c5,.slice o6 l6.length c6,.slice o7 l7.length c7] 28)) w9):=Lib.hid (((HB0.out.trans (HB2.out.mono (by omega))).trans (hB23.mono (by omega))).trans (hBs1.trans (hB49.mono (by omega))))
 have HFb1:=Lib.hid kb1
 have HFb2:=Lib.hid kb2
 have HRu:=Lib.hid hru
 have HW3:=Lib.hid hw3
 have HW4:=Lib.hid hw4
 have e3:=k3w.cell 0
 have f3:=k3w.frozen 0
 have e5:=k5.cell 0
 dsimp only[List.getElem?_cons_zero] at e3 e5
 have e5w:=(k5.keep hk34 (by omega)).cell 0
 dsimp only[List.getElem?_cons_zero] at e5w
 have e3w:w4.cell? ⟨b3,0,none⟩=some (.string t):=by rw[←hw4];simpa using (k3w.set 0 (.string t)).cell 0
 have b45:b4<b5:=by omega
 have b51:b5<b1:=by omega
 have HSz:=Lib.hid hz49
 have HB5e:=Lib.hid hb5
 clear hu HFit hbk hnw q0 q1 q2 q3 q4 q5 hw3 hw4 hw9 hB23 hB49 hk34 kf k3w k5 kb1 kb2 hru hBs hBs1 hz23 hz34 hz49 HK3 HK4 HB0 HB2 HBW HBW2 hzz hw2z hb1 hb5
 go_upto_region 4 with fail
 rw[HW3.out,HB5e.out]
 go_wp2_with fail
 (with_reducible refine Calls.mono HFw.out ?_)
 rintro e w' ⟨rfl,rfl⟩
 clear HFw HW3
 go_upto_region 5 with fail
 rw[HW4.out]
 clear HW4 e3 f3 e5
 go_wp2_with fail
 (with_reducible refine Calls.mono HRu.out ?_)
 rintro e w' ⟨rfl,rfl⟩
 clear HRu e5w e3w
 have hfn:=fun (X:World)=>run_eq_func_nil (P:=Tryz.prog) X 60 (.func 58) #[] #[.pointer (some ⟨b1,0,none⟩),.pointer (some ⟨b1+1,0,none⟩)] Tryz.underlying60
 obtain⟨b9,hb9⟩:∃b,w'.heap.size=b:=⟨_,rfl⟩
 obtain⟨w7,hw7⟩:∃w7,(w'.alloc (.cells #[.int .i64 0] 3)).alloc (.cells #[.int .i64 0,.int .i64 0] 46)=w7:=⟨_,rfl⟩
 have hB97:Below w'.heap.size w' w7:=by rw[←hw7];exact ((Below.refl _ w').alloc (Nat.le_refl _) _).alloc (by simp only[World.size_alloc];omega) _
 have hz97:w7.heap.size=b9+2:=by rw[←hw7,World.size_alloc,World.size_alloc,hb9]
 have k9:Blk w7 b9 [.int .i64 0] 3:=by rw[←hw7,←hb9];exact (Blk.new' w' #[.int .i64 0] 3).alloc _
 have k10:Blk w7 (b9+1) [.int .i64 0,.int .i64 0] 46:=by
  have hb:=Blk.new' (w'.alloc (.cells #[.int .i64 0] 3)) #[.int .i64 0,.int .i64 0] 46
  rw[World.size_alloc,hb9,hw7] at hb
  exact hb
 have hI0:LeastSt w'.heap.size b9 (b9+1) t w' (fun _=>False) [] w7:=⟨hB97,k9,by have e:=posAt_zero t;show Blk w7 (b9+1) [.int .i64 (posAt t 0:Nat),.int .i64 (0:Nat)] _;rw[e];exact k10,fun _ h=>h.elim⟩
 have HSq:Hid (SeqM (fun _=>True) Fence.wide 11 3 Tryz.prog 58 #[.pointer (some ⟨b1,0,none⟩),.pointer (some ⟨b1+1,0,none⟩)] (encR t) (memR (runsL TT t)) (Below w'.heap.size) (fun xs=>xs.map (fun y:RunM=>y.it)=runsL TT t) (fun pre=>pre.map (fun y:RunM=>y.it) <+: runsL TT t) (runsL TT t).length w'):=Lib.hid (runs1_seq TT bb B t 11 (by omega) w' HFk.out HFt.out ht b1 (b1+1) (HFb1.out.cell 0) (HFb2.out.cell 0))
 have HPc:Hid (∀r∈runsL TT t,_):=Lib.hid (fun r (h:r∈runsL TT t)=>run_piece TT t h)
 have HPr:Hid (∀r∈runsL TT t,_):=Lib.hid (fun r (h:r∈runsL TT t)=>runs_row TT t h)
 have HFw9:=Lib.hid (fun r (h:r∈runsL TT t)=>runs_few TT t h)
 have HCh:=Lib.hid (runs_chain TT t)
 have HRe:=Lib.hid (runs_least TT t)
 have HCt:=Lib.hid (runs_cnt TT t)
 have HW7:=Lib.hid hw7
 have HB97:=Lib.hid hB97
 have HI0:=Lib.hid hI0
 have HZ7:=Lib.hid hz97
 have HB9:=Lib.hid hb9
 clear hw7 hB97 hI0 hz97 k9 k10
 go_wp2_with fail
 rw[HW7.out]
 clear HW7 hfn
 have hNl:w'.heap.size≤b9:=by omega
 clear hb9
 refine (wpIn_wide (n:=12)).1 ?_
 refine wpIn_rangeFunc_M (Al:=fun _=>True) trivial rfl (by omega) (gf:=58) (lb:=#[.pointer (some ⟨b1,0,none⟩),.pointer (some ⟨b1+1,0,none⟩)]) rfl trivial (enters_of Tryz.func58 (by kernel_rfl) rfl) HSq.out (fun a b=>Below.trans a b) (fun X l o1 o2 hl ho hc hw=>⟨rfl,rfl,rfl,by simp[World.putObj],fun k hk=>World.putObj_heap_other (by have h1:=HZ7.out;have h2:=hNl;have h3:w7.heap.size≤l:=hl;omega)⟩) HI0.out.low (fun _=>rfl) (LeastSt w'.heap.size b9 (b9+1) t w') (fun cc It pre X=>False) (LeastSt.bears hNl (Nat.lt_succ_self _) (by have:=HZ7.out;omega)) (fun cc=>⟨fun It pre X Y hA h hS=>h,fun It It' pre X _ _ h hi=>h⟩) HI0.out ?rnd ?done ?stop
 case rnd=>
  rintro l It pre x X V K _ hItl hI hS hM hlen hK
  obtain⟨hMo,hMp,hMg,hMi⟩:=hM
  have hI2:=hI.stir hNl (Nat.lt_succ_self _) (by have:=HZ7.out;omega) hS
  clear hI
  obtain⟨ov,cv,hxv,_,_,_⟩:=own_rdm hMo
  unfold encR
  rw[hxv]
  gi_wp2
  have hAll:Below V.heap.size V (V.alloc (.cells #[.int .i64 (posAt t x.it.1:Nat),.int .i64 (x.it.1:Nat),.int .i64 (posAt t x.it.2.1:Nat),.int .i64 (x.it.2.1:Nat),.slice ov x.it.2.2.length cv] 64)):=(Below.refl _ _).alloc (Nat.le_refl _) _
  have hVl:w'.heap.size≤V.heap.size:=hI2.low.size
  refine hK _ _ ((Tr.below (B:=w'.heap.size) (It:=It) hAll hVl).round _) ((Tr.below (B:=w'.heap.size) (It:=It) hAll hVl).from_ _) ?_
  intro V0 hS0 hR0
  have hI3:=(hI2.below hNl (Nat.lt_succ_self _) hAll).stir hNl (Nat.lt_succ_self _) (by have:=HZ7.out;omega) hS0
  have hbx:¬ It V.heap.size:=fun hh=>by have:=hMi _ hh;omega
  have kx:Blk V0 V.heap.size [.int .i64 (posAt t x.it.1:Nat),.int .i64 (x.it.1:Nat),.int .i64 (posAt t x.it.2.1:Nat),.int .i64 (x.it.2.1:Nat),.slice ov x.it.2.2.length cv] 64:=hS0.blk (Blk.new' V #[.int .i64 (posAt t x.it.1:Nat),.int .i64 (x.it.1:Nat),.int .i64 (posAt t x.it.2.1:Nat),.int .i64 (x.it.2.1:Nat),.slice ov x.it.2.2.length cv] 64) hbx
  have hVz:V.heap.size+1≤V0.heap.size:=by have:=hS0.size;simp only[World.size_alloc] at this;omega
  have h10V:b9+1<V.heap.size:=hI2.k10.lt
  have hMo0:V0.ownsRow X.heap.size 3 1 x.v x.it.2.2.length (iV x.it.2.2):=by
   have h1:=own_later hMo hAll
   refine⟨h1.1,?_⟩
   rcases h1.2 with h2 | ⟨q,cap,cur,hv,q0,hq,q1⟩
   ·exact Or.inl h2
   ·exact Or.inr ⟨q,cap,cur,hv,q0,hS0.blk hq (hMg q _ cap hv),q1⟩
  obtain⟨ov2,cv2,hxv2,_,_,hRv,_⟩:=own_rdm hMo0
  obtain⟨rfl,rfl⟩:ov=ov2∧cv=cv2:=by rw[hxv] at hxv2;simpa using hxv2
  clear hxv2
  have hxi:x.it∈runsL TT t:=List.mem_of_getElem? (pre_at hMp)
  have hxr:=HPr.out x.it hxi
  have hxp:=HPc.out x.it hxi
  have hxf:=HFw9.out x.it hxi
  obtain⟨hc1,hc2⟩:=pre_chain hMp
  have hLb:=HFt.out.l0
  have hk10:=hI3.k10
  rw[←hc1] at hk10
  have hk9:=hI3.k9
  obtain⟨j0,hj0⟩:∃j,x.it.1=j:=⟨_,rfl⟩
  obtain⟨j1,hj1⟩:∃j,x.it.2.1=j:=⟨_,rfl⟩
  obtain⟨L,hL⟩:∃L,x.it.2.2=L:=⟨_,rfl⟩
  rw[hj0,hj1,hL] at kx hxp
  rw[hj0] at hk10
  rw[hL] at hRv hxf
  have hpj:posAt t (endOf 0 ((pre++[x]).map fun y:RunM=>y.it))=posAt t j1:=by rw[hc2,hj1]
  have hej:endOf 0 ((pre++[x]).map fun y:RunM=>y.it)=j1:=by rw[hc2,hj1]
  obtain⟨A0,hA0⟩:∃A,posAt t j0=A:=⟨_,rfl⟩
  obtain⟨A1,hA1⟩:∃A,posAt t j1=A:=⟨_,rfl⟩
  rw[hA0,hA1] at kx hxp
  rw[hA0] at hk10
  rw[hA1] at hpj
  obtain⟨hA01,hA1s,hpc⟩:=hxp
  obtain⟨pc,hpce⟩:∃pc,t.extract A0 A1=pc:=⟨_,rfl⟩
  rw[hpce] at hpc
  have hpcs:pc.size≤1048576:=by rw[←hpce,ByteArray.size_extract];omega
  have HSt:Hid (∀W1,Below w'.heap.size w' W1→Calls Tryz.prog 19 #[.pointer (some ⟨bb,0,none⟩),.string pc] W1 (StopPost W1 (stopN TT pc))):=Lib.hid (fun W1 h1=>sstop_any TT bb B pc W1 (HFk.out.below h1) HFt.out hpcs)
  have HCo:Hid (∀W1,Calls Tryz.prog 30 #[.string pc] W1 fun e w2=>e=.returned (.int .i64 (places pc).length)∧Below W1.heap.size W1 w2):=Lib.hid (fun W1=>count_any pc W1 hpcs)
  have HOf:Hid (∀W1,Below w'.heap.size w' W1→Calls Tryz.prog 15 #[.pointer (some ⟨bb,0,none⟩),.string pc] W1 (OwnPost W1 (foldO TT pc (places pc)))):=Lib.hid (fun W1 h1=>sof_any TT bb B pc W1 (HFk.out.below h1) HFt.out hpcs)
  obtain⟨sv,hsv⟩:∃sv,stopN TT pc=sv:=⟨_,rfl⟩
  rw[hsv] at hpc
  have HSt2:=HSt.out
  simp only[hsv] at HSt2
  unfold StopPost stopV at HSt2
  have HSt:=Lib.hid HSt2
  clear HSt2 hsv
  obtain⟨PX,hPX⟩:∃X:Nat,(sv.getD (0,0)).1=X:=⟨_,rfl⟩
  obtain⟨PY,hPY⟩:∃Y:Nat,(sv.getD (0,0)).2=Y:=⟨_,rfl⟩
  obtain⟨mb,hmb⟩:∃b:Bool,sv.isSome=b:=⟨_,rfl⟩
  rw[hPX,hPY,hmb] at HSt
  rw[hmb] at hpc
  clear hPX hPY hmb
  have HPc2:=Lib.hid hpc
  have HI3:=Lib.hid hI3
  have HKx:=Lib.hid kx
  have HK10:=Lib.hid hk10
  have HK9:=Lib.hid hk9
  have HRv:=Lib.hid hRv
  have HMi2:=Lib.hid hMi
  have HNx:=Lib.hid (And.intro hpj hej)
  have HPe:=Lib.hid hpce
  have hV0z:w'.heap.size≤V0.heap.size:=by omega
  have hbV:V.heap.size<V0.heap.size:=by omega
  obtain⟨bx,hbxe⟩:∃b,V.heap.size=b:=⟨_,rfl⟩
  rw[hbxe] at HKx hbx hbV h10V HMi2
  have hlow:=HI3.out.low
  have hpl1:pre.length≤120:=by have h1:=HRe.out;have h2:=least_le TT t (places t).length;omega
  clear hpc hI2 hI3 kx hk10 hk9 hRv hMo hMo0 hMp hMg hMi hS hS0 hR0 hAll hK hVz hVl hxi hc1 hc2 hj0 hj1 hL hA0 hA1 hpj hej hpce HPr HPc HFw9 HCh HRe HCt HKn HRl HSq HI0 HB97
  have x0:=HKx.out.cell 0
  have x1:=HKx.out.cell 1
  have x2:=HKx.out.cell 2
  have x4:=HKx.out.cell 4
  have z0:=HK10.out.cell 0
  have z1:=HK10.out.cell 1
  have e3:=cell_bel hlow (show w'.cell? ⟨b3,0,none⟩=some (.string t) from HF3.out.cell 0)
  have e5:=cell_bel hlow (show w'.cell? ⟨b5,0,none⟩=some (.pointer (some ⟨bb,0,none⟩)) from HF5.out.cell 0)
  dsimp only[List.getElem?_cons_zero,List.getElem?_cons_succ] at x0 x1 x2 x4 z0 z1
  have c1:((A0:Int) == (A0:Int))=true:=by simp
  have c2:((j0:Int) == (j0:Int))=true:=by simp
  have c3:¬ (A1:Int)≤(A0:Int):=by omega
  have c4:¬ (t.size:Int)<(A1:Int):=by omega
  have c5:(A0:Int)≤(A1:Int):=by omega
  have c6:(A1:Int)≤(t.size:Int):=by omega
  have c7:(0:Int)≤(A0:Int):=Int.natCast_nonneg _
  have K1:=Lib.hid (HSt.out V0 hlow)
  have HLow:=Lib.hid hlow
  clear hlow HSt
  gi_wp2_with fail
  rw[HPe.out]
  refine⟨trivial,(callsIn_wide.2 K1.out).mono ?_⟩
  rintro e V1 ⟨rfl,hB1⟩
  clear K1 x0 x1 x2 x4 z0 z1 e3 e5 c1 c2 c3 c4 c5 c6 c7
  obtain⟨V2,hV2⟩:∃V2,V1.alloc (.cells #[.int .i64 (PX:Nat),.int .i64 (PY:Nat)] 46)=V2:=⟨_,rfl⟩
  have hB12:Below V1.heap.size V1 V2:=by rw[←hV2];exact (Below.refl _ _).alloc (Nat.le_refl _) _
  have hB02:=hB1.trans (hB12.mono hB1.size)
  have HV2:=Lib.hid hV2
  have HB02:=Lib.hid hB02
  have hl2:=HLow.out.trans (hB02.mono HLow.out.size)
  have e5:∀y:WC V2,y.w.cell? ⟨b5,0,none⟩=some (.pointer (some ⟨bb,0,none⟩)):=WC.cell (cell_bel hl2 (HF5.out.cell 0))
  have x4:∀y:WC V2,y.w.cell? ⟨bx,4,none⟩=some (.slice ov L.length cv):=WC.cell (cell_bel hB02 (HKx.out.cell 4))
  have HL2:=Lib.hid hl2
  have HRv2:=Lib.hid (HRv.out.below hB02)
  clear hV2 hB1 hB12 hB02 hl2
  have hS0:(fun w2=>∃y:WC V2,w2=y.w) V2.drew:=⟨⟨_,(Below.refl _ _).drew⟩,rfl⟩
  cases mb with
  | false=>
   have hfo:foldO TT pc (places pc)=L:=by rcases HPc2.out with ⟨_,h⟩ | ⟨h,_⟩;exact h;exact absurd h (by decide)
   have HO2:=HOf.out
   simp only[hfo] at HO2
   have HOf:=Lib.hid HO2
   clear HO2 hfo HCo
   gi_upto_region 16 with fail
   rw[HV2.out]
   clear HV2
   refine wpIn_region_heldR (fun w2=>∃y:WC V2,w2=y.w) (by kernel_rfl) (by kernel_rfl) (fun ⟨_,_,h⟩=>h) ?_
   refine wpAnyH_reads (by kernel_rfl) (fun _ _ _ _ _ h=>h) hS0 [0,1] 26 _ _ _ (by rfl) (by kernel_rfl) ?_
   simp only[List.filterMap_cons,List.filterMap_nil,List.getElem?_toArray,List.getElem?_cons_zero,List.getElem?_cons_succ]
   repeat (first | go_big_quiet_step (fail) | quiet_step (fail))
   refine wpQuiet_nil ?_
   refine wpAnyH_offs (by kernel_rfl) (fun _ _ _ _ _ h=>h) hS0 [2,3,4] 23 _ _ _ (by rfl) (by kernel_rfl) (by kernel_rfl) ?_
   simp only[List.filterMap_cons,List.filterMap_nil,List.getElem?_toArray,List.getElem?_cons_zero,List.getElem?_cons_succ,Offs,Act.put,List.setIfInBounds_toArray,List.set_cons_zero,List.set_cons_succ]
   refine⟨by rfl,by rfl,by rfl,?_⟩
   refine wpAnyH_reads (by kernel_rfl) (fun _ _ _ _ _ h=>h) hS0 [5,6,7,8,9,10,11,13,14] 14 _ _ _ (by rfl) (by kernel_rfl) ?_
   simp only[List.filterMap_cons,List.filterMap_nil,List.getElem?_toArray,List.getElem?_cons_zero,List.getElem?_cons_succ]
   repeat (first | go_big_quiet_step (fail) | quiet_step (fail))
   refine wpQuiet_nil ?_
   refine wpAnyH_ready (rs:=[12]) (by kernel_rfl) (by simp) (AllReadyH.cons rfl (fun K hK=>?_) AllReadyH.nil)
   go_simp
   refine (HOf.out _ (HL2.out.trans ((Below.refl _ V2).drew.mono HL2.out.size))).mono ?_
   rintro e V4 ⟨g4,c4q,rfl,ho4,hB4⟩
   have hB24:Below V2.heap.size V2 V4:=(Below.refl _ V2).drew.trans hB4
   have hS4:(fun w2=>∃y:WC V2,w2=y.w) V4:=⟨⟨_,hB24⟩,rfl⟩
   have hsm:=sameI_any (some ⟨g4,0,none⟩) ov c4q cv L L V4 (own_rd' ho4) (HRv2.out.below hB24) (by omega) (by omega)
   simp only[BEq.rfl] at hsm
   have HSm:=Lib.hid hsm
   have HB24:=Lib.hid hB24
   clear hsm ho4 hB4 hB24
   refine hK.out _ _ hS4 (fun _=>?_)
   clear hK K
   refine wpAnyH_ready (rs:=[15]) (by kernel_rfl) (by simp) (AllReadyH.cons rfl (fun K hK=>?_) AllReadyH.nil)
   go_simp
   refine HSm.out.mono ?_
   rintro e w5 ⟨rfl,k5,rfl⟩
   have hB5:Below V2.heap.size V2 (V4.drewN k5):=HB24.out.trans ((drewN_below V4 k5).mono HB24.out.size)
   generalize V4.drewN k5=V5 at *
   have hS5:(fun w2=>∃y:WC V2,w2=y.w) V5:=⟨⟨_,hB5⟩,rfl⟩
   refine hK.out _ _ hS5 (fun _=>?_)
   clear hK K HSm
   refine wpAnyH_reads (by kernel_rfl) (fun _ _ _ _ _ h=>h) hS5 [16,17,18,19,20,21] 6 _ _ _ (by rfl) (by kernel_rfl) ?_
   simp only[List.filterMap_cons,List.filterMap_nil,List.getElem?_toArray,List.getElem?_cons_zero,List.getElem?_cons_succ]
   repeat (first | go_big_quiet_step (fail) | quiet_step (fail))
   refine wpQuiet_nil ?_
   refine wpAnyH_offs (by kernel_rfl) (fun _ _ _ _ _ h=>h) hS5 [22,23,24,25] 2 _ _ _ (by rfl) (by kernel_rfl) (by kernel_rfl) ?_
   simp only[List.filterMap_cons,List.filterMap_nil,List.getElem?_toArray,List.getElem?_cons_zero,List.getElem?_cons_succ,Offs,Act.put,List.setIfInBounds_toArray,List.set_cons_zero,List.set_cons_succ]
   refine⟨by rfl,by rfl,by rfl,by rfl,?_⟩
   refine wpAnyH_reads (by kernel_rfl) (fun _ _ _ _ _ h=>h) hS5 [26,27] 0 _ _ _ (by rfl) (by kernel_rfl) ?_
   simp only[List.filterMap_cons,List.filterMap_nil,List.getElem?_toArray,List.getElem?_cons_zero,List.getElem?_cons_succ]
   repeat (first | go_big_quiet_step (fail) | quiet_step (fail))
   refine wpQuiet_nil ?_
   refine wpAnyH_done (by kernel_rfl) ?_ _
   clear e5 x4 hS0 hS4 hS5
   have HB5:=Lib.hid (HB02.out.trans (hB5.mono HB02.out.size))
   clear hB5
   have k10:=HK10.out.keep (Keep.of_below HB5.out (fun _=>False)) (by simp)
   have k9:=HK9.out.keep (Keep.of_below HB5.out (fun _=>False)) (by simp)
   have kx:=HKx.out.keep (Keep.of_below HB5.out (fun _=>False)) (by simp)
   have x2:=kx.cell 2
   have x3:=kx.cell 3
   have z0:=k10.cell 0
   have z1:=k10.cell 1
   have g0:=k10.frozen 0
   have g1:=k10.frozen 1
   have n0:=k9.cell 0
   have m0:=k9.frozen 0
   dsimp only[List.getElem?_cons_zero,List.getElem?_cons_succ] at x2 x3 z0 z1 n0
   have hln:(pre++[x]).length=pre.length+1:=by simp
   have hIt9:¬ It b9:=fun hh=>by have:=HI3.out.itl b9 hh;omega
   have hIt10:¬ It (b9+1):=fun hh=>by have:=HI3.out.itl (b9+1) hh;omega
   have hT:=((((Tr.below (It:=It) HB5.out hV0z).set (p:=⟨b9+1,0,none⟩) k10 (by simp only;omega) hIt10 (.int .i64 (A1:Nat))).set (p:=⟨b9+1,1,none⟩) (k10.set 0 _) (by simp only;omega) hIt10 (.int .i64 (j1:Nat))).set (p:=⟨b9,0,none⟩) ((k9.other (by simp only;omega) _).other (by simp only;omega) _) (by simp only;omega) hIt9 (.int .i64 ((pre.length:Nat)+1)))
   have hfin:LeastSt w'.heap.size b9 (b9+1) t w' It (pre++[x]) ((((V5).setCell ⟨b9+1,0,none⟩ (.int .i64 (A1:Nat))).setCell ⟨b9+1,1,none⟩ (.int .i64 (j1:Nat))).setCell ⟨b9,0,none⟩ (.int .i64 ((pre.length:Nat)+1))):=by
    refine⟨(((HLow.out.trans (HB5.out.mono hV0z)).setCell (by simp only;omega) _).setCell (by simp only;omega) _).setCell (by simp only;omega) _,by rw[hln];exact ((k9.other (by simp only;omega) _).other (by simp only;omega) _).set 0 _,?_,HI3.out.itl⟩
    rw[HNx.out.1,HNx.out.2]
    exact ((k10.set 0 _).set 1 _).other (by simp only;omega) _
   have HFin:=Lib.hid hfin
   have HTf:=Lib.hid hT
   clear hT hfin k10 k9 kx hIt9 hIt10
   gi_wp2
   exact⟨HTf.out.round _,HFin.out⟩
  | true=>
   obtain⟨hn1,hL0⟩:(places pc).length=1∧L=[]:=by rcases HPc2.out with ⟨h,_⟩ | ⟨_,h⟩;exact absurd h (by decide);exact h
   have HC2:=HCo.out
   simp only[hn1] at HC2
   have HCo:=Lib.hid HC2
   have hLz:L.length=0:=by rw[hL0];rfl
   have x4z:=x4
   rw[hLz] at x4z
   clear HC2 HOf x4
   gi_upto_region 16 with fail
   rw[HV2.out]
   clear HV2
   refine wpIn_region_heldR (fun w2=>∃y:WC V2,w2=y.w) (by kernel_rfl) (by kernel_rfl) (fun ⟨_,_,h⟩=>h) ?_
   refine wpAnyH_reads (by kernel_rfl) (fun _ _ _ _ _ h=>h) hS0 [0,1,2] 25 _ _ _ (by rfl) (by kernel_rfl) ?_
   simp only[List.filterMap_cons,List.filterMap_nil,List.getElem?_toArray,List.getElem?_cons_zero,List.getElem?_cons_succ]
   repeat (first | go_big_quiet_step (fail) | quiet_step (fail))
   refine wpQuiet_nil ?_
   refine wpAnyH_ready (rs:=[3]) (by kernel_rfl) (by simp) (AllReadyH.cons rfl (fun K hK=>?_) AllReadyH.nil)
   go_simp
   refine (HCo.out _).mono ?_
   rintro e V5 ⟨rfl,hB5a⟩
   have hB5:Below V2.heap.size V2 V5:=(Below.refl _ V2).drew.trans hB5a
   clear hB5a
   have hS5:(fun w2=>∃y:WC V2,w2=y.w) V5:=⟨⟨_,hB5⟩,rfl⟩
   refine hK.out _ _ hS5 (fun _=>?_)
   clear hK K
   refine wpAnyH_reads (by kernel_rfl) (fun _ _ _ _ _ h=>h) hS5 [4,5,6,7,8,9] 18 _ _ _ (by rfl) (by kernel_rfl) ?_
   simp only[List.filterMap_cons,List.filterMap_nil,List.getElem?_toArray,List.getElem?_cons_zero,List.getElem?_cons_succ]
   repeat (first | go_big_quiet_step (fail) | quiet_step (fail))
   refine wpQuiet_nil ?_
   refine wpAnyH_offs (by kernel_rfl) (fun _ _ _ _ _ h=>h) hS5 [10,11,12,13,14,15,16] 11 _ _ _ (by rfl) (by kernel_rfl) (by kernel_rfl) ?_
   simp only[List.filterMap_cons,List.filterMap_nil,List.getElem?_toArray,List.getElem?_cons_zero,List.getElem?_cons_succ,Offs,Act.put,List.setIfInBounds_toArray,List.set_cons_zero,List.set_cons_succ]
   refine⟨by rfl,by rfl,by rfl,by rfl,by rfl,by rfl,by rfl,?_⟩
   refine wpAnyH_reads (by kernel_rfl) (fun _ _ _ _ _ h=>h) hS5 [17,18,19,20,21,22,23] 4 _ _ _ (by rfl) (by kernel_rfl) ?_
   simp only[List.filterMap_cons,List.filterMap_nil,List.getElem?_toArray,List.getElem?_cons_zero,List.getElem?_cons_succ]
   repeat (first | go_big_quiet_step (fail) | quiet_step (fail))
   refine wpQuiet_nil ?_
   refine wpAnyH_ready (rs:=[24]) (by kernel_rfl) (by simp) (AllReadyH.cons rfl (fun K hK=>?_) AllReadyH.nil)
   go_simp
   refine hK.out _ _ hS5 (fun _=>?_)
   clear hK K
   refine wpAnyH_reads (by kernel_rfl) (fun _ _ _ _ _ h=>h) hS5 [25,26,27] 0 _ _ _ (by rfl) (by kernel_rfl) ?_
   simp only[List.filterMap_cons,List.filterMap_nil,List.getElem?_toArray,List.getElem?_cons_zero,List.getElem?_cons_succ]
   repeat (first | go_big_quiet_step (fail) | quiet_step (fail))
   refine wpQuiet_nil ?_
   refine wpAnyH_done (by kernel_rfl) ?_ _
   clear e5 x4z hS0 hS5
   have HB5:=Lib.hid (HB02.out.trans (hB5.mono HB02.out.size))
   clear hB5
   have k10:=HK10.out.keep (Keep.of_below HB5.out (fun _=>False)) (by simp)
   have k9:=HK9.out.keep (Keep.of_below HB5.out (fun _=>False)) (by simp)
   have kx:=HKx.out.keep (Keep.of_below HB5.out (fun _=>False)) (by simp)
   have x2:=kx.cell 2
   have x3:=kx.cell 3
   have z0:=k10.cell 0
   have z1:=k10.cell 1
   have g0:=k10.frozen 0
   have g1:=k10.frozen 1
   have n0:=k9.cell 0
   have m0:=k9.frozen 0
   dsimp only[List.getElem?_cons_zero,List.getElem?_cons_succ] at x2 x3 z0 z1 n0
   have hln:(pre++[x]).length=pre.length+1:=by simp
   have hIt9:¬ It b9:=fun hh=>by have:=HI3.out.itl b9 hh;omega
   have hIt10:¬ It (b9+1):=fun hh=>by have:=HI3.out.itl (b9+1) hh;omega
   have hT:=((((Tr.below (It:=It) HB5.out hV0z).set (p:=⟨b9+1,0,none⟩) k10 (by simp only;omega) hIt10 (.int .i64 (A1:Nat))).set (p:=⟨b9+1,1,none⟩) (k10.set 0 _) (by simp only;omega) hIt10 (.int .i64 (j1:Nat))).set (p:=⟨b9,0,none⟩) ((k9.other (by simp only;omega) _).other (by simp only;omega) _) (by simp only;omega) hIt9 (.int .i64 ((pre.length:Nat)+1)))
   have hfin:LeastSt w'.heap.size b9 (b9+1) t w' It (pre++[x]) ((((V5).setCell ⟨b9+1,0,none⟩ (.int .i64 (A1:Nat))).setCell ⟨b9+1,1,none⟩ (.int .i64 (j1:Nat))).setCell ⟨b9,0,none⟩ (.int .i64 ((pre.length:Nat)+1))):=by
    refine⟨(((HLow.out.trans (HB5.out.mono hV0z)).setCell (by simp only;omega) _).setCell (by simp only;omega) _).setCell (by simp only;omega) _,by rw[hln];exact ((k9.other (by simp only;omega) _).other (by simp only;omega) _).set 0 _,?_,HI3.out.itl⟩
    rw[HNx.out.1,HNx.out.2]
    exact ((k10.set 0 _).set 1 _).other (by simp only;omega) _
   have HFin:=Lib.hid hfin
   have HTf:=Lib.hid hT
   clear hT hfin k10 k9 kx hIt9 hIt10
   gi_wp2
   exact⟨HTf.out.round _,HFin.out⟩
 case done=>
  rintro D It xs W4 _ hD hS hI hK4
  have hce:=chain_end _ (by rw[hS];exact HCh.out:Chain 0 (xs.map fun y:RunM=>y.it) (places t).length)
  have hk10:=hI.k10
  rw[hce,posAt_end] at hk10
  have hxl:xs.length=leastN TT t (places t).length:=by rw[←HRe.out,←hS,List.length_map]
  have hk9:=hI.k9
  rw[hxl] at hk9
  have hlow:=hI.low
  obtain⟨N,hN⟩:∃N,leastN TT t (places t).length=N:=⟨_,rfl⟩
  rw[hN] at hk9
  have hWl:=HFW.out.trans (hlow.mono HFW.out.size)
  have hRl:=HRl.out t
  rw[hN] at hRl
  have HRl:=Lib.hid hRl
  have t0123:=HC0.out W4 (HFT.out.trans (hlow.mono (by have:=HFT.out.size;rw[World.size_alloc] at this;omega)))
  obtain⟨q0,q1,q2,q3,q4,q5,q6,q7⟩:=t0123
  have e3:=cell_bel hlow (show w'.cell? ⟨b3,0,none⟩=some (.string t) from HF3.out.cell 0)
  have k4:=HF4.out.keep (Keep.of_below hlow (fun _=>False)) (by simp)
  have z0:=hk10.cell 0
  have n0:=hk9.cell 0
  dsimp only[List.getElem?_cons_zero] at z0 n0
  have hz1w:w'.heap.size=b1+2:=HSz.out
  have t0:∀y:WO W4 b4,y.w.cell? ⟨W.heap.size,0,none⟩=some (.slice o0 l0.length c0):=WO.cell q0 (by simp only;omega)
  have t1:∀y:WO W4 b4,y.w.cell? ⟨W.heap.size,1,none⟩=some (.slice o1 l1.length c1):=WO.cell q1 (by simp only;omega)
  have t2:∀y:WO W4 b4,y.w.cell? ⟨W.heap.size,2,none⟩=some (.slice o2 l2.length c2):=WO.cell q2 (by simp only;omega)
  have t3:∀y:WO W4 b4,y.w.cell? ⟨W.heap.size,3,none⟩=some (.slice o3 l3.length c3):=WO.cell q3 (by simp only;omega)
  have t4:∀y:WO W4 b4,y.w.cell? ⟨W.heap.size,4,none⟩=some (.slice o4 l4.length c4):=WO.cell q4 (by simp only;omega)
  have t5:∀y:WO W4 b4,y.w.cell? ⟨W.heap.size,5,none⟩=some (.slice o5 l5.length c5):=WO.cell q5 (by simp only;omega)
  have t6:∀y:WO W4 b4,y.w.cell? ⟨W.heap.size,6,none⟩=some (.slice o6 l6.length c6):=WO.cell q6 (by simp only;omega)
  have t7:∀y:WO W4 b4,y.w.cell? ⟨W.heap.size,7,none⟩=some (.slice o7 l7.length c7):=WO.cell q7 (by simp only;omega)
  have d3:∀y:WO W4 b4,y.w.cell? ⟨b3,0,none⟩=some (.string t):=WO.cell e3 (by simp only;omega)
  have d10:∀y:WO W4 b4,y.w.cell? ⟨b9+1,0,none⟩=some (.int .i64 (t.size:Nat)):=WO.cell z0 (by simp only;omega)
  have d9:∀y:WO W4 b4,y.w.cell? ⟨b9,0,none⟩=some (.int .i64 (N:Nat)):=WO.cell n0 (by simp only;omega)
  have HLo:Hid (∀y:WO W4 b4,Below W.heap.size W y.w):=Lib.hid (fun y=>hWl.trans (y.k.below (fun k hk=>⟨by have:=hWl.size;omega,by omega⟩)))
  have HRy:Hid (∀y:WO W4 b4,Calls Tryz.prog 31 #[.agg #[.slice o0 l0.length c0,.slice o1 l1.length c1,.slice o2 l2.length c2,.slice o3 l3.length c3,.slice o4 l4.length c4,.slice o5 l5.length c5,.slice o6 l6.length c6,.slice o7 l7.length c7],.string t] y.w fun e w2=>e=.returned (.int .i64 (N:Nat))∧∃z:WO W4 b4,w2=z.w):=Lib.hid (fun y=>(HRl.out y.w hfz hl1 (HLo.out y)).mono fun e w2 hh=>⟨hh.1,by obtain⟨z,hz⟩:=y.next hh.2;exact⟨z,hz⟩⟩)
  have HKy:Hid (∀y:WO W4 b4,Calls Tryz.prog 12 #[] y.w fun e w2=>e=.returned (.bool true)∧∃z:WO W4 b4,w2=z.w):=Lib.hid (fun y=>(HKn.out y.w (HLo.out y)).mono fun e w2 hh=>⟨hh.1,by obtain⟨z,hz⟩:=y.next hh.2;exact⟨z,hz⟩⟩)
  have HK4w:=Lib.hid k4
  have HD4:=Lib.hid hK4
  have s1:((t.size:Int) == (t.size:Int))=true:=by simp
  have s2:((N:Int) == (N:Int))=true:=by simp
  have HWl:=Lib.hid hWl
  clear hz1w hce hk10 hxl hk9 hlow hWl hRl q0 q1 q2 q3 q4 q5 q6 q7 e3 k4 z0 n0 hI hS hK4 HSq HI0 HB97 hN HPc HPr HFw9 HCh HRe HCt HKn HRl
  go_upto_region 20 with fail
  obtain⟨y0,hy0⟩:∃y:WO W4 b4,y.w=W4.drew:=⟨⟨W4.drew,(Keep.refl _ _).drew,_,HK4w.out.drew⟩,rfl⟩
  have hSd:(fun w2=>∃y:WO W4 b4,w2=y.w) W4.drew:=⟨y0,hy0.symm⟩
  refine wp_region_heldN (fun w2=>∃y:WO W4 b4,w2=y.w) (by kernel_rfl) ?_
  haveI hneO:Nonempty (WO W4 b4):=⟨y0⟩
  rw[←hy0]
  clear hy0 hSd
  have hSy:∀y:WO W4 b4,(fun w2=>∃y:WO W4 b4,w2=y.w) y.w:=fun y=>⟨y,rfl⟩
  show wpAnyH _ _ (List.toArray _) _ _ 16 (Array.replicate 16 false) _ _
  refine wpAnyH_reads (by kernel_rfl) (fun _ _ _ _ _ h=>h) (hSy y0) [0,1,2] 13 _ _ _ (by rfl) (by kernel_rfl) ?_
  simp only[List.filterMap_cons,List.filterMap_nil,List.getElem?_toArray,List.getElem?_cons_zero,List.getElem?_cons_succ]
  repeat (first | go_big_quiet_step (fail) | quiet_step (fail))
  refine wpQuiet_nil ?_
  refine wpAnyH_ready (rs:=[3]) (by kernel_rfl) (by simp) (AllReadyH.cons rfl (fun K hK=>?_) AllReadyH.nil)
  go_simp
  refine hK.out _ _ (hSy y0) (fun _=>?_)
  clear hK K
  refine wpAnyH_reads (by kernel_rfl) (fun _ _ _ _ _ h=>h) (hSy y0) [4,5,6,7,8] 7 _ _ _ (by rfl) (by kernel_rfl) ?_
  simp only[List.filterMap_cons,List.filterMap_nil,List.getElem?_toArray,List.getElem?_cons_zero,List.getElem?_cons_succ]
  repeat (first | go_big_quiet_step (fail) | quiet_step (fail))
  refine wpQuiet_nil ?_
  refine wpAnyH_ready (rs:=[9]) (by kernel_rfl) (by simp) (AllReadyH.cons rfl (fun K hK=>?_) AllReadyH.nil)
  go_simp
  refine (HRy.out y0).mono ?_
  rintro e _ ⟨rfl,y1,rfl⟩
  refine hK.out _ _ (hSy y1) (fun _=>?_)
  clear hK K
  refine wpAnyH_reads (by kernel_rfl) (fun _ _ _ _ _ h=>h) (hSy y1) [10,11,12] 3 _ _ _ (by rfl) (by kernel_rfl) ?_
  simp only[List.filterMap_cons,List.filterMap_nil,List.getElem?_toArray,List.getElem?_cons_zero,List.getElem?_cons_succ]
  repeat (first | go_big_quiet_step (fail) | quiet_step (fail))
  refine wpQuiet_nil ?_
  refine wpAnyH_ready (rs:=[13]) (by kernel_rfl) (by simp) (AllReadyH.cons rfl (fun K hK=>?_) AllReadyH.nil)
  go_simp
  refine (HKy.out y1).mono ?_
  rintro e _ ⟨rfl,y2,rfl⟩
  refine hK.out _ _ (hSy y2) (fun _=>?_)
  clear hK K
  refine wpAnyH_reads (by kernel_rfl) (fun _ _ _ _ _ h=>h) (hSy y2) [14] 1 _ _ _ (by rfl) (by kernel_rfl) ?_
  simp only[List.filterMap_cons,List.filterMap_nil,List.getElem?_toArray,List.getElem?_cons_zero,List.getElem?_cons_succ]
  repeat (first | go_big_quiet_step (fail) | quiet_step (fail))
  refine wpQuiet_nil ?_
  obtain⟨vb,hvb⟩:=y2.b
  have g0:=hvb.cell 0
  have f0:=hvb.frozen 0
  dsimp only[List.getElem?_cons_zero] at g0
  refine wpAnyH_ready (rs:=[15]) (by kernel_rfl) (by simp) (AllReadyH.cons rfl (fun K hK=>?_) AllReadyH.nil)
  go_simp
  refine hK.out _ _ ⟨⟨_,y2.k.setCell (p:=⟨b4,0,none⟩) (fun _=>rfl) (.bool true),_,hvb.set 0 _⟩,rfl⟩ (fun _=>?_)
  clear hK K
  refine wpAnyH_done (by kernel_rfl) ?_ _
  have HVb:=Lib.hid hvb
  have hD2:(y2.w.setCell ⟨b4,0,none⟩ (.bool true)).heap[D]?=some (.deferred (some [])):=(Below.heap_setCell _ _ _ _ (by have:=HZ7.out;have:=HSz.out;simp only;omega)).trans ((y2.k.block D (lt_of_block HD4.out) (by have:=HZ7.out;have:=HSz.out;omega)).trans HD4.out)
  have HD2:=Lib.hid hD2
  clear hD2 hvb g0 f0 t0 t1 t2 t3 t4 t5 t6 t7 d3 d10 d9
  simp only[onlyN]
  go_wp2_with fail
  refine⟨by simp,.inl ⟨_,_,rfl,run_takeDeferred HD2.out,?_⟩⟩
  have r0:((y2.w.setCell ⟨b4,0,none⟩ (.bool true)).putObj D (.deferred none)).cell? ⟨b4,0,none⟩=some (.bool true):=by
   rw[World.cell?_of_block (World.putObj_heap_other (by have:=HZ7.out;have:=HSz.out;simp only;omega))]
   have:=(HVb.out.set 0 (.bool true)).cell 0
   simpa using this
  refine⟨.bool true,by simp[results,Tryz.results5,go_sem,r0],rfl,?_⟩
  have hpo:Below W.heap.size (y2.w.setCell ⟨b4,0,none⟩ (.bool true)) ((y2.w.setCell ⟨b4,0,none⟩ (.bool true)).putObj D (.deferred none)):=⟨rfl,rfl,rfl,by simp[World.putObj],fun k hk=>World.putObj_heap_other (by have:=HZ7.out;have:=HSz.out;omega)⟩
  exact ((HLo.out y2).setCell (by simp only;omega) _).trans hpo
 case stop=>
  rintro D cc It xs W4 _ hD hp h hK4
  exact h.elim
end Go.Proofs.YtioehfhdoohdmaaGreatDoor.scriptLeast
