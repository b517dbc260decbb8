/- Ref14: Ref14A, Ref14B, Ref14C, Ref14D, ScrLaw, ScrLaw2. -/
import Derived.Test.YtioehfhdoohdmaaGreatDoorBkAB
import Derived.Test.YtioehfhdoohdmaaGreatDoorRef1
import Derived.Test.YtioehfhdoohdmaaGreatDoorScrA
set_option linter.unusedVariables false
set_option linter.unusedSimpArgs false
namespace Go.Proofs.YtioehfhdoohdmaaGreatDoor
open Go.RowKit Go.Shelf BigFrame
def boundB (T:Tab) (r:Int) (bad:Bool) (n:Int):Bool:=!bad && decide (0≤n) && decide (n<(T.scripts.length:Int)) && ofB r (T.scripts.getD n.toNat (ByteArray.empty,[])).2
set_option maxRecDepth 100000 in
set_option maxHeartbeats 8000000 in
theorem rfree_any (T:Tab) (a:TAddr) (r p k:Int) (bad:Bool) (W:World) (h:TabAt W T a):Calls Tryz.prog 55 #[.agg (tabCells T a),.agg #[.int .i32 r,.int .i64 p,.int .i64 k,.bool bad]] W fun e w'=>e=.returned (.bool (freeR T r bad))∧Below W.heap.size W w':=by
 obtain⟨ans,hans⟩:∃b,freeR T r bad=b:=⟨_,rfl⟩
 rw[hans]
 have HAns:=Lib.hid hans
 clear hans
 obtain⟨TT,hTT⟩:∃TT:Tab,TT=T:=⟨_,rfl⟩
 obtain⟨l0,l1,l2,l3,l4,l5,l6,l7⟩:=T
 obtain⟨o0,o1,o2,o3,o4,o5,o6,o7,c0,c1,c2,c3,c4,c5,c6,c7⟩:=a
 obtain⟨hT,HTb,hB1,hz⟩:=box1 h
 simp only[tabCells] at hT HTb hB1 hz ⊢
 have hE:Below (W.alloc (.cells #[.slice o0 l0.length c0,.slice o1 l1.length c1,.slice o2 l2.length c2,.slice o3 l3.length c3,.slice o4 l4.length c4,.slice o5 l5.length c5,.slice o6 l6.length c6,.slice o7 l7.length c7] 28)).heap.size (W.alloc (.cells #[.slice o0 l0.length c0,.slice o1 l1.length c1,.slice o2 l2.length c2,.slice o3 l3.length c3,.slice o4 l4.length c4,.slice o5 l5.length c5,.slice o6 l6.length c6,.slice o7 l7.length c7] 28)) ((W.alloc (.cells #[.slice o0 l0.length c0,.slice o1 l1.length c1,.slice o2 l2.length c2,.slice o3 l3.length c3,.slice o4 l4.length c4,.slice o5 l5.length c5,.slice o6 l6.length c6,.slice o7 l7.length c7] 28)).alloc (.cells #[.int .i32 r,.int .i64 p,.int .i64 k,.bool bad] 68)):=(Below.refl _ _).alloc (Nat.le_refl _) _
 have bX:=Blk.new' (W.alloc (.cells #[.slice o0 l0.length c0,.slice o1 l1.length c1,.slice o2 l2.length c2,.slice o3 l3.length c3,.slice o4 l4.length c4,.slice o5 l5.length c5,.slice o6 l6.length c6,.slice o7 l7.length c7] 28)) #[.int .i32 r,.int .i64 p,.int .i64 k,.bool bad] 68
 have hB2:=hB1.trans (hE.mono hB1.size)
 rw[show (W.alloc (.cells #[.slice o0 l0.length c0,.slice o1 l1.length c1,.slice o2 l2.length c2,.slice o3 l3.length c3,.slice o4 l4.length c4,.slice o5 l5.length c5,.slice o6 l6.length c6,.slice o7 l7.length c7] 28)).heap.size=W.heap.size+1 by simp] at bX
 obtain⟨W0,hW0⟩:∃W0,(W.alloc (.cells #[.slice o0 l0.length c0,.slice o1 l1.length c1,.slice o2 l2.length c2,.slice o3 l3.length c3,.slice o4 l4.length c4,.slice o5 l5.length c5,.slice o6 l6.length c6,.slice o7 l7.length c7] 28)).alloc (.cells #[.int .i32 r,.int .i64 p,.int .i64 k,.bool bad] 68)=W0:=⟨_,rfl⟩
 rw[hW0] at hE bX hB2
 have HW0:=Lib.hid hW0
 have HB:=Lib.hid hB2
 have hT0:=hT.below hE
 have t0:∀y:WC W0,y.w.cell? ⟨W.heap.size,0,none⟩=some (.slice o0 l0.length c0):=WC.cell (cell_bel hE (HTb 0 (.slice o0 l0.length c0) rfl))
 have t1:∀y:WC W0,y.w.cell? ⟨W.heap.size,1,none⟩=some (.slice o1 l1.length c1):=WC.cell (cell_bel hE (HTb 1 (.slice o1 l1.length c1) rfl))
 have t2:∀y:WC W0,y.w.cell? ⟨W.heap.size,2,none⟩=some (.slice o2 l2.length c2):=WC.cell (cell_bel hE (HTb 2 (.slice o2 l2.length c2) rfl))
 have t3:∀y:WC W0,y.w.cell? ⟨W.heap.size,3,none⟩=some (.slice o3 l3.length c3):=WC.cell (cell_bel hE (HTb 3 (.slice o3 l3.length c3) rfl))
 have t4:∀y:WC W0,y.w.cell? ⟨W.heap.size,4,none⟩=some (.slice o4 l4.length c4):=WC.cell (cell_bel hE (HTb 4 (.slice o4 l4.length c4) rfl))
 have t5:∀y:WC W0,y.w.cell? ⟨W.heap.size,5,none⟩=some (.slice o5 l5.length c5):=WC.cell (cell_bel hE (HTb 5 (.slice o5 l5.length c5) rfl))
 have t6:∀y:WC W0,y.w.cell? ⟨W.heap.size,6,none⟩=some (.slice o6 l6.length c6):=WC.cell (cell_bel hE (HTb 6 (.slice o6 l6.length c6) rfl))
 have t7:∀y:WC W0,y.w.cell? ⟨W.heap.size,7,none⟩=some (.slice o7 l7.length c7):=WC.cell (cell_bel hE (HTb 7 (.slice o7 l7.length c7) rfl))
 have x0:∀y:WC W0,y.w.cell? ⟨W.heap.size+1,0,none⟩=some (.int .i32 r):=WC.cell (bX.cell 0)
 have x3:∀y:WC W0,y.w.cell? ⟨W.heap.size+1,3,none⟩=some (.bool bad):=WC.cell (bX.cell 3)
 have HOf:Hid (∀y:WC W0,Calls Tryz.prog 93 #[.int .i32 r,.slice o1 l1.length c1] y.w fun e w'=>e=.returned (.bool (ofB r l1))∧y.w=w'):=Lib.hid (fun y=>of_any r o1 c1 l1 y.w (hT0.common.below y.h) hT0.m1)
 have HCl:Hid (∀y:WC W0,Calls Tryz.prog 94 #[.agg #[.slice o0 l0.length c0,.slice o1 l1.length c1,.slice o2 l2.length c2,.slice o3 l3.length c3,.slice o4 l4.length c4,.slice o5 l5.length c5,.slice o6 l6.length c6,.slice o7 l7.length c7],.int .i32 r] y.w fun e w'=>e=.returned (.int .i64 (classN TT r))∧∃z:WC W0,w'=z.w):=Lib.hid (fun y=>WC.call (by rw[hTT];exact class_any _ ⟨o0,o1,o2,o3,o4,o5,o6,o7,c0,c1,c2,c3,c4,c5,c6,c7⟩ r y.w (hT0.below y.h)))
 have HAn2:Hid (ans=(!bad && (ofB r l1 || decide (0<classN TT r)))):=Lib.hid (by rw[←HAns.out,hTT];rfl)
 clear hT HTb hB1 hz h hE bX hB2 hW0 hT0 hTT HAns
 generalize classN TT r=cN at *
 generalize ofB r l1=cm at *
 cases bad with
 | true=>
  obtain⟨y,hy⟩:∃y:WC W0,y.w=W0:=⟨WC.of W0,rfl⟩
  go_enter Tryz.func55,Tryz.ntmps55
  go_upto_region 1 with fail
  rw[HW0.out,←hy]
  clear hy HW0
  go_wp2_with fail
  try go_ret
  exact⟨by rw[show ans=false by rw[HAn2.out];rfl] <;> rfl,HB.out.trans (y.h.mono HB.out.size)⟩
 | false=>
  cases cm with
  | true=>
   obtain⟨y,hy⟩:∃y:WC W0,y.w=W0:=⟨WC.of W0,rfl⟩
   go_enter Tryz.func55,Tryz.ntmps55
   go_upto_region 1 with fail
   rw[HW0.out,←hy]
   clear hy HW0
   go_wp2_with fail
   (with_reducible refine Calls.mono (HOf.out y) ?_)
   rintro e w' ⟨rfl,rfl⟩
   go_wp2_with fail
   try go_ret
   exact⟨by rw[show ans=true by rw[HAn2.out];rfl] <;> rfl,HB.out.trans (y.h.mono HB.out.size)⟩
  | false=>
   by_cases hc:0<cN
   ·have dc:decide (0<cN)=true:=by simp[hc]
    have HDc:=Lib.hid dc
    obtain⟨y,hy⟩:∃y:WC W0,y.w=W0:=⟨WC.of W0,rfl⟩
    go_enter Tryz.func55,Tryz.ntmps55
    go_upto_region 1 with fail
    rw[HW0.out,←hy]
    clear hy HW0
    go_wp2_with fail
    (with_reducible refine Calls.mono (HOf.out y) ?_)
    rintro e w' ⟨rfl,rfl⟩
    go_wp2_with fail
    (with_reducible refine Calls.mono (HCl.out y) ?_)
    rintro e w' ⟨rfl,y1,rfl⟩
    go_wp2_with fail
    try go_ret
    exact⟨by rw[show ans=true by rw[HAn2.out,HDc.out];rfl] <;> rfl,HB.out.trans (y1.h.mono HB.out.size)⟩
   ·have dc:decide (0<cN)=false:=by simp;omega
    have HDc:=Lib.hid dc
    obtain⟨y,hy⟩:∃y:WC W0,y.w=W0:=⟨WC.of W0,rfl⟩
    go_enter Tryz.func55,Tryz.ntmps55
    go_upto_region 1 with fail
    rw[HW0.out,←hy]
    clear hy HW0
    go_wp2_with fail
    (with_reducible refine Calls.mono (HOf.out y) ?_)
    rintro e w' ⟨rfl,rfl⟩
    go_wp2_with fail
    (with_reducible refine Calls.mono (HCl.out y) ?_)
    rintro e w' ⟨rfl,y1,rfl⟩
    go_wp2_with fail
    try go_ret
    exact⟨by rw[show ans=false by rw[HAn2.out,HDc.out];rfl] <;> rfl,HB.out.trans (y1.h.mono HB.out.size)⟩
set_option maxRecDepth 100000 in
set_option maxHeartbeats 8000000 in
theorem rbound_any (T:Tab) (a:TAddr) (r p k:Int) (bad:Bool) (n:Int) (W:World) (h:TabAt W T a):Calls Tryz.prog 56 #[.agg (tabCells T a),.agg #[.int .i32 r,.int .i64 p,.int .i64 k,.bool bad],.int .i64 n] W fun e w'=>e=.returned (.bool (boundB T r bad n))∧Below W.heap.size W w':=by
 obtain⟨ans,hans⟩:∃b,boundB T r bad n=b:=⟨_,rfl⟩
 rw[hans]
 have HAns:=Lib.hid hans
 clear hans
 obtain⟨TT,hTT⟩:∃TT:Tab,TT=T:=⟨_,rfl⟩
 obtain⟨l0,l1,l2,l3,l4,l5,l6,l7⟩:=T
 obtain⟨o0,o1,o2,o3,o4,o5,o6,o7,c0,c1,c2,c3,c4,c5,c6,c7⟩:=a
 obtain⟨hT,HTb,hB1,hz⟩:=box1 h
 simp only[tabCells] at hT HTb hB1 hz ⊢
 have hE:Below (W.alloc (.cells #[.slice o0 l0.length c0,.slice o1 l1.length c1,.slice o2 l2.length c2,.slice o3 l3.length c3,.slice o4 l4.length c4,.slice o5 l5.length c5,.slice o6 l6.length c6,.slice o7 l7.length c7] 28)).heap.size (W.alloc (.cells #[.slice o0 l0.length c0,.slice o1 l1.length c1,.slice o2 l2.length c2,.slice o3 l3.length c3,.slice o4 l4.length c4,.slice o5 l5.length c5,.slice o6 l6.length c6,.slice o7 l7.length c7] 28)) ((W.alloc (.cells #[.slice o0 l0.length c0,.slice o1 l1.length c1,.slice o2 l2.length c2,.slice o3 l3.length c3,.slice o4 l4.length c4,.slice o5 l5.length c5,.slice o6 l6.length c6,.slice o7 l7.length c7] 28)).alloc (.cells #[.int .i32 r,.int .i64 p,.int .i64 k,.bool bad] 68)):=(Below.refl _ _).alloc (Nat.le_refl _) _
 have bX:=Blk.new' (W.alloc (.cells #[.slice o0 l0.length c0,.slice o1 l1.length c1,.slice o2 l2.length c2,.slice o3 l3.length c3,.slice o4 l4.length c4,.slice o5 l5.length c5,.slice o6 l6.length c6,.slice o7 l7.length c7] 28)) #[.int .i32 r,.int .i64 p,.int .i64 k,.bool bad] 68
 have hB2:=hB1.trans (hE.mono hB1.size)
 rw[show (W.alloc (.cells #[.slice o0 l0.length c0,.slice o1 l1.length c1,.slice o2 l2.length c2,.slice o3 l3.length c3,.slice o4 l4.length c4,.slice o5 l5.length c5,.slice o6 l6.length c6,.slice o7 l7.length c7] 28)).heap.size=W.heap.size+1 by simp] at bX
 obtain⟨W0,hW0⟩:∃W0,(W.alloc (.cells #[.slice o0 l0.length c0,.slice o1 l1.length c1,.slice o2 l2.length c2,.slice o3 l3.length c3,.slice o4 l4.length c4,.slice o5 l5.length c5,.slice o6 l6.length c6,.slice o7 l7.length c7] 28)).alloc (.cells #[.int .i32 r,.int .i64 p,.int .i64 k,.bool bad] 68)=W0:=⟨_,rfl⟩
 rw[hW0] at hE bX hB2
 have HW0:=Lib.hid hW0
 have HB:=Lib.hid hB2
 have hT0:=hT.below hE
 have t0:∀y:WC W0,y.w.cell? ⟨W.heap.size,0,none⟩=some (.slice o0 l0.length c0):=WC.cell (cell_bel hE (HTb 0 (.slice o0 l0.length c0) rfl))
 have t1:∀y:WC W0,y.w.cell? ⟨W.heap.size,1,none⟩=some (.slice o1 l1.length c1):=WC.cell (cell_bel hE (HTb 1 (.slice o1 l1.length c1) rfl))
 have t2:∀y:WC W0,y.w.cell? ⟨W.heap.size,2,none⟩=some (.slice o2 l2.length c2):=WC.cell (cell_bel hE (HTb 2 (.slice o2 l2.length c2) rfl))
 have t3:∀y:WC W0,y.w.cell? ⟨W.heap.size,3,none⟩=some (.slice o3 l3.length c3):=WC.cell (cell_bel hE (HTb 3 (.slice o3 l3.length c3) rfl))
 have t4:∀y:WC W0,y.w.cell? ⟨W.heap.size,4,none⟩=some (.slice o4 l4.length c4):=WC.cell (cell_bel hE (HTb 4 (.slice o4 l4.length c4) rfl))
 have t5:∀y:WC W0,y.w.cell? ⟨W.heap.size,5,none⟩=some (.slice o5 l5.length c5):=WC.cell (cell_bel hE (HTb 5 (.slice o5 l5.length c5) rfl))
 have t6:∀y:WC W0,y.w.cell? ⟨W.heap.size,6,none⟩=some (.slice o6 l6.length c6):=WC.cell (cell_bel hE (HTb 6 (.slice o6 l6.length c6) rfl))
 have t7:∀y:WC W0,y.w.cell? ⟨W.heap.size,7,none⟩=some (.slice o7 l7.length c7):=WC.cell (cell_bel hE (HTb 7 (.slice o7 l7.length c7) rfl))
 have x0:∀y:WC W0,y.w.cell? ⟨W.heap.size+1,0,none⟩=some (.int .i32 r):=WC.cell (bX.cell 0)
 have x3:∀y:WC W0,y.w.cell? ⟨W.heap.size+1,3,none⟩=some (.bool bad):=WC.cell (bX.cell 3)
 have HL0:=Lib.hid hT0.scripts
 have hm0:l0.length≤9223372036854775807:=hT0.m0
 have HAn2:Hid (ans=(!bad && decide (0≤n) && decide (n<(l0.length:Int)) && ofB r (l0.getD n.toNat (ByteArray.empty,[])).2)):=Lib.hid (by rw[←HAns.out];rfl)
 clear hT HTb hB1 hz h hE bX hB2 hW0 hT0 hTT HAns
 cases bad with
 | true=>
  obtain⟨y,hy⟩:∃y:WC W0,y.w=W0:=⟨WC.of W0,rfl⟩
  go_enter Tryz.func56,Tryz.ntmps56
  go_upto_region 1 with fail
  rw[HW0.out,←hy]
  clear hy HW0
  refine wp_region_wc (W0:=W0) (by kernel_rfl) (by kernel_rfl) y.h ?_
  repeat (first | go_big_quiet_step ((fail)) | quiet_step ((fail)))
  refine wpQuiet_nil ?_
  rintro _ ⟨y1,rfl⟩
  go_wp2_with fail
  try go_ret
  exact⟨by rw[show ans=false by rw[HAn2.out];rfl] <;> rfl,HB.out.trans (y1.h.mono HB.out.size)⟩
 | false=>
  by_cases h0:0≤n
  ·obtain⟨i,rfl⟩:=Int.eq_ofNat_of_zero_le h0
   have d0:decide (0≤(i:Int))=true:=by simp
   by_cases hlt:i<l0.length
   ·have d1:decide ((i:Int)<(l0.length:Int))=true:=by simp;omega
    have i1:(i:Int)<(l0.length:Int):=by omega
    have hgd:(l0.getD ((i:Int)).toNat (ByteArray.empty,[]))=l0[i]:=by rw[Int.toNat_natCast,List.getD_eq_getElem?_getD,List.getElem?_eq_getElem hlt];rfl
    obtain⟨g,off,so,sc,ho,hg,q0,q1,cs,cz,cy⟩:=HL0.out i hlt
    subst ho
    have HA3:Hid (ans=ofB r l0[i].2):=Lib.hid (by rw[HAn2.out,hgd,d0,d1];rfl)
    clear HAn2 hgd
    generalize l0[i]=x at *
    have e1:=fun y:WC W0=>y.cell q1
    have HOf:Hid (∀y:WC W0,Calls Tryz.prog 93 #[.int .i32 r,.slice so x.2.length sc] y.w fun e w'=>e=.returned (.bool (ofB r x.2))∧∃z:WC W0,w'=z.w):=Lib.hid (fun y=>WC.same (of_any r so sc x.2 y.w (cs.below y.h) cy))
    generalize ofB r x.2=cm at *
    clear q0 q1 cs cz cy
    obtain⟨y,hy⟩:∃y:WC W0,y.w=W0:=⟨WC.of W0,rfl⟩
    go_enter Tryz.func56,Tryz.ntmps56
    go_upto_region 1 with fail
    rw[HW0.out,←hy]
    clear hy HW0
    refine wp_region_wc (W0:=W0) (by kernel_rfl) (by kernel_rfl) y.h ?_
    repeat (first | go_big_quiet_step (((go_at_call 93;(with_reducible exact HOf.out _)))) | quiet_step (((go_at_call 93;(with_reducible exact HOf.out _)))))
    refine wpQuiet_nil ?_
    rintro _ ⟨y1,rfl⟩
    go_wp2_with fail
    try go_ret
    exact⟨by rw[HA3.out] <;> rfl,HB.out.trans (y1.h.mono HB.out.size)⟩
   ·have d1:decide ((i:Int)<(l0.length:Int))=false:=by simp;omega
    have HD:=Lib.hid d1
    obtain⟨y,hy⟩:∃y:WC W0,y.w=W0:=⟨WC.of W0,rfl⟩
    go_enter Tryz.func56,Tryz.ntmps56
    go_upto_region 1 with fail
    rw[HW0.out,←hy]
    clear hy HW0
    refine wp_region_wc (W0:=W0) (by kernel_rfl) (by kernel_rfl) y.h ?_
    repeat (first | go_big_quiet_step ((fail)) | quiet_step ((fail)))
    refine wpQuiet_nil ?_
    rintro _ ⟨y1,rfl⟩
    go_wp2_with fail
    try go_ret
    exact⟨by rw[show ans=false by rw[HAn2.out,HD.out];simp] <;> rfl,HB.out.trans (y1.h.mono HB.out.size)⟩
  ·have d0:decide (0≤n)=false:=by simp;omega
   have HD:=Lib.hid d0
   obtain⟨y,hy⟩:∃y:WC W0,y.w=W0:=⟨WC.of W0,rfl⟩
   go_enter Tryz.func56,Tryz.ntmps56
   go_upto_region 1 with fail
   rw[HW0.out,←hy]
   clear hy HW0
   refine wp_region_wc (W0:=W0) (by kernel_rfl) (by kernel_rfl) y.h ?_
   repeat (first | go_big_quiet_step ((fail)) | quiet_step ((fail)))
   refine wpQuiet_nil ?_
   rintro _ ⟨y1,rfl⟩
   go_wp2_with fail
   try go_ret
   exact⟨by rw[show ans=false by rw[HAn2.out,HD.out];simp] <;> rfl,HB.out.trans (y1.h.mono HB.out.size)⟩
end Go.Proofs.YtioehfhdoohdmaaGreatDoor
namespace Go.Proofs.YtioehfhdoohdmaaGreatDoor
open Go.RowKit Go.Shelf BigFrame
def onB (T:Tab) (s:ByteArray) (n:Int) (x:Pl s):Bool:=freeR T (spR s x) (spB s x) || boundB T (spR s x) (spB s x) n
def canB (T:Tab) (s:ByteArray) (ps:List (Pl s)) (n:Int):Bool:=decide (0≤n) && decide (n<(T.scripts.length:Int)) && ps.all (onB T s n)
def SpsAt (W:World) (s:ByteArray) (o:Option Addr) (ps:List (Pl s)):Prop:=Rd W o (ps.flatMap (spC s))
theorem SpsAt.row {W:World}{s:ByteArray}{o:Option Addr}{ps:List (Pl s)}(h:SpsAt W s o ps) {i:Nat}(hi:i<ps.length):∃g off,o=some ⟨g,off,none⟩∧W.cell? ⟨g,off+i*4,none⟩=some (.int .i32 (spR s ps[i]))∧W.cell? ⟨g,off+i*4+1,none⟩=some (.int .i64 (ps[i].1:Nat))∧W.cell? ⟨g,off+i*4+2,none⟩=some (.int .i64 ((Utf8.decode s ps[i].1).2:Nat))∧W.cell? ⟨g,off+i*4+3,none⟩=some (.bool (spB s ps[i])):=by
 obtain⟨g,off,ho,c0⟩:=Rd.row h (m:=4) (fun _=>rfl) hi (k:=0) rfl
 obtain⟨g',off',ho',c1⟩:=Rd.row h (m:=4) (fun _=>rfl) hi (k:=1) rfl
 obtain⟨rfl,rfl⟩:=same_at (ho.symm.trans ho')
 obtain⟨g',off',ho',c2⟩:=Rd.row h (m:=4) (fun _=>rfl) hi (k:=2) rfl
 obtain⟨rfl,rfl⟩:=same_at (ho.symm.trans ho')
 obtain⟨g',off',ho',c3⟩:=Rd.row h (m:=4) (fun _=>rfl) hi (k:=3) rfl
 obtain⟨rfl,rfl⟩:=same_at (ho.symm.trans ho')
 exact⟨g,off,ho,c0,c1,c2,c3⟩
theorem all_step {α:Type}{f:α→Bool}{l:List α}{i:Nat}{R:Bool}(h:i<l.length) (H:(l.drop i).all f=R):(f l[i] && (l.drop (i+1)).all f)=R:=by rwa [List.drop_eq_getElem_cons h,List.all_cons] at H
set_option maxRecDepth 100000 in
set_option maxHeartbeats 8000000 in
theorem rcan_any (T:Tab) (a:TAddr) (s:ByteArray) (ps:List (Pl s)) (o:Option Addr) (c:Nat) (n:Int) (W:World) (h:TabAt W T a) (hp:SpsAt W s o ps) (hn:ps.length≤1048576):Calls Tryz.prog 22 #[.agg (tabCells T a),.slice o ps.length c,.int .i64 n] W fun e w'=>e=.returned (.bool (canB T s ps n))∧Below W.heap.size W w':=by
 obtain⟨ans,hans⟩:∃b,canB T s ps n=b:=⟨_,rfl⟩
 rw[hans]
 have HAns:=Lib.hid hans
 clear hans
 obtain⟨TT,hTT⟩:∃TT:Tab,TT=T:=⟨_,rfl⟩
 rw[←hTT] at HAns
 obtain⟨l0,l1,l2,l3,l4,l5,l6,l7⟩:=T
 obtain⟨o0,o1,o2,o3,o4,o5,o6,o7,c0,c1,c2,c3,c4,c5,c6,c7⟩:=a
 obtain⟨hT,HTb,hB1,hz⟩:=box1 h
 simp only[tabCells] at hT HTb hB1 hz ⊢
 obtain⟨W0,hW0⟩:∃W0,(W.alloc (.cells #[.slice o0 l0.length c0,.slice o1 l1.length c1,.slice o2 l2.length c2,.slice o3 l3.length c3,.slice o4 l4.length c4,.slice o5 l5.length c5,.slice o6 l6.length c6,.slice o7 l7.length c7] 28))=W0:=⟨_,rfl⟩
 rw[hW0] at hT HTb hB1 hz
 have HW0:=Lib.hid hW0
 have HB:=Lib.hid hB1
 have t0:∀y:WC W0,y.w.cell? ⟨W.heap.size,0,none⟩=some (.slice o0 l0.length c0):=WC.cell (HTb 0 (.slice o0 l0.length c0) rfl)
 have t1:∀y:WC W0,y.w.cell? ⟨W.heap.size,1,none⟩=some (.slice o1 l1.length c1):=WC.cell (HTb 1 (.slice o1 l1.length c1) rfl)
 have t2:∀y:WC W0,y.w.cell? ⟨W.heap.size,2,none⟩=some (.slice o2 l2.length c2):=WC.cell (HTb 2 (.slice o2 l2.length c2) rfl)
 have t3:∀y:WC W0,y.w.cell? ⟨W.heap.size,3,none⟩=some (.slice o3 l3.length c3):=WC.cell (HTb 3 (.slice o3 l3.length c3) rfl)
 have t4:∀y:WC W0,y.w.cell? ⟨W.heap.size,4,none⟩=some (.slice o4 l4.length c4):=WC.cell (HTb 4 (.slice o4 l4.length c4) rfl)
 have t5:∀y:WC W0,y.w.cell? ⟨W.heap.size,5,none⟩=some (.slice o5 l5.length c5):=WC.cell (HTb 5 (.slice o5 l5.length c5) rfl)
 have t6:∀y:WC W0,y.w.cell? ⟨W.heap.size,6,none⟩=some (.slice o6 l6.length c6):=WC.cell (HTb 6 (.slice o6 l6.length c6) rfl)
 have t7:∀y:WC W0,y.w.cell? ⟨W.heap.size,7,none⟩=some (.slice o7 l7.length c7):=WC.cell (HTb 7 (.slice o7 l7.length c7) rfl)
 have hm0:l0.length≤9223372036854775807:=hT.m0
 have HPs:=Lib.hid (show SpsAt W0 s o ps from hp.below hB1)
 have HFr:Hid (∀(r p k:Int) (bad:Bool) (y:WC W0),Calls Tryz.prog 55 #[.agg #[.slice o0 l0.length c0,.slice o1 l1.length c1,.slice o2 l2.length c2,.slice o3 l3.length c3,.slice o4 l4.length c4,.slice o5 l5.length c5,.slice o6 l6.length c6,.slice o7 l7.length c7],.agg #[.int .i32 r,.int .i64 p,.int .i64 k,.bool bad]] y.w fun e w'=>e=.returned (.bool (freeR TT r bad))∧∃z:WC W0,w'=z.w):=Lib.hid (fun r p k bad y=>WC.call (by rw[hTT];exact rfree_any _ ⟨o0,o1,o2,o3,o4,o5,o6,o7,c0,c1,c2,c3,c4,c5,c6,c7⟩ r p k bad y.w (hT.below y.h)))
 have HBd:Hid (∀(r p k:Int) (bad:Bool) (y:WC W0),Calls Tryz.prog 56 #[.agg #[.slice o0 l0.length c0,.slice o1 l1.length c1,.slice o2 l2.length c2,.slice o3 l3.length c3,.slice o4 l4.length c4,.slice o5 l5.length c5,.slice o6 l6.length c6,.slice o7 l7.length c7],.agg #[.int .i32 r,.int .i64 p,.int .i64 k,.bool bad],.int .i64 n] y.w fun e w'=>e=.returned (.bool (boundB TT r bad n))∧∃z:WC W0,w'=z.w):=Lib.hid (fun r p k bad y=>WC.call (by rw[hTT];exact rbound_any _ ⟨o0,o1,o2,o3,o4,o5,o6,o7,c0,c1,c2,c3,c4,c5,c6,c7⟩ r p k bad n y.w (hT.below y.h)))
 have HA2:Hid (ans=(decide (0≤n) && decide (n<(l0.length:Int)) && ps.all (onB TT s n))):=Lib.hid (by rw[←HAns.out,hTT];rfl)
 clear hT HTb hB1 hz h hW0 hTT HAns hp
 by_cases h0:n<0
 ·have d0:decide (n<0)=true:=by simp[h0]
  have HE:Hid (ans=false):=Lib.hid (by rw[HA2.out,show decide (0≤n)=false by simp;omega];rfl)
  obtain⟨y,hy⟩:∃y:WC W0,y.w=W0:=⟨WC.of W0,rfl⟩
  go_enter Tryz.func22,Tryz.ntmps22
  go_upto_region 1 with fail
  rw[HW0.out,←hy]
  clear hy HW0
  go_wp2_with fail
  try go_ret
  exact⟨by rw[HE.out] <;> rfl,HB.out.trans (y.h.mono HB.out.size)⟩
 have d0:decide (n<0)=false:=by simp;omega
 by_cases h1:(l0.length:Int)≤n
 ·have d1:decide ((l0.length:Int)≤n)=true:=by simp[h1]
  have HE:Hid (ans=false):=Lib.hid (by rw[HA2.out,show decide (n<(l0.length:Int))=false by simp;omega];simp)
  obtain⟨y,hy⟩:∃y:WC W0,y.w=W0:=⟨WC.of W0,rfl⟩
  go_enter Tryz.func22,Tryz.ntmps22
  go_upto_region 1 with fail
  rw[HW0.out,←hy]
  clear hy HW0
  go_wp2_with fail
  try go_ret
  exact⟨by rw[HE.out] <;> rfl,HB.out.trans (y.h.mono HB.out.size)⟩
 have d1:decide ((l0.length:Int)≤n)=false:=by simp;omega
 have HF:Hid ((ps.drop 0).all (onB TT s n)=ans):=Lib.hid (by rw[HA2.out,show decide (0≤n)=true by simp;omega,show decide (n<(l0.length:Int))=true by simp;omega];rfl)
 obtain⟨y,hy⟩:∃y:WC W0,y.w=W0:=⟨WC.of W0,rfl⟩
 go_enter Tryz.func22,Tryz.ntmps22
 go_upto_region 1 with fail
 rw[HW0.out,←hy]
 clear hy HW0
 go_wp2_with fail
 clear d0 d1 h0 h1
 go_loopw [7] (fun v7 wr=>∃(i:Nat) (y:WC W0),v7=.int .i64 i∧i≤ps.length∧Hid ((ps.drop i).all (onB TT s n)=ans)∧wr=y.w) (fun v7 _=>ps.length - (intOf v7).toNat)
 case atStart=>exact⟨0,y,rfl,Nat.zero_le _,HF,rfl⟩
 case round=>
  clear HF y
  obtain⟨i,y,rfl,hi,HF,rfl⟩:=hrel
  have i0:(0:Int)≤(i:Int):=Int.natCast_nonneg _
  by_cases hlt:i<ps.length
  ·have i1:(i:Int)<(ps.length:Int):=by omega
   obtain⟨g,off,ho,q0,q1,q2,q3⟩:=SpsAt.row HPs.out hlt
   subst ho
   have hs1:=all_step hlt HF.out
   unfold onB at hs1
   have e0:=fun y:WC W0=>y.cell q0
   have e1:=fun y:WC W0=>y.cell q1
   have e2:=fun y:WC W0=>y.cell q2
   have e3:=fun y:WC W0=>y.cell q3
   clear q0 q1 q2 q3 HF
   generalize spR s ps[i]=r at *
   generalize spB s ps[i]=bad at *
   generalize hp1:((ps[i].1:Nat):Int)=p at *
   generalize ((Utf8.decode s ps[i].1).2:Int)=k at *
   clear hp1
   have F0:=Lib.hid (HFr.out r p k bad)
   have B0:=Lib.hid (HBd.out r p k bad)
   obtain⟨fr,hfr⟩:∃b,freeR TT r bad=b:=⟨_,rfl⟩
   obtain⟨bd,hbd⟩:∃b,boundB TT r bad n=b:=⟨_,rfl⟩
   rw[hfr] at F0 hs1
   rw[hbd] at B0 hs1
   have HS1:=Lib.hid hs1
   clear hs1 hfr hbd
   go_upto_region 6 with fail
   cases fr with
   | true=>
    have HN:Hid ((ps.drop (i+1)).all (fun x=>freeR TT (spR s x) (spB s x) || boundB TT (spR s x) (spB s x) n)=ans):=Lib.hid HS1.out
    refine wp_region_wc (W0:=W0) (by kernel_rfl) (by kernel_rfl) y.h ?_
    repeat (first | go_big_quiet_step ((first | (go_at_call 55;(with_reducible exact F0.out _)) | (go_at_call 56;(with_reducible exact B0.out _)))) | quiet_step ((first | (go_at_call 55;(with_reducible exact F0.out _)) | (go_at_call 56;(with_reducible exact B0.out _)))))
    refine wpQuiet_nil ?_
    rintro _ ⟨y1,rfl⟩
    go_wp2_with fail
    exact⟨⟨i+1,y1,by go_num,by omega,HN,by first | rfl | trivial⟩,by simp[intOf];omega⟩
   | false=>
    cases bd with
    | true=>
     have HN:Hid ((ps.drop (i+1)).all (fun x=>freeR TT (spR s x) (spB s x) || boundB TT (spR s x) (spB s x) n)=ans):=Lib.hid HS1.out
     refine wp_region_wc (W0:=W0) (by kernel_rfl) (by kernel_rfl) y.h ?_
     repeat (first | go_big_quiet_step ((first | (go_at_call 55;(with_reducible exact F0.out _)) | (go_at_call 56;(with_reducible exact B0.out _)))) | quiet_step ((first | (go_at_call 55;(with_reducible exact F0.out _)) | (go_at_call 56;(with_reducible exact B0.out _)))))
     refine wpQuiet_nil ?_
     rintro _ ⟨y1,rfl⟩
     go_wp2_with fail
     exact⟨⟨i+1,y1,by go_num,by omega,HN,by first | rfl | trivial⟩,by simp[intOf];omega⟩
    | false=>
     have HE:Hid (ans=false):=Lib.hid HS1.out.symm
     refine wp_region_wc (W0:=W0) (by kernel_rfl) (by kernel_rfl) y.h ?_
     repeat (first | go_big_quiet_step ((first | (go_at_call 55;(with_reducible exact F0.out _)) | (go_at_call 56;(with_reducible exact B0.out _)))) | quiet_step ((first | (go_at_call 55;(with_reducible exact F0.out _)) | (go_at_call 56;(with_reducible exact B0.out _)))))
     refine wpQuiet_nil ?_
     rintro _ ⟨y1,rfl⟩
     go_wp2_with fail
     try go_ret
     exact⟨by rw[HE.out] <;> rfl,HB.out.trans (y1.h.mono HB.out.size)⟩
  ·obtain rfl:i=ps.length:=by omega
   have HE:Hid (ans=true):=Lib.hid (by rw[←HF.out,List.drop_length];rfl)
   clear hi hlt i0 HF
   go_wp2_with fail
   try go_ret
   exact⟨by rw[HE.out] <;> rfl,HB.out.trans (y.h.mono HB.out.size)⟩
end Go.Proofs.YtioehfhdoohdmaaGreatDoor
namespace Go.Proofs.YtioehfhdoohdmaaGreatDoor
open Go.RowKit Go.Shelf BigFrame
def rofL (T:Tab) (s:ByteArray) (ps:List (Pl s)) (i:Nat):List Int:=((List.range i).filter (fun k:Nat=>canB T s ps (k:Int))).map (fun k:Nat=>(k:Int))
theorem rofL_len (T:Tab) (s:ByteArray) (ps:List (Pl s)) (i:Nat):(rofL T s ps i).length≤i:=by
 unfold rofL
 rw[List.length_map]
 exact Nat.le_trans (List.length_filter_le _ _) (by rw[List.length_range];exact Nat.le_refl _)
theorem rofL_next (T:Tab) (s:ByteArray) (ps:List (Pl s)) (i:Nat):rofL T s ps (i+1)=if canB T s ps (i:Int) then rofL T s ps i++[(i:Int)] else rofL T s ps i:=by
 unfold rofL
 rw[List.range_succ,List.filter_append,List.map_append]
 cases e:canB T s ps (i:Int) <;> simp only[List.filter_cons,List.filter_nil,e] <;> simp
def mixB (T:Tab) (s:ByteArray) (ps:List (Pl s)):Bool:=!(ps.all (fun x=>freeR T (spR s x) (spB s x))) && decide ((rofL T s ps T.scripts.length).length=0)
def ROfPost (W:World) (l:List Int) (e:Ending) (w':World):Prop:=∃(o:Option Addr) (c:Nat),e=.returned (.slice o l.length c)∧w'.ownsRow W.heap.size 3 1 (.slice o l.length c) l.length (iV l)∧Below W.heap.size W w'
set_option maxRecDepth 100000 in
set_option maxHeartbeats 8000000 in
theorem rof_any (T:Tab) (a:TAddr) (s:ByteArray) (ps:List (Pl s)) (o:Option Addr) (c:Nat) (W:World) (h:TabAt W T a) (hp:SpsAt W s o ps) (hn:ps.length≤1048576) (hl:T.scripts.length≤1048576):Calls Tryz.prog 17 #[.agg (tabCells T a),.slice o ps.length c] W (ROfPost W (rofL T s ps T.scripts.length)):=by
 obtain⟨TT,hTT⟩:∃TT:Tab,TT=T:=⟨_,rfl⟩
 obtain⟨l0,l1,l2,l3,l4,l5,l6,l7⟩:=T
 obtain⟨o0,o1,o2,o3,o4,o5,o6,o7,c0,c1,c2,c3,c4,c5,c6,c7⟩:=a
 obtain⟨hT,HTb,hB1,hz⟩:=box1 h
 simp only[tabCells] at hT HTb hB1 hz hl ⊢
 rw[←hTT]
 obtain⟨W0,hW0⟩:∃W0,(W.alloc (.cells #[.slice o0 l0.length c0,.slice o1 l1.length c1,.slice o2 l2.length c2,.slice o3 l3.length c3,.slice o4 l4.length c4,.slice o5 l5.length c5,.slice o6 l6.length c6,.slice o7 l7.length c7] 28))=W0:=⟨_,rfl⟩
 rw[hW0] at hT HTb hB1 hz
 have HW0:=Lib.hid hW0
 have HB:=Lib.hid hB1
 have HZ:=Lib.hid hz
 have t0:∀y:WC W0,y.w.cell? ⟨W.heap.size,0,none⟩=some (.slice o0 l0.length c0):=WC.cell (HTb 0 (.slice o0 l0.length c0) rfl)
 have t1:∀y:WC W0,y.w.cell? ⟨W.heap.size,1,none⟩=some (.slice o1 l1.length c1):=WC.cell (HTb 1 (.slice o1 l1.length c1) rfl)
 have t2:∀y:WC W0,y.w.cell? ⟨W.heap.size,2,none⟩=some (.slice o2 l2.length c2):=WC.cell (HTb 2 (.slice o2 l2.length c2) rfl)
 have t3:∀y:WC W0,y.w.cell? ⟨W.heap.size,3,none⟩=some (.slice o3 l3.length c3):=WC.cell (HTb 3 (.slice o3 l3.length c3) rfl)
 have t4:∀y:WC W0,y.w.cell? ⟨W.heap.size,4,none⟩=some (.slice o4 l4.length c4):=WC.cell (HTb 4 (.slice o4 l4.length c4) rfl)
 have t5:∀y:WC W0,y.w.cell? ⟨W.heap.size,5,none⟩=some (.slice o5 l5.length c5):=WC.cell (HTb 5 (.slice o5 l5.length c5) rfl)
 have t6:∀y:WC W0,y.w.cell? ⟨W.heap.size,6,none⟩=some (.slice o6 l6.length c6):=WC.cell (HTb 6 (.slice o6 l6.length c6) rfl)
 have t7:∀y:WC W0,y.w.cell? ⟨W.heap.size,7,none⟩=some (.slice o7 l7.length c7):=WC.cell (HTb 7 (.slice o7 l7.length c7) rfl)
 have hps:SpsAt W0 s o ps:=hp.below hB1
 have HPs:=Lib.hid hps
 have HCan:Hid (∀(n:Int) (y:WC W0),Calls Tryz.prog 22 #[.agg #[.slice o0 l0.length c0,.slice o1 l1.length c1,.slice o2 l2.length c2,.slice o3 l3.length c3,.slice o4 l4.length c4,.slice o5 l5.length c5,.slice o6 l6.length c6,.slice o7 l7.length c7],.slice o ps.length c,.int .i64 n] y.w fun e w'=>e=.returned (.bool (canB TT s ps n))∧Below y.w.heap.size y.w w'):=Lib.hid (fun n y=>(by rw[hTT];exact rcan_any _ ⟨o0,o1,o2,o3,o4,o5,o6,o7,c0,c1,c2,c3,c4,c5,c6,c7⟩ s ps o c n y.w (hT.below y.h) (hps.below y.h) hn))
 have HNx:Hid (∀i,rofL TT s ps (i+1)=if canB TT s ps (i:Int) then rofL TT s ps i++[(i:Int)] else rofL TT s ps i):=Lib.hid (rofL_next TT s ps)
 have HLn:Hid (∀i,(rofL TT s ps i).length≤i):=Lib.hid (rofL_len TT s ps)
 have HZ0:Hid (rofL TT s ps 0=[]):=Lib.hid rfl
 obtain⟨i0_,hi_,hz0,hz1,hz2⟩:=info_parts info_int
 have HI:=Lib.hid (And.intro hi_ (And.intro hz0 (And.intro hz1 hz2)))
 clear hi_ hz0 hz1 hz2 hT HTb hB1 hz h hW0 hp hps hTT
 obtain⟨P,hP⟩:∃P,ROfPost W (rofL TT s ps l0.length)=P:=⟨_,rfl⟩
 have HP:Hid (∀e w',P e w'=ROfPost W (rofL TT s ps l0.length) e w'):=Lib.hid (fun e w'=>by rw[hP])
 rw[hP]
 clear hP
 obtain⟨y,hy⟩:∃y:WC W0,y.w=W0:=⟨WC.of W0,rfl⟩
 go_enter Tryz.func17,Tryz.ntmps17
 go_upto_region 1 with fail
 rw[HW0.out,←hy]
 clear hy HW0
 go_wp2_with fail
 go_loopw [5,6] (fun v5 v6 wr=>∃(i:Nat) (y:WC W0),v6=.int .i64 i∧i≤l0.length∧wr=y.w∧Hid (y.w.ownsRow W0.heap.size 3 1 v5 (rofL TT s ps i).length (iV (rofL TT s ps i)))) (fun _ v6 _=>l0.length - (intOf v6).toNat)
 case atStart=>exact⟨0,y,rfl,Nat.zero_le _,rfl,Lib.hid (by rw[HZ0.out];exact own_nil _ _ _ _)⟩
 case round=>
  clear y
  obtain⟨i,y,rfl,hi,rfl,hown⟩:=hrel
  have i0:(0:Int)≤(i:Int):=Int.natCast_nonneg _
  by_cases hlt:i<l0.length
  ·have i1:(i:Int)<(l0.length:Int):=by omega
   have hnx:=HNx.out i
   have K0:=Lib.hid (HCan.out (i:Int))
   obtain⟨cb,hcb⟩:∃b,canB TT s ps (i:Int)=b:=⟨_,rfl⟩
   rw[hcb] at K0 hnx
   have HN1:=Lib.hid hnx
   clear hnx hcb
   cases cb with
   | false=>
    have HN2:Hid (rofL TT s ps (i+1)=rofL TT s ps i):=Lib.hid HN1.out
    go_wp2_with fail
    (with_reducible refine Calls.mono (K0.out y) ?_)
    rintro e w' ⟨rfl,hBc⟩
    have hown1:=own_later hown.out hBc
    obtain⟨y1,hy1⟩:∃z:WC W0,z.w=w':=⟨⟨w',y.h.trans (hBc.mono y.h.size)⟩,rfl⟩
    subst hy1
    have HOw:=Lib.hid hown1
    clear hBc hown1 hown
    go_wp2_with fail
    exact⟨⟨i+1,y1,by go_num,by omega,rfl,Lib.hid (by rw[HN2.out];exact HOw.out)⟩,by simp[intOf];omega⟩
   | true=>
    have HN2:Hid (rofL TT s ps (i+1)=rofL TT s ps i++[(i:Int)]):=Lib.hid HN1.out
    go_wp2_with fail
    (with_reducible refine Calls.mono (K0.out y) ?_)
    rintro e w' ⟨rfl,hBc⟩
    have hown1:=own_later hown.out hBc
    obtain⟨y1,hy1⟩:∃z:WC W0,z.w=w':=⟨⟨w',y.h.trans (hBc.mono y.h.size)⟩,rfl⟩
    subst hy1
    have HOw:=Lib.hid hown1
    clear hBc hown1 hown
    have hln:=HLn.out i
    obtain⟨acc,hacc⟩:∃acc,rofL TT s ps i=acc:=⟨_,rfl⟩
    rw[hacc] at HN2 HOw hln
    have hown2:=HOw.out
    have hz:=y1.h.size
    have hzz:=HZ.out
    obtain⟨hq,hq0,hq1,hq2⟩:=HI.out
    clear hacc
    go_wp2_with (at_builtin;refine wpList_append_own _ rfl _ _ 40 rfl W0.heap.size 3 i0_ _ 1 8 Tryz.underlying40 hq hq0 hq1 hq2 rfl (by decide) _ acc.length (iV acc) rfl (hown2.alloc _) ⟨y1.w.heap.size,0,none⟩ 1 1 [.int .i64 i] rfl rfl (new_cells _ _ (by simp) [.int .i64 i] _) (by simp[Value.oneCell']) (by unfold maxLen;omega) (by omega) (by simp at hz ⊢;omega) ?_;intro v' w4 hown' hgrow _)
    have hB5:Below W0.heap.size W0 w4:=by
     refine (y1.h.alloc y1.h.size (.cells [.int .i64 i].toArray 3)).grown hgrow (by simp at hz ⊢;omega) (fun k e=>by have:=(hown2.lt k e).1;omega)
    exact⟨⟨i+1,⟨w4,hB5⟩,by go_num,by omega,rfl,Lib.hid (by rw[HN2.out];exact int_snoc hown')⟩,by simp[intOf];omega⟩
  ·obtain rfl:i=l0.length:=by omega
   obtain⟨o2,d2,hv,h1,h2,h3,h4⟩:=own_rd hown.out
   obtain rfl:=hv
   have HOw:=Lib.hid hown.out
   clear hown h1 h2 h3 h4 hi hlt i0
   go_wp2_with fail
   try go_ret
   rw[HP.out]
   exact⟨o2,d2,rfl,own_base HOw.out HB.out.size,HB.out.trans (y.h.mono HB.out.size)⟩
end Go.Proofs.YtioehfhdoohdmaaGreatDoor
namespace Go.Proofs.YtioehfhdoohdmaaGreatDoor
open Go.RowKit Go.Shelf BigFrame
set_option maxRecDepth 100000 in
set_option maxHeartbeats 8000000 in
theorem rmixed_any (T:Tab) (a:TAddr) (s:ByteArray) (ps:List (Pl s)) (o:Option Addr) (c:Nat) (W:World) (h:TabAt W T a) (hp:SpsAt W s o ps) (hn:ps.length≤1048576) (hl:T.scripts.length≤1048576):Calls Tryz.prog 53 #[.agg (tabCells T a),.slice o ps.length c] W (fun e w'=>e=.returned (.bool (mixB T s ps))∧Below W.heap.size W w'):=by
 obtain⟨TT,hTT⟩:∃TT:Tab,TT=T:=⟨_,rfl⟩
 obtain⟨l0,l1,l2,l3,l4,l5,l6,l7⟩:=T
 obtain⟨o0,o1,o2,o3,o4,o5,o6,o7,c0,c1,c2,c3,c4,c5,c6,c7⟩:=a
 obtain⟨hT,HTb,hB1,hz⟩:=box1 h
 simp only[tabCells] at hT HTb hB1 hz hl ⊢
 rw[←hTT]
 obtain⟨W0,hW0⟩:∃W0,(W.alloc (.cells #[.slice o0 l0.length c0,.slice o1 l1.length c1,.slice o2 l2.length c2,.slice o3 l3.length c3,.slice o4 l4.length c4,.slice o5 l5.length c5,.slice o6 l6.length c6,.slice o7 l7.length c7] 28))=W0:=⟨_,rfl⟩
 rw[hW0] at hT HTb hB1 hz
 have HW0:=Lib.hid hW0
 have HB:=Lib.hid hB1
 have HZ:=Lib.hid hz
 have t0:∀y:WC W0,y.w.cell? ⟨W.heap.size,0,none⟩=some (.slice o0 l0.length c0):=WC.cell (HTb 0 (.slice o0 l0.length c0) rfl)
 have t1:∀y:WC W0,y.w.cell? ⟨W.heap.size,1,none⟩=some (.slice o1 l1.length c1):=WC.cell (HTb 1 (.slice o1 l1.length c1) rfl)
 have t2:∀y:WC W0,y.w.cell? ⟨W.heap.size,2,none⟩=some (.slice o2 l2.length c2):=WC.cell (HTb 2 (.slice o2 l2.length c2) rfl)
 have t3:∀y:WC W0,y.w.cell? ⟨W.heap.size,3,none⟩=some (.slice o3 l3.length c3):=WC.cell (HTb 3 (.slice o3 l3.length c3) rfl)
 have t4:∀y:WC W0,y.w.cell? ⟨W.heap.size,4,none⟩=some (.slice o4 l4.length c4):=WC.cell (HTb 4 (.slice o4 l4.length c4) rfl)
 have t5:∀y:WC W0,y.w.cell? ⟨W.heap.size,5,none⟩=some (.slice o5 l5.length c5):=WC.cell (HTb 5 (.slice o5 l5.length c5) rfl)
 have t6:∀y:WC W0,y.w.cell? ⟨W.heap.size,6,none⟩=some (.slice o6 l6.length c6):=WC.cell (HTb 6 (.slice o6 l6.length c6) rfl)
 have t7:∀y:WC W0,y.w.cell? ⟨W.heap.size,7,none⟩=some (.slice o7 l7.length c7):=WC.cell (HTb 7 (.slice o7 l7.length c7) rfl)
 have hps:SpsAt W0 s o ps:=hp.below hB1
 have HPs:=Lib.hid hps
 obtain⟨ans,hans⟩:∃b,mixB TT s ps=b:=⟨_,rfl⟩
 rw[hans]
 have HFr:Hid (∀(r p k:Int) (bad:Bool) (y:WC W0),Calls Tryz.prog 55 #[.agg #[.slice o0 l0.length c0,.slice o1 l1.length c1,.slice o2 l2.length c2,.slice o3 l3.length c3,.slice o4 l4.length c4,.slice o5 l5.length c5,.slice o6 l6.length c6,.slice o7 l7.length c7],.agg #[.int .i32 r,.int .i64 p,.int .i64 k,.bool bad]] y.w fun e w'=>e=.returned (.bool (freeR TT r bad))∧∃z:WC W0,w'=z.w):=Lib.hid (fun r p k bad y=>WC.call (by rw[hTT];exact rfree_any _ ⟨o0,o1,o2,o3,o4,o5,o6,o7,c0,c1,c2,c3,c4,c5,c6,c7⟩ r p k bad y.w (hT.below y.h)))
 have HOf:Hid (∀y:WC W0,Calls Tryz.prog 17 #[.agg #[.slice o0 l0.length c0,.slice o1 l1.length c1,.slice o2 l2.length c2,.slice o3 l3.length c3,.slice o4 l4.length c4,.slice o5 l5.length c5,.slice o6 l6.length c6,.slice o7 l7.length c7],.slice o ps.length c] y.w (ROfPost y.w (rofL TT s ps l0.length))):=Lib.hid (fun y=>by rw[hTT];exact rof_any _ ⟨o0,o1,o2,o3,o4,o5,o6,o7,c0,c1,c2,c3,c4,c5,c6,c7⟩ s ps o c y.w (hT.below y.h) (hps.below y.h) hn hl)
 have HAn:Hid (ans=(!(ps.all (fun x=>freeR TT (spR s x) (spB s x))) && decide ((rofL TT s ps l0.length).length=0))):=Lib.hid (by have e:TT.scripts.length=l0.length:=(by rw[hTT]);rw[←hans,←e];rfl)
 have HF:Hid ((ps.drop 0).all (fun x=>freeR TT (spR s x) (spB s x))=ps.all (fun x=>freeR TT (spR s x) (spB s x))):=Lib.hid rfl
 obtain⟨q,hq⟩:∃b,ps.all (fun x=>freeR TT (spR s x) (spB s x))=b:=⟨_,rfl⟩
 rw[hq] at HF HAn
 generalize rofL TT s ps l0.length=L at *
 clear hT HTb hB1 hz h hW0 hp hps hTT hans hq
 obtain⟨y,hy⟩:∃y:WC W0,y.w=W0:=⟨WC.of W0,rfl⟩
 go_enter Tryz.func53,Tryz.ntmps53
 go_upto_region 1 with fail
 rw[HW0.out,←hy]
 clear hy HW0
 go_wp2_with fail
 go_loopw [5] (fun v5 wr=>∃(i:Nat) (y:WC W0),v5=.int .i64 i∧i≤ps.length∧Hid ((ps.drop i).all (fun x=>freeR TT (spR s x) (spB s x))=q)∧wr=y.w) (fun v5 _=>ps.length - (intOf v5).toNat)
 case atStart=>exact⟨0,y,rfl,Nat.zero_le _,HF,rfl⟩
 case round=>
  clear HF y
  obtain⟨i,y,rfl,hi,HF,rfl⟩:=hrel
  have i0:(0:Int)≤(i:Int):=Int.natCast_nonneg _
  by_cases hlt:i<ps.length
  ·have i1:(i:Int)<(ps.length:Int):=by omega
   obtain⟨g,off,ho,q0,q1,q2,q3⟩:=SpsAt.row HPs.out hlt
   subst ho
   have hs1:=all_step (f:=fun x=>freeR TT (spR s x) (spB s x)) hlt HF.out
   try dsimp only at hs1
   have e0:=fun y:WC W0=>y.cell q0
   have e1:=fun y:WC W0=>y.cell q1
   have e2:=fun y:WC W0=>y.cell q2
   have e3:=fun y:WC W0=>y.cell q3
   clear q0 q1 q2 q3 HF
   generalize spR s ps[i]=r at *
   generalize spB s ps[i]=bad at *
   generalize ((ps[i].1:Nat):Int)=p at *
   generalize ((Utf8.decode s ps[i].1).2:Int)=k at *
   have F0:=Lib.hid (HFr.out r p k bad)
   obtain⟨fr,hfr⟩:∃b,freeR TT r bad=b:=⟨_,rfl⟩
   rw[hfr] at F0 hs1
   have HS1:=Lib.hid hs1
   clear hs1 hfr
   go_upto_region 4 with fail
   cases fr with
   | true=>
    have HN:Hid ((ps.drop (i+1)).all (fun x=>freeR TT (spR s x) (spB s x))=q):=Lib.hid HS1.out
    refine wp_region_wc (W0:=W0) (by kernel_rfl) (by kernel_rfl) y.h ?_
    repeat (first | go_big_quiet_step (((go_at_call 55;(with_reducible exact F0.out _)))) | quiet_step (((go_at_call 55;(with_reducible exact F0.out _)))))
    refine wpQuiet_nil ?_
    rintro _ ⟨y1,rfl⟩
    go_wp2_with fail
    exact⟨⟨i+1,y1,by go_num,by omega,HN,by first | rfl | trivial⟩,by simp[intOf];omega⟩
   | false=>
    have HE:Hid (ans=decide (L.length=0)):=Lib.hid (by rw[HAn.out,show q=false from HS1.out.symm];rfl)
    refine wp_region_wc (W0:=W0) (by kernel_rfl) (by kernel_rfl) y.h ?_
    repeat (first | go_big_quiet_step (((go_at_call 55;(with_reducible exact F0.out _)))) | quiet_step (((go_at_call 55;(with_reducible exact F0.out _)))))
    refine wpQuiet_nil ?_
    rintro _ ⟨y1,rfl⟩
    go_wp2_with fail
    (with_reducible refine Calls.mono (HOf.out y1) ?_)
    rintro e w' ⟨o2,d2,rfl,_,hB2⟩
    have HB2:=Lib.hid hB2
    clear hB2
    obtain⟨n2,hn2⟩:∃n,L.length=n:=⟨_,rfl⟩
    rw[hn2] at HE ⊢
    clear hn2
    by_cases hz:n2=0
    ·subst hz
     go_wp2_with fail
     try go_ret
     exact⟨by rw[HE.out] <;> rfl,(HB.out.trans (y1.h.mono HB.out.size)).trans (HB2.out.mono (Nat.le_trans HB.out.size y1.h.size))⟩
    ·have hd:((n2:Int) == 0)=false:=by rw[beq_eq_false_iff_ne];omega
     have HE2:Hid (ans=false):=Lib.hid (by rw[HE.out];simp[hz])
     go_wp2_with fail
     try go_ret
     exact⟨by rw[HE2.out] <;> rfl,(HB.out.trans (y1.h.mono HB.out.size)).trans (HB2.out.mono (Nat.le_trans HB.out.size y1.h.size))⟩
  ·obtain rfl:i=ps.length:=by omega
   have HE:Hid (ans=false):=Lib.hid (by have h:=HF.out;rw[List.drop_length] at h;rw[HAn.out,show q=true from h.symm];rfl)
   clear hi hlt i0 HF
   go_wp2_with fail
   try go_ret
   exact⟨by rw[HE.out] <;> rfl,HB.out.trans (y.h.mono HB.out.size)⟩
end Go.Proofs.YtioehfhdoohdmaaGreatDoor
namespace Go.Proofs.YtioehfhdoohdmaaGreatDoor
open Go.RowKit Go.Shelf
theorem scrL_has (T:Tab) (r:Int) (j:Nat) (h:j<T.scripts.length):(scrL T r T.scripts.length).contains (j:Int)=ofB r (T.scripts.getD j (ByteArray.empty,[])).2:=by
 rw[Bool.eq_iff_iff,List.contains_iff_mem]
 unfold scrL
 simp only[List.mem_map,List.mem_filter,List.mem_range]
 constructor
 ·rintro⟨k,⟨_,hk⟩,e⟩
  have:k=j:=by omega
  subst this
  exact hk
 ·intro hk
  exact⟨j,⟨h,hk⟩,rfl⟩
theorem bdL_has (T:Tab) (r:Int) (bad:Bool) (j:Nat) (h:j<T.scripts.length) (hf:freeR T r bad=false):(bdL T r bad).contains (j:Int)=boundB T r bad (j:Int):=by
 unfold bdL boundB
 cases bad with
 | true=>rfl
 | false=>
  rw[if_neg (by decide),hf,if_neg (by decide),scrL_has T r j h]
  have h1:decide ((0:Int)≤(j:Int))=true:=by simp
  have h2:decide ((j:Int)<(T.scripts.length:Int))=true:=by simp;omega
  rw[h1,h2,Int.toNat_natCast]
  rfl
theorem stepO_on (T:Tab) (s:ByteArray) (x:Pl s) (L:List Int) (hL:∀k∈L,∃j:Nat,j<T.scripts.length∧k=(j:Int)):stepO T s L x=L.filter fun k=>onB T s k x:=by
 unfold stepO onB
 cases hf:freeR T (spR s x) (spB s x) with
 | true=>simp only[if_true,Bool.true_or];exact (List.filter_eq_self.2 (fun _ _=>rfl)).symm
 | false=>
  rw[if_neg (by decide)]
  apply List.filter_congr
  intro k hk
  obtain⟨j,hj,rfl⟩:=hL k hk
  rw[bdL_has T _ _ j hj hf]
  rfl
theorem foldO_all (T:Tab) (s:ByteArray):∀(ps:List (Pl s)) (L:List Int),(∀k∈L,∃j:Nat,j<T.scripts.length∧k=(j:Int))→ps.foldl (stepO T s) L=L.filter fun k=>ps.all (onB T s k):=by
 intro ps
 induction ps with
 | nil=>intro L _;exact (List.filter_eq_self.2 (fun _ _=>rfl)).symm
 | cons x t ih=>
  intro L hL
  rw[List.foldl_cons,ih _ (fun k hk=>by rw[stepO_on T s x L hL] at hk;exact hL k (List.mem_filter.1 hk).1),stepO_on T s x L hL,List.filter_filter]
  apply List.filter_congr
  intro k _
  rw[List.all_cons,Bool.and_comm]
theorem foldO_rof (T:Tab) (s:ByteArray) (ps:List (Pl s)):foldO T s ps=rofL T s ps T.scripts.length:=by
 unfold foldO
 rw[foldO_all T s ps _ (fun k hk=>by
  unfold allL at hk
  obtain⟨j,hj,rfl⟩:=List.mem_map.1 hk
  exact⟨j,List.mem_range.1 hj,rfl⟩)]
 unfold allL rofL
 rw[List.filter_map]
 congr 1
 apply List.filter_congr
 intro k hk
 have hk':=List.mem_range.1 hk
 show ps.all (onB T s (k:Int))=canB T s ps (k:Int)
 unfold canB
 have h1:decide ((0:Int)≤(k:Int))=true:=by simp
 have h2:decide ((k:Int)<(T.scripts.length:Int))=true:=by simp;omega
 rw[h1,h2]
 rfl
end Go.Proofs.YtioehfhdoohdmaaGreatDoor
namespace Go.Proofs.YtioehfhdoohdmaaGreatDoor
open Go.RowKit Go.Shelf
theorem mixB_fold (T:Tab) (s:ByteArray) (ps:List (Pl s)):mixB T s ps=(!(ps.all (fun x=>freeR T (spR s x) (spB s x))) && (foldO T s ps).isEmpty):=by
 unfold mixB
 rw[foldO_rof]
 congr 1
 cases rofL T s ps T.scripts.length <;> simp
theorem mix_snoc (T:Tab) (s:ByteArray) (pre:List (Pl s)) (x:Pl s) (h:mixB T s pre=false):mixB T s (pre++[x])=(!freeR T (spR s x) (spB s x) && (stepO T s (foldO T s pre) x).isEmpty):=by
 rw[mixB_fold] at h ⊢
 rw[foldO_snoc,List.all_append]
 cases hf:freeR T (spR s x) (spB s x) with
 | true=>
  have hs:∀L,stepO T s L x=L:=fun L=>by unfold stepO;rw[hf];rfl
  rw[hs]
  simpa [hf] using h
 | false=>simp[hf]
end Go.Proofs.YtioehfhdoohdmaaGreatDoor
