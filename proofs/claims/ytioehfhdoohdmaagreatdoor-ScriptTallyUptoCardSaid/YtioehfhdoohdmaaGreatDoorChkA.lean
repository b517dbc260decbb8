/- ChkA: Chk, CDrops, CPairs, Look, BPlain, COnce0, Large. -/
import Derived.Test.YtioehfhdoohdmaaGreatDoorCloneA
import Derived.Test.YtioehfhdoohdmaaGreatDoorOfA
import Derived.Test.YtioehfhdoohdmaaGreatDoorT6P
import Derived.Test.YtioehfhdoohdmaaGreatDoorTabA
set_option linter.unusedVariables false
set_option linter.unusedSimpArgs false
namespace Go.Proofs.YtioehfhdoohdmaaGreatDoor
open Go.RowKit Go.Shelf
structure MAddr where
 bc:Nat
 bb:Nat
 m1:Nat
 m2:Nat
 m3:Nat
 m4:Nat
 m5:Nat
structure ChkAt (W:World) (M:MAddr) (T:Tab) (a:TAddr):Prop where
 tab:TabAt W T a
 c:∀k v,(tabCells T a)[k]?=some v→W.cell? ⟨M.bc,k,none⟩=some v
 p:W.cell? ⟨M.bc,8,none⟩=some (.pointer (some ⟨M.bb,0,none⟩))
 q1:W.cell? ⟨M.bb,8,none⟩=some (.map (some M.m1))
 q2:W.cell? ⟨M.bb,9,none⟩=some (.map (some M.m2))
 q3:W.cell? ⟨M.bb,10,none⟩=some (.map (some M.m3))
 q4:W.cell? ⟨M.bb,11,none⟩=some (.map (some M.m4))
 q5:W.cell? ⟨M.bb,12,none⟩=some (.map (some M.m5))
theorem ChkAt.below {W W':World}{M:MAddr}{T:Tab}{a:TAddr}(h:ChkAt W M T a) (hB:Below W.heap.size W W'):ChkAt W' M T a:=
 ⟨h.tab.below hB,fun k v hv=>cell_bel hB (h.c k v hv),cell_bel hB h.p,cell_bel hB h.q1,cell_bel hB h.q2,cell_bel hB h.q3,cell_bel hB h.q4,cell_bel hB h.q5⟩
structure TabFit (T:Tab):Prop where
 small:TabSmall T
 names:∀x∈T.scripts,x.1.size≤1048576∧x.2.length≤1048576
 l0:T.scripts.length≤1048576
 l1:T.common.length≤1048576
 l2:T.marks.length≤1048576
 l3:T.pairs.length≤1048576
 l4:T.folds.length≤1048576
 l5:T.looks.length≤1048576
 l6:T.drops.length≤1048576
 l7:T.allowed.length≤1048576
def mrow (x:Int×Int):Value×Value:=(.int .i32 x.1,.int .i64 x.2)
def prow (x:Int×Int×Int):Value×Value:=(.int .i32 x.1,.agg #[.int .i32 x.2.1,.int .i32 x.2.2])
def jrow (x:Int×Int×Int):Value×Value:=(.agg #[.int .i32 x.2.1,.int .i32 x.2.2],.int .i32 x.1)
def frow (x:Int×ByteArray):Value×Value:=(.int .i32 x.1,.string x.2)
structure MapsAt5 (W:World) (M:MAddr) (T:Tab):Prop where
 m1:MapIs Tryz.prog 21 W M.m1 (T.marks.map mrow)
 m2:MapIs Tryz.prog 21 W M.m2 (T.pairs.map prow)
 m3:MapIs Tryz.prog 171 W M.m3 (T.pairs.map jrow)
 m4:MapIs Tryz.prog 21 W M.m4 (T.folds.map frow)
 m5:MapIs Tryz.prog 21 W M.m5 (T.looks.map frow)
theorem MapsAt5.below {W W':World}{M:MAddr}{T:Tab}(h:MapsAt5 W M T) (hB:Below W.heap.size W W'):MapsAt5 W' M T:=⟨h.m1.keep hB,h.m2.keep hB,h.m3.keep hB,h.m4.keep hB,h.m5.keep hB⟩
end Go.Proofs.YtioehfhdoohdmaaGreatDoor
namespace Go.Proofs.YtioehfhdoohdmaaGreatDoor
open Go.RowKit Go.Shelf BigFrame
theorem gone_any (L:List Span) (o6:Option Addr) (c6:Nat) (bc bx:Nat) (xo:Option Addr) (xc:Nat) (rs:List Int) (W:World)
 (hb:W.cell? ⟨bx,0,none⟩=some (.pointer (some ⟨bc,0,none⟩))) (h6:W.cell? ⟨bc,6,none⟩=some (.slice o6 L.length c6)) (hL:SpansAt W o6 L) (hm:L.length≤1048576) (hok:SpOk L) (hr:Rd W xo (rs.map (.int .i32))) (hn:rs.length≤1000) :
 Calls Tryz.prog 105 #[.slice xo rs.length xc,.pointer (some ⟨bx,0,none⟩)] W fun e w'=>e=.returned (.bool (rs.any (fun r=>ofB r L)))∧Below W.heap.size W w':=by
 have x0:∀y:WC W,y.w.cell? ⟨bx,0,none⟩=some (.pointer (some ⟨bc,0,none⟩)):=WC.cell hb
 have t6:∀y:WC W,y.w.cell? ⟨bc,6,none⟩=some (.slice o6 L.length c6):=WC.cell h6
 have HO:Hid (∀(r:Int) (y:WC W),Calls Tryz.prog 106 #[.int .i32 r,.slice o6 L.length c6] y.w fun e w'=>e=.returned (.bool (ofB r L))∧∃z:WC W,w'=z.w):=Lib.hid (fun r y=>WC.call (tof_any o6 c6 L r y.w (hL.below y.h) hm hok))
 have HR:=Lib.hid hr
 have lm:(rs.length:Int)≤1000:=by omega
 clear hb h6 hL hok hr
 go_enter Tryz.func105,Tryz.ntmps105
 go_wp2_with fail
 obtain⟨y,hy⟩:∃y:WC W,y.w=W:=⟨WC.of W,rfl⟩
 conv=>arg 5;rw[←hy]
 clear hy
 go_loopw [8] (fun v8 wr=>∃(i:Nat) (y:WC W),v8=.int .i64 i∧i≤rs.length∧Hid (∀k (hk:k<rs.length),k<i→ofB rs[k] L=false)∧wr=y.w) (fun v8 _=>rs.length - (intOf v8).toNat)
 case atStart=>exact⟨0,y,rfl,Nat.zero_le _,Lib.hid (fun k _ h=>absurd h (by omega)),rfl⟩
 case round=>
  clear y
  obtain⟨i,y,rfl,hi,Hno,rfl⟩:=hrel
  have i0:(0:Int)≤(i:Int):=Int.natCast_nonneg _
  by_cases hlt:i<rs.length
  ·have i1:(i:Int)<(rs.length:Int):=by omega
   obtain⟨g,off,ho,c0⟩:=HR.out i (.int .i32 rs[i]) (by rw[List.getElem?_map,List.getElem?_eq_getElem hlt];rfl)
   subst ho
   have HY:=Lib.hid (fun e=>any_some (p:=fun r=>ofB r L) hlt e)
   have HN:Hid (ofB rs[i] L=false→∀k (hk:k<rs.length),k<i+1→ofB rs[k] L=false):=Lib.hid (fun e k hk hki=>by
    by_cases q:k=i
    ·subst q;exact e
    ·exact Hno.out k hk (by omega))
   generalize rs[i]=x at *
   have e0:=fun y:WC W=>y.cell c0
   clear c0
   have K:=Lib.hid (HO.out x)
   cases h0:ofB x L with
   | true=>
    rw[h0] at K
    have HY2:=Lib.hid (HY.out h0)
    clear HY HN
    go_wp2_with fail
    (with_reducible refine Calls.mono (K.out y) ?_)
    rintro e w' ⟨rfl,y1,rfl⟩
    go_wp2_with fail
    go_ret
    exact⟨by rw[HY2.out];rfl,y1.h⟩
   | false=>
    rw[h0] at K
    have HN2:=Lib.hid (HN.out h0)
    clear HY HN
    go_wp2_with fail
    (with_reducible refine Calls.mono (K.out y) ?_)
    rintro e w' ⟨rfl,y1,rfl⟩
    go_wp2_with fail
    exact⟨⟨i+1,y1,by go_num,by omega,HN2,by first | rfl | trivial⟩,by simp[intOf];omega⟩
  ·obtain rfl:i=rs.length:=by omega
   have HR2:=Lib.hid (any_none (p:=fun r=>ofB r L) (fun k hk=>Hno.out k hk hk))
   clear hi hlt i0 Hno
   go_wp2_with fail
   go_ret
   exact⟨by rw[HR2.out];rfl,y.h⟩
end Go.Proofs.YtioehfhdoohdmaaGreatDoor
namespace Go.Proofs.YtioehfhdoohdmaaGreatDoor
open Go.RowKit Go.Shelf BigFrame
theorem class_mark {T:Tab}(hk:∀m∈T.marks,m.2≠0) (r:Int):(classN T r != 0)=markB T r:=by
 unfold classN markB
 cases e:T.marks.find? (mkey r) with
 | none=>
  have:T.marks.any (mkey r)=false:=by rw[List.any_eq_false];intro x hx;simpa using List.find?_eq_none.1 e x hx
  rw[this];rfl
 | some m=>
  have h1:T.marks.any (mkey r)=true:=List.any_eq_true.2 ⟨m,List.mem_of_find?_eq_some e,List.find?_some e⟩
  rw[h1]
  have:=hk m (List.mem_of_find?_eq_some e)
  simpa using this
theorem find_map {α:Type}(f:α→Value×Value) (p:α→Bool) (x:Value) (hp:∀m,(f m).1=x↔p m=true):∀(l:List α),(∀q∈l.map f,q.1≠x)∨∃m,l.find? p=some m∧f m∈l.map f∧(f m).1=x:=by
 intro l
 cases e:l.find? p with
 | none=>
  left
  intro q hq
  obtain⟨m,hm,rfl⟩:=List.mem_map.1 hq
  intro h
  have:=List.find?_eq_none.1 e m hm
  exact this ((hp m).1 h)
 | some m=>exact Or.inr ⟨m,rfl,List.mem_map.2 ⟨m,List.mem_of_find?_eq_some e,rfl⟩,(hp m).2 (List.find?_some e)⟩
theorem look_class {W:World}{b:Nat}{T:Tab}(h:MapIs Tryz.prog 21 W b (T.marks.map mrow)) {r:Int}(hr:I32 r):(Instr.lookup 121 (.map (some b)) (.int .i32 r) false).run Tryz.prog W=.ok (.int .i64 (classN T r)) W:=by
 unfold classN
 rcases find_map mrow (mkey r) (.int .i32 r) (fun m=>by simp[mrow,mkey]) T.marks with e | ⟨m,e,hm,hk⟩
 ·have:T.marks.find? (mkey r)=none:=List.find?_eq_none.2 fun m hm hk=>e (mrow m) (List.mem_map.2 ⟨m,hm,rfl⟩) (by simpa [mrow,mkey] using hk)
  rw[this,h.look_no keyed_rune Tryz.underlying121 (z:=.int .i64 0) (by kernel_rfl) (key_rune hr) e false]
  rfl
 ·rw[e]
  have hm':(Value.int .i32 r,Value.int .i64 m.2)∈T.marks.map mrow:=by
   have:m.1=r:=by simpa [mrow] using hk
   rw[←this];exact hm
  rw[h.look_yes keyed_rune Tryz.underlying121 (key_rune hr) hm' false]
  rfl
set_option maxRecDepth 100000 in
set_option maxHeartbeats 40000000 in
theorem cpairs_any (T:Tab) (a:TAddr) (M:MAddr) (W:World) (h:ChkAt W M T a) (hM:MapsAt5 W M T) (hk:∀m∈T.marks,m.2≠0) (hp:∀x∈T.pairs,runeB x.1=true∧runeB x.2.1=true∧runeB x.2.2=true):Calls Tryz.prog 69 #[.pointer (some ⟨M.bc,0,none⟩)] W fun e w'=>e=.returned (wV (scan (pairM T) T.pairs 0 (0,0,0)))∧Below W.heap.size W w':=by
 obtain⟨l0,l1,l2,l3,l4,l5,l6,l7⟩:=T
 obtain⟨o0,o1,o2,o3,o4,o5,o6,o7,c0,c1,c2,c3,c4,c5,c6,c7⟩:=a
 obtain⟨bc,bb,m1,m2,m3,m4,m5⟩:=M
 have hB:Below W.heap.size W (W.alloc (.cells #[.int .i64 0,.int .i64 0,.int .i64 0] 100)):=(Below.refl _ W).alloc (Nat.le_refl _) _
 have bA:=Blk.new' W #[.int .i64 0,.int .i64 0,.int .i64 0] 100
 have hC:=h.below hB
 have hMM:=hM.below hB
 obtain⟨W0,hW0⟩:∃W0,W.alloc (.cells #[.int .i64 0,.int .i64 0,.int .i64 0] 100)=W0:=⟨_,rfl⟩
 rw[hW0] at hB bA hC hMM
 have HW0:=Lib.hid hW0
 have HB:=Lib.hid hB
 have HA:=Lib.hid bA
 have HZ:Hid (W.heap.size<W0.heap.size):=Lib.hid bA.lt
 have hT:=hC.tab
 have a0:∀y:WC W0,y.w.cell? ⟨W.heap.size,0,none⟩=some (.int .i64 0):=WC.cell (bA.cell 0)
 have f0:∀y:WC W0,y.w.frozen? ⟨W.heap.size,0,none⟩=false:=WC.frozen (bA.cell 0) (bA.frozen 0)
 have a1:∀y:WC W0,y.w.cell? ⟨W.heap.size,1,none⟩=some (.int .i64 0):=WC.cell (bA.cell 1)
 have f1:∀y:WC W0,y.w.frozen? ⟨W.heap.size,1,none⟩=false:=WC.frozen (bA.cell 1) (bA.frozen 1)
 have a2:∀y:WC W0,y.w.cell? ⟨W.heap.size,2,none⟩=some (.int .i64 0):=WC.cell (bA.cell 2)
 have f2:∀y:WC W0,y.w.frozen? ⟨W.heap.size,2,none⟩=false:=WC.frozen (bA.cell 2) (bA.frozen 2)
 have t3:∀y:WC W0,y.w.cell? ⟨bc,3,none⟩=some (.slice o3 l3.length c3):=WC.cell (hC.c 3 (.slice o3 l3.length c3) rfl)
 have m3x:l3.length≤9223372036854775807:=hT.m3
 have HL3:=Lib.hid hT.pairs
 have t8:∀y:WC W0,y.w.cell? ⟨bc,8,none⟩=some (.pointer (some ⟨bb,0,none⟩)):=WC.cell hC.p
 have q1:∀y:WC W0,y.w.cell? ⟨bb,8,none⟩=some (.map (some m1)):=WC.cell hC.q1
 have q2:∀y:WC W0,y.w.cell? ⟨bb,9,none⟩=some (.map (some m2)):=WC.cell hC.q2
 have q3:∀y:WC W0,y.w.cell? ⟨bb,10,none⟩=some (.map (some m3)):=WC.cell hC.q3
 have q4:∀y:WC W0,y.w.cell? ⟨bb,11,none⟩=some (.map (some m4)):=WC.cell hC.q4
 have q5:∀y:WC W0,y.w.cell? ⟨bb,12,none⟩=some (.map (some m5)):=WC.cell hC.q5
 have HLk:Hid (∀(r:Int) (hr:runeB r=true) (U:World),Below W0.heap.size W0 U→(Instr.lookup 121 (.map (some m1)) (.int .i32 r) false).run Tryz.prog U=.ok (.int .i64 (classN ⟨l0,l1,l2,l3,l4,l5,l6,l7⟩ r)) U):=Lib.hid (fun r hr U hU=>look_class (hMM.m1.keep hU) (i32_of hr))
 have HKm:Hid (∀r,(classN ⟨l0,l1,l2,l3,l4,l5,l6,l7⟩ r != 0)=markB ⟨l0,l1,l2,l3,l4,l5,l6,l7⟩ r):=Lib.hid (fun r=>class_mark hk r)
 have HP:=Lib.hid hp
 clear hk hp
 have HWr:Hid (∀(a b c:Int) (U:World),Calls Tryz.prog 99 #[.int .i64 a,.int .i64 b,.int .i64 c] U fun e w'=>e=.returned (.agg #[.int .i64 a,.int .i64 b,.int .i64 c])∧Below U.heap.size U w'):=Lib.hid (fun a b c U=>twrong_any a b c U)
 clear hC hT hB h bA hW0 hM hMM
 obtain⟨R,hR⟩:∃R,scan (pairM ⟨l0,l1,l2,l3,l4,l5,l6,l7⟩) l3 0 (0,0,0)=R:=⟨_,rfl⟩
 rw[hR]
 try dsimp only at hR
 have HF:=Lib.hid hR
 clear hR
 obtain⟨TT,hTT⟩:∃TT:Tab,TT=⟨l0,l1,l2,l3,l4,l5,l6,l7⟩:=⟨_,rfl⟩
 rw[←hTT] at HLk HKm HF
 clear hTT
 obtain⟨fn,hfn,Hres⟩:∃fn,Tryz.f69=fn∧Hid (fn.results=#[.cell 2 100]):=⟨_,rfl,Lib.hid Tryz.results69⟩
 go_enter Tryz.func69,Tryz.ntmps69
 rw[hfn]
 clear hfn
 go_upto_region 1 with fail
 try dsimp only
 rw[HW0.out]
 clear HW0
 obtain⟨y,hy⟩:∃y:WC W0,y.w=W0:=⟨WC.of W0,rfl⟩
 rw[←hy]
 clear hy
 go_wp2_with fail
 go_loopw [11] (fun v11 wr=>∃(i:Nat) (y:WC W0),v11=.int .i64 i∧i≤l3.length∧Hid (scan (pairM TT) (l3.drop i) i ((0,0,0))=R)∧wr=y.w) (fun v11 _=>l3.length - (intOf v11).toNat)
 case atStart=>exact⟨0,y,rfl,Nat.zero_le _,HF,rfl⟩
 case round=>
  clear HF
  obtain⟨i,y,rfl,hi,HF,rfl⟩:=hrel
  have i0:(0:Int)≤(i:Int):=Int.natCast_nonneg _
  by_cases hlt:i<l3.length
  ·have i1:(i:Int)<(l3.length:Int):=by omega
   obtain⟨g,off,ho,hg,c0,c1,c2⟩:=HL3.out i hlt
   subst ho
   have HF1:=Lib.hid (scan_step hlt HF.out)
   obtain⟨hp1,hp2,hp3⟩:=HP.out l3[i] (List.getElem_mem hlt)
   generalize l3[i]=x at *
   have e0:=fun y:WC W0=>y.cell c0
   have e1:=fun y:WC W0=>y.cell c1
   have e2:=fun y:WC W0=>y.cell c2
   clear HF c0 c1 c2
   go_upto_region 4 with fail
   have bX:=Blk.new' y.w #[.int .i32 x.1,.int .i32 x.2.1,.int .i32 x.2.2] 141
   have HV1:Hid (Below W0.heap.size W0 (y.w.alloc (.cells #[.int .i32 x.1,.int .i32 x.2.1,.int .i32 x.2.2] 141))):=Lib.hid (y.h.alloc y.h.size _)
   obtain⟨V,hV⟩:∃V,y.w.alloc (.cells #[.int .i32 x.1,.int .i32 x.2.1,.int .i32 x.2.2] 141)=V:=⟨_,rfl⟩
   rw[hV] at bX HV1 ⊢
   obtain⟨bx,hbx⟩:∃b,y.w.heap.size=b:=⟨_,rfl⟩
   rw[hbx] at bX ⊢
   clear hV hbx
   have x0:∀z:WC V,z.w.cell? ⟨bx,0,none⟩=some (.int .i32 x.1):=WC.cell (bX.cell 0)
   have x1:∀z:WC V,z.w.cell? ⟨bx,1,none⟩=some (.int .i32 x.2.1):=WC.cell (bX.cell 1)
   have x2:∀z:WC V,z.w.cell? ⟨bx,2,none⟩=some (.int .i32 x.2.2):=WC.cell (bX.cell 2)
   have HUp:Hid (∀z:WC V,Below W0.heap.size W0 z.w):=Lib.hid (fun z=>HV1.out.trans (z.h.mono HV1.out.size))
   have a0z:∀z:WC V,z.w.cell? ⟨W.heap.size,0,none⟩=some (.int .i64 0):=fun z=>a0 ⟨z.w,HUp.out z⟩
   have a1z:∀z:WC V,z.w.cell? ⟨W.heap.size,1,none⟩=some (.int .i64 0):=fun z=>a1 ⟨z.w,HUp.out z⟩
   have a2z:∀z:WC V,z.w.cell? ⟨W.heap.size,2,none⟩=some (.int .i64 0):=fun z=>a2 ⟨z.w,HUp.out z⟩
   have f0z:∀z:WC V,z.w.frozen? ⟨W.heap.size,0,none⟩=false:=fun z=>f0 ⟨z.w,HUp.out z⟩
   have f1z:∀z:WC V,z.w.frozen? ⟨W.heap.size,1,none⟩=false:=fun z=>f1 ⟨z.w,HUp.out z⟩
   have f2z:∀z:WC V,z.w.frozen? ⟨W.heap.size,2,none⟩=false:=fun z=>f2 ⟨z.w,HUp.out z⟩
   have t3z:∀z:WC V,z.w.cell? ⟨bc,3,none⟩=some (.slice (some ⟨g,off,none⟩) l3.length c3):=fun z=>t3 ⟨z.w,HUp.out z⟩
   have t8z:∀z:WC V,z.w.cell? ⟨bc,8,none⟩=some (.pointer (some ⟨bb,0,none⟩)):=fun z=>t8 ⟨z.w,HUp.out z⟩
   have q1z:∀z:WC V,z.w.cell? ⟨bb,8,none⟩=some (.map (some m1)):=fun z=>q1 ⟨z.w,HUp.out z⟩
   clear bX HV1
   obtain⟨z,hz⟩:∃z:WC V,z.w=V:=⟨WC.of V,rfl⟩
   conv=>arg 5;rw[←hz]
   clear hz
   have k0:=fun z:WC V=>HLk.out x.1 hp1 z.w (HUp.out z)
   have g0:=HKm.out (x.1)
   have k1:=fun z:WC V=>HLk.out x.2.1 hp2 z.w (HUp.out z)
   have g1:=HKm.out (x.2.1)
   have k2:=fun z:WC V=>HLk.out x.2.2 hp3 z.w (HUp.out z)
   have g2:=HKm.out (x.2.2)
   clear hp1 hp2 hp3 e0 e1 e2
   generalize classN TT (x.1)=n0 at *
   generalize classN TT (x.2.1)=n1 at *
   generalize classN TT (x.2.2)=n2 at *
   cases h0:markB TT x.1 with
   | true=>
    rw[h0] at g0
    have g0n:(n0 == 0)=false:=by cases q:(n0 == 0) <;> simp_all
    have HR:=Lib.hid ((scan_hit (f:=pairM TT) (by unfold pairM;simp only[h0];rfl)).symm.trans HF1.out)
    clear HF1
    clear h0
    refine wp_region_wc (W0:=V) (by kernel_rfl) (by kernel_rfl) z.h ?_
    repeat (first | go_big_quiet_step ((fail)) | quiet_step ((fail)))
    refine wpQuiet_nil ?_
    rintro _ ⟨z1,rfl⟩
    have KW:Hid (∀z:WC V,Calls Tryz.prog 99 #[.int .i64 32,.int .i64 4,.int .i64 i] z.w fun e w'=>e=.returned (.agg #[.int .i64 32,.int .i64 4,.int .i64 i])∧∃u:WC V,w'=u.w):=Lib.hid (fun z=>WC.call (HWr.out 32 4 i z.w))
    go_wp2_with fail
    (with_reducible refine Calls.mono (KW.out z1) ?_)
    rintro e w' ⟨rfl,zr,rfl⟩
    clear KW
    go_wp2_with fail
    have b3:=(((HA.out.keep (Keep.of_below (HUp.out zr) (fun _=>False)) (by simp)).set 0 (.int .i64 32)).set 1 (.int .i64 4)).set 2 (.int .i64 i)
    have r0:=b3.cell 0
    have r1:=b3.cell 1
    have r2:=b3.cell 2
    refine bodyPost_ret (v:=.agg #[.int .i64 32,.int .i64 4,.int .i64 i]) (res_wrong Hres.out (by rfl) r0 r1 r2) rfl ?_
    exact⟨by rw[←HR.out];rfl,set3_below (HB.out.trans ((HUp.out zr).mono HB.out.size)) (by omega)⟩
   | false=>
    rw[h0] at g0
    have g0n:(n0 == 0)=true:=by cases q:(n0 == 0) <;> simp_all
    cases h1:markB TT x.2.1 with
    | true=>
     rw[h1] at g1
     have g1n:(n1 == 0)=false:=by cases q:(n1 == 0) <;> simp_all
     have HR:=Lib.hid ((scan_hit (f:=pairM TT) (by unfold pairM;simp only[h0,h1];rfl)).symm.trans HF1.out)
     clear HF1
     clear h0 h1
     refine wp_region_wc (W0:=V) (by kernel_rfl) (by kernel_rfl) z.h ?_
     repeat (first | go_big_quiet_step ((fail)) | quiet_step ((fail)))
     refine wpQuiet_nil ?_
     rintro _ ⟨z1,rfl⟩
     have KW:Hid (∀z:WC V,Calls Tryz.prog 99 #[.int .i64 32,.int .i64 4,.int .i64 i] z.w fun e w'=>e=.returned (.agg #[.int .i64 32,.int .i64 4,.int .i64 i])∧∃u:WC V,w'=u.w):=Lib.hid (fun z=>WC.call (HWr.out 32 4 i z.w))
     go_wp2_with fail
     (with_reducible refine Calls.mono (KW.out z1) ?_)
     rintro e w' ⟨rfl,zr,rfl⟩
     clear KW
     go_wp2_with fail
     have b3:=(((HA.out.keep (Keep.of_below (HUp.out zr) (fun _=>False)) (by simp)).set 0 (.int .i64 32)).set 1 (.int .i64 4)).set 2 (.int .i64 i)
     have r0:=b3.cell 0
     have r1:=b3.cell 1
     have r2:=b3.cell 2
     refine bodyPost_ret (v:=.agg #[.int .i64 32,.int .i64 4,.int .i64 i]) (res_wrong Hres.out (by rfl) r0 r1 r2) rfl ?_
     exact⟨by rw[←HR.out];rfl,set3_below (HB.out.trans ((HUp.out zr).mono HB.out.size)) (by omega)⟩
    | false=>
     rw[h1] at g1
     have g1n:(n1 == 0)=true:=by cases q:(n1 == 0) <;> simp_all
     cases h2:markB TT x.2.2 with
     | true=>
      rw[h2] at g2
      have g2n:(n2 == 0)=false:=by cases q:(n2 == 0) <;> simp_all
      have HF2:=Lib.hid ((scan_miss (f:=pairM TT) (by unfold pairM;simp only[h0,h1,h2];rfl)).symm.trans HF1.out)
      clear HF1
      clear h0 h1 h2
      refine wp_region_wc (W0:=V) (by kernel_rfl) (by kernel_rfl) z.h ?_
      repeat (first | go_big_quiet_step ((fail)) | quiet_step ((fail)))
      refine wpQuiet_nil ?_
      rintro _ ⟨z1,rfl⟩
      go_wp2_with fail
      exact⟨⟨i+1,⟨z1.w,HUp.out z1⟩,by go_num,by omega,HF2,by first | rfl | trivial⟩,by simp[intOf];omega⟩
     | false=>
      rw[h2] at g2
      have g2n:(n2 == 0)=true:=by cases q:(n2 == 0) <;> simp_all
      have HR:=Lib.hid ((scan_hit (f:=pairM TT) (by unfold pairM;simp only[h0,h1,h2];rfl)).symm.trans HF1.out)
      clear HF1
      clear h0 h1 h2
      refine wp_region_wc (W0:=V) (by kernel_rfl) (by kernel_rfl) z.h ?_
      repeat (first | go_big_quiet_step ((fail)) | quiet_step ((fail)))
      refine wpQuiet_nil ?_
      rintro _ ⟨z1,rfl⟩
      have KW:Hid (∀z:WC V,Calls Tryz.prog 99 #[.int .i64 32,.int .i64 4,.int .i64 i] z.w fun e w'=>e=.returned (.agg #[.int .i64 32,.int .i64 4,.int .i64 i])∧∃u:WC V,w'=u.w):=Lib.hid (fun z=>WC.call (HWr.out 32 4 i z.w))
      go_wp2_with fail
      (with_reducible refine Calls.mono (KW.out z1) ?_)
      rintro e w' ⟨rfl,zr,rfl⟩
      clear KW
      go_wp2_with fail
      have b3:=(((HA.out.keep (Keep.of_below (HUp.out zr) (fun _=>False)) (by simp)).set 0 (.int .i64 32)).set 1 (.int .i64 4)).set 2 (.int .i64 i)
      have r0:=b3.cell 0
      have r1:=b3.cell 1
      have r2:=b3.cell 2
      refine bodyPost_ret (v:=.agg #[.int .i64 32,.int .i64 4,.int .i64 i]) (res_wrong Hres.out (by rfl) r0 r1 r2) rfl ?_
      exact⟨by rw[←HR.out];rfl,set3_below (HB.out.trans ((HUp.out zr).mono HB.out.size)) (by omega)⟩
  ·obtain rfl:i=l3.length:=by omega
   have HF0:=Lib.hid (scan_end HF.out)
   clear hi hlt i0 HF
   have HF:=Lib.hid HF0.out
   clear HF0
   have HR:=Lib.hid HF.out
   go_wp2_with fail
   have b3:=(((HA.out.keep (Keep.of_below y.h (fun _=>False)) (by simp)).set 0 (.int .i64 0)).set 1 (.int .i64 0)).set 2 (.int .i64 0)
   have r0:=b3.cell 0
   have r1:=b3.cell 1
   have r2:=b3.cell 2
   refine bodyPost_ret (v:=.agg #[.int .i64 0,.int .i64 0,.int .i64 0]) (res_wrong Hres.out (by rfl) r0 r1 r2) rfl ?_
   exact⟨by rw[←HR.out];rfl,set3_below (HB.out.trans (y.h.mono HB.out.size)) (by omega)⟩
end Go.Proofs.YtioehfhdoohdmaaGreatDoor
namespace Go.Proofs.YtioehfhdoohdmaaGreatDoor
open Go.RowKit Go.Shelf
def pairO (T:Tab) (r:Int):Option (Int×Int×Int):=T.pairs.find? (pkey r)
def pairA (T:Tab) (r:Int):Int×Int:=match pairO T r with | some p=>p.2 | none=>(0,0)
def jkey (a b:Int) (p:Int×Int×Int):Bool:=p.2.1 == a && p.2.2 == b
def joinO (T:Tab) (a b:Int):Option (Int×Int×Int):=T.pairs.find? (jkey a b)
def joinA (T:Tab) (a b:Int):Int:=match joinO T a b with | some p=>p.1 | none=>0
def mapO (L:List (Int×ByteArray)) (r:Int):Option (Int×ByteArray):=L.find? (fkey r)
def mapA (L:List (Int×ByteArray)) (r:Int):ByteArray:=match mapO L r with | some p=>p.2 | none=>ByteArray.empty
theorem firstGo_find {α:Type}(p:α→Bool):∀(l:List α) (i:Nat),decide (0≤firstGo p l i)=(l.find? p).isSome:=by
 intro l
 induction l with
 | nil=>intro i;rfl
 | cons x t ih=>
  intro i
  unfold firstGo
  by_cases h:p x=true
  ·rw[if_pos h,List.find?_cons_of_pos h]
   show decide (0≤(i:Int))=true
   rw[decide_eq_true_iff];omega
  ·rw[if_neg h,List.find?_cons_of_neg h];exact ih _
theorem whole_pair (T:Tab) (r:Int):decide (0≤wholeN T r)=(pairO T r).isSome:=firstGo_find _ _ _
theorem from_map (L:List (Int×ByteArray)) (r:Int):decide (0≤fromN L r)=(mapO L r).isSome:=firstGo_find _ _ _
theorem look_pair {W:World}{b:Nat}{T:Tab}(h:MapIs Tryz.prog 21 W b (T.pairs.map prow)) {r:Int}(hr:I32 r):(Instr.lookup 122 (.map (some b)) (.int .i32 r) true).run Tryz.prog W=.ok (.tuple #[.agg #[.int .i32 (pairA T r).1,.int .i32 (pairA T r).2],.bool (pairO T r).isSome]) W:=by
 unfold pairA pairO
 rcases find_map prow (pkey r) (.int .i32 r) (fun m=>by simp[prow,pkey]) T.pairs with e | ⟨m,e,hm,hk⟩
 ·have:T.pairs.find? (pkey r)=none:=List.find?_eq_none.2 fun m hm hk=>e (prow m) (List.mem_map.2 ⟨m,hm,rfl⟩) (by simpa [prow,pkey] using hk)
  rw[this,h.look_no keyed_rune Tryz.underlying122 (z:=.agg #[.int .i32 0,.int .i32 0]) (by kernel_rfl) (key_rune hr) e true]
  rfl
 ·rw[e]
  have hm':(Value.int .i32 r,Value.agg #[.int .i32 m.2.1,.int .i32 m.2.2])∈T.pairs.map prow:=by
   have:m.1=r:=by simpa [prow] using hk
   rw[←this];exact hm
  rw[h.look_yes keyed_rune Tryz.underlying122 (key_rune hr) hm' true]
  rfl
theorem look_join {W:World}{b:Nat}{T:Tab}(h:MapIs Tryz.prog 171 W b (T.pairs.map jrow)) {x y:Int}(hx:I32 x) (hy:I32 y):(Instr.lookup 123 (.map (some b)) (.agg #[.int .i32 x,.int .i32 y]) true).run Tryz.prog W=.ok (.tuple #[.int .i32 (joinA T x y),.bool (joinO T x y).isSome]) W:=by
 obtain⟨lx,hl⟩:=key_two hx hy
 unfold joinA joinO
 rcases find_map jrow (jkey x y) (.agg #[.int .i32 x,.int .i32 y]) (fun m=>by simp[jrow,jkey]) T.pairs with e | ⟨m,e,hm,hk⟩
 ·have:T.pairs.find? (jkey x y)=none:=List.find?_eq_none.2 fun m hm hk=>e (jrow m) (List.mem_map.2 ⟨m,hm,rfl⟩) (by simpa [jrow,jkey] using hk)
  rw[this,h.look_no keyed_two Tryz.underlying123 (z:=.int .i32 0) (by kernel_rfl) hl e true]
  rfl
 ·rw[e]
  have hm':(Value.agg #[.int .i32 x,.int .i32 y],Value.int .i32 m.1)∈T.pairs.map jrow:=by
   have:jrow m=(Value.agg #[.int .i32 x,.int .i32 y],Value.int .i32 m.1):=Prod.ext hk rfl
   rw[←this];exact hm
  rw[h.look_yes keyed_two Tryz.underlying123 hl hm' true]
  rfl
theorem look_map {W:World}{b:Nat}{L:List (Int×ByteArray)}(h:MapIs Tryz.prog 21 W b (L.map frow)) {r:Int}(hr:I32 r):(Instr.lookup 124 (.map (some b)) (.int .i32 r) true).run Tryz.prog W=.ok (.tuple #[.string (mapA L r),.bool (mapO L r).isSome]) W:=by
 unfold mapA mapO
 rcases find_map frow (fkey r) (.int .i32 r) (fun m=>by simp[frow,fkey]) L with e | ⟨m,e,hm,hk⟩
 ·have:L.find? (fkey r)=none:=List.find?_eq_none.2 fun m hm hk=>e (frow m) (List.mem_map.2 ⟨m,hm,rfl⟩) (by simpa [frow,fkey] using hk)
  rw[this,h.look_no keyed_rune Tryz.underlying124 (z:=.string ByteArray.empty) (by kernel_rfl) (key_rune hr) e true]
  rfl
 ·rw[e]
  have hm':(Value.int .i32 r,Value.string m.2)∈L.map frow:=by
   have:m.1=r:=by simpa [frow] using hk
   rw[←this];exact hm
  rw[h.look_yes keyed_rune Tryz.underlying124 (key_rune hr) hm' true]
  rfl
def twoW (f:Int→(Int×ByteArray)→Nat→Option W3) (n:Int) (A B:List (Int×ByteArray)) (K:W3):Nat→W3
 | 0=>scan (f n) A 0 (scan (f (n+1)) B 0 K)
 | 1=>scan (f (n+1)) B 0 K
 | _=>K
end Go.Proofs.YtioehfhdoohdmaaGreatDoor
namespace Go.Proofs.YtioehfhdoohdmaaGreatDoor
open Go.RowKit Go.Shelf BigFrame
theorem bdropped_any (L:List Span) (o6:Option Addr) (c6 bb:Nat) (r:Int) (W:World) (h6:W.cell? ⟨bb,6,none⟩=some (.slice o6 L.length c6)) (hL:SpansAt W o6 L) (hm:L.length≤1048576) (hok:SpOk L) :
 Calls Tryz.prog 143 #[.pointer (some ⟨bb,0,none⟩),.int .i32 r] W fun e w'=>e=.returned (.bool (ofB r L))∧Below W.heap.size W w':=by
 have t6:∀y:WC W,y.w.cell? ⟨bb,6,none⟩=some (.slice o6 L.length c6):=WC.cell h6
 have HO:Hid (∀(y:WC W),Calls Tryz.prog 106 #[.int .i32 r,.slice o6 L.length c6] y.w fun e w'=>e=.returned (.bool (ofB r L))∧∃z:WC W,w'=z.w):=Lib.hid (fun y=>WC.call (tof_any o6 c6 L r y.w (hL.below y.h) hm hok))
 clear h6 hL hok
 obtain⟨y,hy⟩:∃y:WC W,y.w=W:=⟨WC.of W,rfl⟩
 go_enter Tryz.func143,Tryz.ntmps143
 conv=>arg 5;rw[←hy]
 clear hy
 go_wp2_with fail
 (with_reducible refine Calls.mono (HO.out y) ?_)
 rintro e w' ⟨rfl,z,rfl⟩
 go_wp2_with fail
 go_ret
 exact⟨rfl,z.h⟩
set_option maxRecDepth 100000 in
set_option maxHeartbeats 40000000 in
theorem bplain_any (T:Tab) (o6:Option Addr) (c6 bb m1 m2 m4:Nat) (r:Int) (hr:I32 r) (W:World) (h6:W.cell? ⟨bb,6,none⟩=some (.slice o6 T.drops.length c6)) (hq1:W.cell? ⟨bb,8,none⟩=some (.map (some m1))) (hq2:W.cell? ⟨bb,9,none⟩=some (.map (some m2))) (hq4:W.cell? ⟨bb,11,none⟩=some (.map (some m4)))
 (hL:SpansAt W o6 T.drops) (hm:T.drops.length≤1048576) (hok:SpOk T.drops) (M1:MapIs Tryz.prog 21 W m1 (T.marks.map mrow)) (M2:MapIs Tryz.prog 21 W m2 (T.pairs.map prow)) (M4:MapIs Tryz.prog 21 W m4 (T.folds.map frow)) (hk:∀m∈T.marks,m.2≠0) :
 Calls Tryz.prog 107 #[.pointer (some ⟨bb,0,none⟩),.int .i32 r] W fun e w'=>e=.returned (.bool (plainB T r))∧Below W.heap.size W w':=by
 have q1:∀y:WC W,y.w.cell? ⟨bb,8,none⟩=some (.map (some m1)):=WC.cell hq1
 have q2:∀y:WC W,y.w.cell? ⟨bb,9,none⟩=some (.map (some m2)):=WC.cell hq2
 have q4:∀y:WC W,y.w.cell? ⟨bb,11,none⟩=some (.map (some m4)):=WC.cell hq4
 have k1:∀y:WC W,(Instr.lookup 121 (.map (some m1)) (.int .i32 r) false).run Tryz.prog y.w=.ok (.int .i64 (classN T r)) y.w:=fun y=>look_class (M1.keep y.h) hr
 have k2:∀y:WC W,(Instr.lookup 122 (.map (some m2)) (.int .i32 r) true).run Tryz.prog y.w=.ok (.tuple #[.agg #[.int .i32 (pairA T r).1,.int .i32 (pairA T r).2],.bool (pairO T r).isSome]) y.w:=fun y=>look_pair (M2.keep y.h) hr
 have k4:∀y:WC W,(Instr.lookup 124 (.map (some m4)) (.int .i32 r) true).run Tryz.prog y.w=.ok (.tuple #[.string (mapA T.folds r),.bool (mapO T.folds r).isSome]) y.w:=fun y=>look_map (M4.keep y.h) hr
 have KD:Hid (∀(y:WC W),Calls Tryz.prog 143 #[.pointer (some ⟨bb,0,none⟩),.int .i32 r] y.w fun e w'=>e=.returned (.bool (ofB r T.drops))∧∃z:WC W,w'=z.w):=Lib.hid (fun y=>WC.call (bdropped_any T.drops o6 c6 bb r y.w (cell_bel y.h h6) (hL.below y.h) hm hok))
 have KV:Hid (∀(y:WC W),Calls Tryz.prog 102 #[.int .i32 r] y.w fun e w'=>e=.returned (.bool (runeB r))∧∃z:WC W,w'=z.w):=Lib.hid (fun y=>WC.same (valid_any r y.w))
 have g1:=class_mark hk r
 have g2:decide (wholeN T r<0)=!(pairO T r).isSome:=by rw[←whole_pair,←decide_not];congr 1;rw[eq_iff_iff];omega
 have g4:decide (fromN T.folds r<0)=!(mapO T.folds r).isSome:=by rw[←from_map,←decide_not];congr 1;rw[eq_iff_iff];omega
 obtain⟨R,hR⟩:∃R,plainB T r=R:=⟨_,rfl⟩
 rw[hR]
 unfold plainB at hR
 rw[g2,g4,←g1] at hR
 have HR:=Lib.hid hR
 clear hR g1 g2 g4 h6 hq1 hq2 hq4 hL hok M1 M2 M4 hk
 generalize runeB r=b0 at *
 generalize (pairO T r).isSome=b2 at *
 generalize (mapO T.folds r).isSome=b3 at *
 generalize ofB r T.drops=b4 at *
 generalize mapA T.folds r=ms at *
 obtain⟨p1,p2,hpp⟩:∃p1 p2,pairA T r=(p1,p2):=⟨_,_,rfl⟩
 rw[hpp] at k2
 clear hpp
 dsimp only at k2
 generalize classN T r=n1 at *
 obtain⟨y,hy⟩:∃y:WC W,y.w=W:=⟨WC.of W,rfl⟩
 go_enter Tryz.func107,Tryz.ntmps107
 conv=>arg 5;rw[←hy]
 clear hy
 go_upto_region 2 with fail
 obtain⟨z,hz1⟩:∃z:WC W,z.w=(y.w.alloc (.cells #[.int .i32 p1,.int .i32 p2] 171)):=⟨⟨_,y.h.alloc y.h.size _⟩,rfl⟩
 conv=>arg 5;rw[←hz1]
 clear hz1
 go_upto_region 3 with fail
 cases b0 with
 | false=>
  have d1:=rfl (a:=true)
  go_wp2_with fail
  (with_reducible refine Calls.mono (KV.out z) ?_)
  rintro e w' ⟨rfl,z1,rfl⟩
  go_wp2_with fail
  go_ret
  exact⟨by rw[←HR.out];first | rfl | (simp only[d1];rfl) | (cases b4 <;> first | rfl | (simp only[d1];rfl)),z1.h⟩
 | true=>
  cases d1:(n1 != 0) with
  | true=>
   have d1n:(n1 == 0)=false:=by cases q:(n1 == 0) <;> simp_all
   go_wp2_with fail
   (with_reducible refine Calls.mono (KV.out z) ?_)
   rintro e w' ⟨rfl,z1,rfl⟩
   go_wp2_with fail
   go_ret
   exact⟨by rw[←HR.out];first | rfl | (simp only[d1];rfl) | (cases b4 <;> first | rfl | (simp only[d1];rfl)),z1.h⟩
  | false=>
   have d1n:(n1 == 0)=true:=by cases q:(n1 == 0) <;> simp_all
   cases b2 with
   | true=>
    go_wp2_with fail
    (with_reducible refine Calls.mono (KV.out z) ?_)
    rintro e w' ⟨rfl,z1,rfl⟩
    go_wp2_with fail
    go_ret
    exact⟨by rw[←HR.out];first | rfl | (simp only[d1];rfl) | (cases b4 <;> first | rfl | (simp only[d1];rfl)),z1.h⟩
   | false=>
    cases b3 with
    | true=>
     go_wp2_with fail
     (with_reducible refine Calls.mono (KV.out z) ?_)
     rintro e w' ⟨rfl,z1,rfl⟩
     go_wp2_with fail
     go_ret
     exact⟨by rw[←HR.out];first | rfl | (simp only[d1];rfl) | (cases b4 <;> first | rfl | (simp only[d1];rfl)),z1.h⟩
    | false=>
     cases b4 with
     | true=>
      go_wp2_with fail
      (with_reducible refine Calls.mono (KV.out z) ?_)
      rintro e w' ⟨rfl,z1,rfl⟩
      go_wp2_with fail
      (with_reducible refine Calls.mono (KD.out z1) ?_)
      rintro e w' ⟨rfl,z2,rfl⟩
      go_wp2_with fail
      go_ret
      exact⟨by rw[←HR.out];first | rfl | (simp only[d1];rfl) | (cases b4 <;> first | rfl | (simp only[d1];rfl)),z2.h⟩
     | false=>
      go_wp2_with fail
      (with_reducible refine Calls.mono (KV.out z) ?_)
      rintro e w' ⟨rfl,z1,rfl⟩
      go_wp2_with fail
      (with_reducible refine Calls.mono (KD.out z1) ?_)
      rintro e w' ⟨rfl,z2,rfl⟩
      go_wp2_with fail
      go_ret
      exact⟨by rw[←HR.out];first | rfl | (simp only[d1];rfl) | (cases b4 <;> first | rfl | (simp only[d1];rfl)),z2.h⟩
end Go.Proofs.YtioehfhdoohdmaaGreatDoor
namespace Go.Proofs.YtioehfhdoohdmaaGreatDoor
open Go.RowKit Go.Shelf BigFrame
def InM (M:MAddr) (n:Nat) (k:Nat):Prop:=k=M.m1∨k=M.m2∨k=M.m3∨k=M.m4∨k=M.m5∨k=n
structure Maps0 (W:World) (M:MAddr):Prop where
 m1:MapIs Tryz.prog 21 W M.m1 []
 m2:MapIs Tryz.prog 21 W M.m2 []
 m3:MapIs Tryz.prog 171 W M.m3 []
 m4:MapIs Tryz.prog 21 W M.m4 []
 m5:MapIs Tryz.prog 21 W M.m5 []
 d12:M.m1≠M.m2
 d13:M.m1≠M.m3
 d14:M.m1≠M.m4
 d15:M.m1≠M.m5
 d23:M.m2≠M.m3
 d24:M.m2≠M.m4
 d25:M.m2≠M.m5
 d34:M.m3≠M.m4
 d35:M.m3≠M.m5
 d45:M.m4≠M.m5
def srow (x:ByteArray×List Span):Value×Value:=(.string x.1,.bool true)
theorem look_named {W:World}{b:Nat}{l:List (ByteArray×List Span)}(h:MapIs Tryz.prog 9 W b (l.map srow)) {s:ByteArray}(hs:s.size≤maxLen):(Instr.lookup 170 (.map (some b)) (.string s) false).run Tryz.prog W=.ok (.bool (l.any (fun q=>s.toList == q.1.toList))) W:=by
 have hp:∀m:ByteArray×List Span,(srow m).1=.string s↔(s.toList == m.1.toList)=true:=fun m=>by
  simp only[srow,Value.string.injEq,beq_iff_eq]
  constructor
  ·intro e;rw[e]
  ·intro e
   have h1:m.1.data.toList=s.data.toList:=by rw[←ByteArray.toList_eq,←ByteArray.toList_eq,e]
   cases m;simp_all [ByteArray.ext_iff]
 by_cases c:l.any (fun q=>s.toList == q.1.toList)=true
 ·obtain⟨m,hm,hk⟩:=List.any_eq_true.1 c
  have hm':(Value.string s,Value.bool true)∈l.map srow:=by
   have:srow m=(Value.string s,Value.bool true):=Prod.ext ((hp m).2 hk) rfl
   rw[←this];exact List.mem_map.2 ⟨m,hm,rfl⟩
  rw[h.look_yes keyed_text Tryz.underlying170 (key_text hs) hm' false,c]
  rfl
 ·have c':l.any (fun q=>s.toList == q.1.toList)=false:=by simpa using c
  rw[h.look_no keyed_text Tryz.underlying170 (z:=.bool false) (by kernel_rfl) (key_text hs) ((any_take_map srow _ _ hp l).1 c') false,c']
  rfl
structure Dis (M:MAddr) (n:Nat):Prop where
 d12:M.m1≠M.m2
 d13:M.m1≠M.m3
 d14:M.m1≠M.m4
 d15:M.m1≠M.m5
 d23:M.m2≠M.m3
 d24:M.m2≠M.m4
 d25:M.m2≠M.m5
 d34:M.m3≠M.m4
 d35:M.m3≠M.m5
 d45:M.m4≠M.m5
 n1:M.m1≠n
 n2:M.m2≠n
 n3:M.m3≠n
 n4:M.m4≠n
 n5:M.m5≠n
structure MapsSt (W:World) (M:MAddr) (n:Nat) (A0 A1 A2 A3 A4 A5:List (Value×Value)):Prop where
 m0:MapIs Tryz.prog 9 W n A0
 m1:MapIs Tryz.prog 21 W M.m1 A1
 m2:MapIs Tryz.prog 21 W M.m2 A2
 m3:MapIs Tryz.prog 171 W M.m3 A3
 m4:MapIs Tryz.prog 21 W M.m4 A4
 m5:MapIs Tryz.prog 21 W M.m5 A5
theorem MapsSt.below {W W':World}{M:MAddr}{n:Nat}{A0 A1 A2 A3 A4 A5:List (Value×Value)}(h:MapsSt W M n A0 A1 A2 A3 A4 A5) (hB:Below W.heap.size W W'):MapsSt W' M n A0 A1 A2 A3 A4 A5:=⟨h.m0.keep hB,h.m1.keep hB,h.m2.keep hB,h.m3.keep hB,h.m4.keep hB,h.m5.keep hB⟩
theorem MapsSt.drew {W:World}{M:MAddr}{n:Nat}{A0 A1 A2 A3 A4 A5:List (Value×Value)}(h:MapsSt W M n A0 A1 A2 A3 A4 A5):MapsSt W.drew M n A0 A1 A2 A3 A4 A5:=h.below (Below.refl _ _).drew
theorem MapsSt.apart {W:World}{M:MAddr}{n:Nat}{A0 A1 A2 A3 A4 A5:List (Value×Value)}(h:MapsSt W M n A0 A1 A2 A3 A4 A5) {p:Addr}{v:Value}(hc:W.cell? p=some v):¬ InM M n p.block:=by
 rintro (e | e | e | e | e | e)
 ·exact h.m1.cell_ne hc e
 ·exact h.m2.cell_ne hc e
 ·exact h.m3.cell_ne hc e
 ·exact h.m4.cell_ne hc e
 ·exact h.m5.cell_ne hc e
 ·exact h.m0.cell_ne hc e
theorem keep_out {W z:World}{M:MAddr}{nb:Nat}(h:Keep (InM M nb) W z) (hn:W.heap.size≤nb):Keep (InM M M.m1) W z:=
 h.mono (fun i hi hs=>by
  rcases hs with e | e | e | e | e | e
  ·exact Or.inl e
  ·exact Or.inr (Or.inl e)
  ·exact Or.inr (Or.inr (Or.inl e))
  ·exact Or.inr (Or.inr (Or.inr (Or.inl e)))
  ·exact Or.inr (Or.inr (Or.inr (Or.inr (Or.inl e))))
  ·omega)
theorem keep_set3 {S:Nat→Prop}{W z:World}{b:Nat}{u v x:Value}(h:Keep S W z) (hb:W.heap.size≤b):Keep S W (((z.setCell ⟨b,0,none⟩ u).setCell ⟨b,1,none⟩ v).setCell ⟨b,2,none⟩ x):=
 ((h.setCell (p:=⟨b,0,none⟩) (fun q=>absurd q (by simp only;omega)) _).setCell (p:=⟨b,1,none⟩) (fun q=>absurd q (by simp only;omega)) _).setCell (p:=⟨b,2,none⟩) (fun q=>absurd q (by simp only;omega)) _
section
variable {W : World} {M : MAddr} {n : Nat} {A0 A1 A2 A3 A4 A5 B : List (Value × Value)}
theorem MapsSt.put0 (h:MapsSt W M n A0 A1 A2 A3 A4 A5) (D:Dis M n) {o:Obj}(g:MapIs Tryz.prog 9 (World.put W n o) n B):MapsSt (World.put W n o) M n B A1 A2 A3 A4 A5:=⟨g,h.m1.put_other D.n1 _,h.m2.put_other D.n2 _,h.m3.put_other D.n3 _,h.m4.put_other D.n4 _,h.m5.put_other D.n5 _⟩
theorem MapsSt.put1 (h:MapsSt W M n A0 A1 A2 A3 A4 A5) (D:Dis M n) {o:Obj}(g:MapIs Tryz.prog 21 (World.put W M.m1 o) M.m1 B):MapsSt (World.put W M.m1 o) M n A0 B A2 A3 A4 A5:=⟨h.m0.put_other D.n1.symm _,g,h.m2.put_other D.d12.symm _,h.m3.put_other D.d13.symm _,h.m4.put_other D.d14.symm _,h.m5.put_other D.d15.symm _⟩
theorem MapsSt.put4 (h:MapsSt W M n A0 A1 A2 A3 A4 A5) (D:Dis M n) {o:Obj}(g:MapIs Tryz.prog 21 (World.put W M.m4 o) M.m4 B):MapsSt (World.put W M.m4 o) M n A0 A1 A2 A3 B A5:=⟨h.m0.put_other D.n4.symm _,h.m1.put_other D.d14 _,h.m2.put_other D.d24 _,h.m3.put_other D.d34 _,g,h.m5.put_other D.d45.symm _⟩
theorem MapsSt.put5 (h:MapsSt W M n A0 A1 A2 A3 A4 A5) (D:Dis M n) {o:Obj}(g:MapIs Tryz.prog 21 (World.put W M.m5 o) M.m5 B):MapsSt (World.put W M.m5 o) M n A0 A1 A2 A3 A4 B:=⟨h.m0.put_other D.n5.symm _,h.m1.put_other D.d15 _,h.m2.put_other D.d25 _,h.m3.put_other D.d35 _,h.m4.put_other D.d45 _,g⟩
theorem put_self {g:Nat}{o:Obj}(h:g<W.heap.size):(World.put W g o).heap[g]?=some o:=by
 show (W.heap.setIfInBounds g _)[g]?=_
 rw[Array.getElem?_setIfInBounds_self_of_lt h]
theorem MapsSt.pair (h:MapsSt W M n A0 A1 A2 A3 A4 A5) (D:Dis M n) {r u v:Int}(hr:I32 r) (hu:I32 u) (hv:I32 v) (h2:∀p∈A2,p.1≠.int .i32 r) (h3:∀p∈A3,p.1≠.agg #[.int .i32 u,.int .i32 v]) (x2 x3:Value) :
 ∃(s2 s3:Nat) (o1 o2 o3 o4:Obj),
  (Instr.mapEntry 122 (.map (some M.m2)) (.int .i32 r)).run Tryz.prog W=.ok (.tuple #[.agg #[.int .i32 0,.int .i32 0],.int .i64 s2]) (World.put W M.m2 o1) ∧
  (Instr.entryStore 122 (.map (some M.m2)) (.int .i64 s2) x2).run Tryz.prog (World.put W M.m2 o1)=.ok () (World.put (World.put W M.m2 o1) M.m2 o2) ∧
  (Instr.mapEntry 123 (.map (some M.m3)) (.agg #[.int .i32 u,.int .i32 v])).run Tryz.prog (World.put (World.put W M.m2 o1) M.m2 o2)=.ok (.tuple #[.int .i32 0,.int .i64 s3]) (World.put (World.put (World.put W M.m2 o1) M.m2 o2) M.m3 o3) ∧
  (Instr.entryStore 123 (.map (some M.m3)) (.int .i64 s3) x3).run Tryz.prog (World.put (World.put (World.put W M.m2 o1) M.m2 o2) M.m3 o3)=.ok () (World.put (World.put (World.put (World.put W M.m2 o1) M.m2 o2) M.m3 o3) M.m3 o4) ∧
  MapsSt (World.put (World.put (World.put (World.put W M.m2 o1) M.m2 o2) M.m3 o3) M.m3 o4) M n A0 A1 (A2++[(.int .i32 r,x2)]) (A3++[(.agg #[.int .i32 u,.int .i32 v],x3)]) A4 A5:=by
 obtain⟨s2,o1,o2,r1,r2⟩:=h.m2.entry keyed_rune Tryz.underlying122 (z:=.agg #[.int .i32 0,.int .i32 0]) (fun u=>by kernel_rfl) (key_rune hr) h2 x2
 obtain⟨r2a,r2b⟩:=r2 (World.put W M.m2 o1) (put_self h.m2.lt)
 have h3':MapIs Tryz.prog 171 (World.put (World.put W M.m2 o1) M.m2 o2) M.m3 A3:=(h.m3.put_other D.d23.symm _).put_other D.d23.symm _
 obtain⟨lx,hl⟩:=key_two hu hv
 obtain⟨s3,o3,o4,r3,r4⟩:=h3'.entry keyed_two Tryz.underlying123 (z:=.int .i32 0) (fun u=>by kernel_rfl) hl h3 x3
 obtain⟨r4a,r4b⟩:=r4 (World.put (World.put (World.put W M.m2 o1) M.m2 o2) M.m3 o3) (put_self h3'.lt)
 refine⟨s2,s3,o1,o2,o3,o4,r1,r2a,r3,r4a,?_,?_,?_,r4b,?_,?_⟩
 ·exact (((h.m0.put_other D.n2.symm _).put_other D.n2.symm _).put_other D.n3.symm _).put_other D.n3.symm _
 ·exact (((h.m1.put_other D.d12 _).put_other D.d12 _).put_other D.d13 _).put_other D.d13 _
 ·exact (r2b.put_other D.d23 _).put_other D.d23 _
 ·exact (((h.m4.put_other D.d24.symm _).put_other D.d24.symm _).put_other D.d34.symm _).put_other D.d34.symm _
 ·exact (((h.m5.put_other D.d25.symm _).put_other D.d25.symm _).put_other D.d35.symm _).put_other D.d35.symm _
end
theorem any_or {α:Type}(f g:α→Bool):∀l:List α,l.any (fun q=>f q || g q)=(l.any f || l.any g):=by
 intro l
 induction l with
 | nil=>rfl
 | cons x t ih=>simp only[List.any_cons,ih];cases f x <;> cases g x <;> simp
theorem any_congr' {α:Type}{f g:α→Bool}(h:∀q,f q=g q) (l:List α):l.any f=l.any g:=by rw[show f=g from funext h]
theorem find_any {α:Type}(p:α→Bool) (l:List α):(l.find? p).isSome=l.any p:=by
 cases e:l.find? p with
 | none=>exact (List.any_eq_false.2 (fun x hx=>by simpa using List.find?_eq_none.1 e x hx)).symm
 | some m=>exact (List.any_eq_true.2 ⟨m,List.mem_of_find?_eq_some e,List.find?_some e⟩).symm
theorem firstGo_take {α:Type}(p:α→Bool):∀(l:List α) (k j:Nat) (h:j<l.length),p l[j]=true→(decide (firstGo p l k<((k+j:Nat):Int))=(l.take j).any p∧0≤firstGo p l k):=by
 intro l
 induction l with
 | nil=>intro k j h;exact absurd h (by simp)
 | cons x t ih=>
  intro k j h hp
  unfold firstGo
  by_cases c:p x=true
  ·rw[if_pos c]
   refine⟨?_,Int.natCast_nonneg _⟩
   cases j with
   | zero=>simp
   | succ j=>simp[c];omega
  ·rw[if_neg c]
   cases j with
   | zero=>exact absurd hp c
   | succ j=>
    have hj:j<t.length:=by simpa using h
    have:=ih (k+1) j hj (by simpa using hp)
    refine⟨?_,this.2⟩
    rw[show k+(j+1)=k+1+j by omega,this.1]
    simp[c]
theorem twF_any (n:Int) (l:List (Int×ByteArray)) (i:Nat) (h:i<l.length):twF n l l[i] i=if (l.take i).any (fkey l[i].1) then some (14,n,(i:Int)) else none:=by
 unfold twF
 have:=(firstGo_take (fkey l[i].1) l 0 i h (by simp[fkey])).1
 rw[Nat.zero_add] at this
 unfold fromN firstN
 rw[this]
theorem no_mark {l:List (Int×Int)}{r:Int}(h:l.any (mkey r)=false):∀p∈l.map mrow,p.1≠.int .i32 r:=(any_take_map mrow _ _ (fun m=>by simp[mrow,mkey]) l).1 h
theorem no_whole {l:List (Int×Int×Int)}{r:Int}(h:l.any (pkey r)=false):∀p∈l.map prow,p.1≠.int .i32 r:=(any_take_map prow _ _ (fun m=>by simp[prow,pkey]) l).1 h
theorem no_join {l:List (Int×Int×Int)}{u v:Int}(h:l.any (jkey u v)=false):∀p∈l.map jrow,p.1≠.agg #[.int .i32 u,.int .i32 v]:=(any_take_map jrow _ _ (fun m=>by simp[jrow,jkey]) l).1 h
theorem no_from {l:List (Int×ByteArray)}{r:Int}(h:l.any (fkey r)=false):∀p∈l.map frow,p.1≠.int .i32 r:=(any_take_map frow _ _ (fun m=>by simp[frow,fkey]) l).1 h
theorem text_eq (m s:ByteArray):m=s↔(s.toList == m.toList)=true:=by
 simp only[beq_iff_eq]
 constructor
 ·intro e;rw[e]
 ·intro e
  have h1:m.data.toList=s.data.toList:=by rw[←ByteArray.toList_eq,←ByteArray.toList_eq,e]
  cases m;cases s;simp_all [ByteArray.ext_iff]
theorem no_name {l:List (ByteArray×List Span)}{s:ByteArray}(h:l.any (fun q=>s.toList == q.1.toList)=false):∀p∈l.map srow,p.1≠.string s:=(any_take_map srow _ _ (fun m=>by simp only[srow,Value.string.injEq];exact text_eq _ _) l).1 h
theorem look_class' (l:List (Int×Int)) {r:Int}(hr:I32 r) (hk:∀m∈l,m.2≠0):∃c:Int,(c != 0)=l.any (mkey r)∧∀(W:World) (b:Nat),MapIs Tryz.prog 21 W b (l.map mrow)→(Instr.lookup 121 (.map (some b)) (.int .i32 r) false).run Tryz.prog W=.ok (.int .i64 c) W:=
 ⟨_,class_mark (T:=⟨[],[],l,[],[],[],[],[]⟩) hk r,fun W b h=>look_class (T:=⟨[],[],l,[],[],[],[],[]⟩) h hr⟩
theorem look_pair' (l:List (Int×Int×Int)) {r:Int}(hr:I32 r):∃p q:Int,∀(W:World) (b:Nat),MapIs Tryz.prog 21 W b (l.map prow)→(Instr.lookup 122 (.map (some b)) (.int .i32 r) true).run Tryz.prog W=.ok (.tuple #[.agg #[.int .i32 p,.int .i32 q],.bool (l.any (pkey r))]) W:=
 ⟨_,_,fun W b h=>by
  have:=look_pair (T:=⟨[],[],[],l,[],[],[],[]⟩) h hr
  unfold pairO at this
  rw[find_any] at this
  exact this⟩
theorem look_join' (l:List (Int×Int×Int)) {x y:Int}(hx:I32 x) (hy:I32 y):∃p:Int,∀(W:World) (b:Nat),MapIs Tryz.prog 171 W b (l.map jrow)→(Instr.lookup 123 (.map (some b)) (.agg #[.int .i32 x,.int .i32 y]) true).run Tryz.prog W=.ok (.tuple #[.int .i32 p,.bool (l.any (jkey x y))]) W:=
 ⟨_,fun W b h=>by
  have:=look_join (T:=⟨[],[],[],l,[],[],[],[]⟩) h hx hy
  unfold joinO at this
  rw[find_any] at this
  exact this⟩
theorem look_map' (l:List (Int×ByteArray)) {r:Int}(hr:I32 r):∃s:ByteArray,∀(W:World) (b:Nat),MapIs Tryz.prog 21 W b (l.map frow)→(Instr.lookup 124 (.map (some b)) (.int .i32 r) true).run Tryz.prog W=.ok (.tuple #[.string s,.bool (l.any (fkey r))]) W:=
 ⟨_,fun W b h=>by
  have:=look_map h hr
  unfold mapO at this
  rw[find_any] at this
  exact this⟩
theorem eqM_key (x:Int×Int) (l:List (Int×Int)):l.any (mkey x.1)=l.any (eqM x):=any_congr' (fun q=>by rw[Bool.eq_iff_iff];simp only[mkey,eqM,beq_iff_eq];exact eq_comm) l
theorem eqP_key (x:Int×Int×Int) (l:List (Int×Int×Int)):l.any (eqP x)=(l.any (pkey x.1) || l.any (jkey x.2.1 x.2.2)):=by
 rw[←any_or]
 exact any_congr' (fun q=>by rw[Bool.eq_iff_iff];simp only[eqP,pkey,jkey,Bool.or_eq_true,Bool.and_eq_true,beq_iff_eq];constructor <;> rintro (h | ⟨h,k⟩) <;> simp_all) l
end Go.Proofs.YtioehfhdoohdmaaGreatDoor
namespace Go.Proofs.YtioehfhdoohdmaaGreatDoor
open Go.RowKit Go.Shelf BigFrame
def largeN (T:Tab) (i:Nat):Int:=(T.common.length:Int)+T.marks.length+T.pairs.length+T.folds.length+T.looks.length+T.drops.length+T.allowed.length+((T.scripts.take i).map (fun x=>1+(x.2.length:Int))).sum
def largeB (T:Tab):Bool:=decide (6000<largeN T (min T.scripts.length 200)) || decide (100<(T.scripts.length:Int))
structure TabRoom (T:Tab):Prop where
 folds:∀x∈T.folds,x.2.size≤1048576
 looks:∀x∈T.looks,x.2.size≤1048576
 names:∀x∈T.scripts,x.1.size≤1048576∧x.2.length≤1048576
 l0:T.scripts.length≤1048576
 l1:T.common.length≤1048576
 l2:T.marks.length≤1048576
 l3:T.pairs.length≤1048576
 l4:T.folds.length≤1048576
 l5:T.looks.length≤1048576
 l6:T.drops.length≤1048576
 l7:T.allowed.length≤1048576
theorem sum_bound (l:List (ByteArray×List Span)) (h:∀x∈l,x.2.length≤1048576):0≤(l.map (fun x=>1+(x.2.length:Int))).sum∧(l.map (fun x=>1+(x.2.length:Int))).sum≤l.length*1048577:=by
 induction l with
 | nil=>simp
 | cons x t ih=>
  have h1:=h x (by simp)
  have h2:=ih (fun y hy=>h y (by simp[hy]))
  simp only[List.map_cons,List.sum_cons,List.length_cons]
  push_cast
  omega
theorem largeN_bound {T:Tab}(h:TabRoom T) (i:Nat) (hi:i≤200):0≤largeN T i∧largeN T i≤1000000000:=by
 have hb:=sum_bound (T.scripts.take i) (fun x hx=>(h.names x (List.mem_of_mem_take hx)).2)
 have hl:(T.scripts.take i).length≤i:=List.length_take_le _ _
 have h1:=h.l1;have h2:=h.l2;have h3:=h.l3;have h4:=h.l4;have h5:=h.l5;have h6:=h.l6;have h7:=h.l7
 unfold largeN
 have:((T.scripts.take i).length:Int)*1048577≤200*1048577:=Int.mul_le_mul_of_nonneg_right (by omega) (by omega)
 omega
theorem TabRoom.fit {T:Tab}(h:TabRoom T) (hl:largeB T=false):TabFit T:=by
 refine⟨⟨?_,h.folds,h.looks⟩,h.names,h.l0,h.l1,h.l2,h.l3,h.l4,h.l5,h.l6,h.l7⟩
 have h1:¬ (6000<largeN T (min T.scripts.length 200)):=fun hh=>by
  unfold largeB at hl;rw[decide_eq_true hh] at hl;simp at hl
 have hb:=sum_bound (T.scripts.take (min T.scripts.length 200)) (fun x hx=>(h.names x (List.mem_of_mem_take hx)).2)
 unfold largeN at h1
 omega
theorem take_next' {α:Type}{l:List α}{i:Nat}(h:i<l.length):l.take (i+1)=l.take i++[l[i]]:=by rw[List.take_add_one,List.getElem?_eq_getElem h];rfl
theorem largeN_next {T:Tab}{i:Nat}(hi:i<T.scripts.length):largeN T (i+1)=largeN T i+1+(T.scripts[i].2.length:Int):=by
 unfold largeN
 rw[take_next' hi]
 simp only[List.map_append,List.map_cons,List.map_nil,List.sum_append,List.sum_cons,List.sum_nil]
 omega
set_option maxRecDepth 100000 in
set_option maxHeartbeats 40000000 in
theorem large_any (T:Tab) (a:TAddr) (W:World) (h:TabAt W T a) (hf:TabRoom T):Calls Tryz.prog 45 #[.agg (tabCells T a)] W fun e w'=>e=.returned (.bool (largeB T))∧Below W.heap.size W w':=by
 have HNx:Hid (∀i (hi:i<T.scripts.length),largeN T (i+1)=largeN T i+1+(T.scripts[i].2.length:Int)):=Lib.hid fun i hi=>largeN_next hi
 have HNb:Hid (∀i,i≤200→0≤largeN T i∧largeN T i≤1000000000):=Lib.hid fun i hi=>largeN_bound hf i hi
 obtain⟨TT,hTT⟩:∃TT:Tab,T=TT:=⟨_,rfl⟩
 have HF:=Lib.hid hf
 rw[show largeB T=largeB TT by rw[hTT]]
 obtain⟨l0,l1,l2,l3,l4,l5,l6,l7⟩:=T
 obtain⟨o0,o1,o2,o3,o4,o5,o6,o7,c0,c1,c2,c3,c4,c5,c6,c7⟩:=a
 have n0:l0.length≤1048576:=hf.l0
 have z0:(0:Int)≤(l0.length:Int):=Int.natCast_nonneg _
 have y0:(l0.length:Int)≤1048576:=by omega
 have n1:l1.length≤1048576:=hf.l1
 have z1:(0:Int)≤(l1.length:Int):=Int.natCast_nonneg _
 have y1:(l1.length:Int)≤1048576:=by omega
 have n2:l2.length≤1048576:=hf.l2
 have z2:(0:Int)≤(l2.length:Int):=Int.natCast_nonneg _
 have y2:(l2.length:Int)≤1048576:=by omega
 have n3:l3.length≤1048576:=hf.l3
 have z3:(0:Int)≤(l3.length:Int):=Int.natCast_nonneg _
 have y3:(l3.length:Int)≤1048576:=by omega
 have n4:l4.length≤1048576:=hf.l4
 have z4:(0:Int)≤(l4.length:Int):=Int.natCast_nonneg _
 have y4:(l4.length:Int)≤1048576:=by omega
 have n5:l5.length≤1048576:=hf.l5
 have z5:(0:Int)≤(l5.length:Int):=Int.natCast_nonneg _
 have y5:(l5.length:Int)≤1048576:=by omega
 have n6:l6.length≤1048576:=hf.l6
 have z6:(0:Int)≤(l6.length:Int):=Int.natCast_nonneg _
 have y6:(l6.length:Int)≤1048576:=by omega
 have n7:l7.length≤1048576:=hf.l7
 have z7:(0:Int)≤(l7.length:Int):=Int.natCast_nonneg _
 have y7:(l7.length:Int)≤1048576:=by omega
 obtain⟨hT,HTb,hB,hz⟩:=box1 h
 simp only[tabCells] at hT HTb hB hz ⊢
 obtain⟨W0,hW0⟩:∃W0,(W.alloc (.cells #[.slice o0 l0.length c0,.slice o1 l1.length c1,.slice o2 l2.length c2,.slice o3 l3.length c3,.slice o4 l4.length c4,.slice o5 l5.length c5,.slice o6 l6.length c6,.slice o7 l7.length c7] 28))=W0:=⟨_,rfl⟩
 rw[hW0] at hT HTb hB hz
 have HW0:=Lib.hid hW0
 have HB:=Lib.hid hB
 have t0:W0.cell? ⟨W.heap.size,0,none⟩=some (.slice o0 l0.length c0):=HTb 0 (.slice o0 l0.length c0) rfl
 have t1:W0.cell? ⟨W.heap.size,1,none⟩=some (.slice o1 l1.length c1):=HTb 1 (.slice o1 l1.length c1) rfl
 have t2:W0.cell? ⟨W.heap.size,2,none⟩=some (.slice o2 l2.length c2):=HTb 2 (.slice o2 l2.length c2) rfl
 have t3:W0.cell? ⟨W.heap.size,3,none⟩=some (.slice o3 l3.length c3):=HTb 3 (.slice o3 l3.length c3) rfl
 have t4:W0.cell? ⟨W.heap.size,4,none⟩=some (.slice o4 l4.length c4):=HTb 4 (.slice o4 l4.length c4) rfl
 have t5:W0.cell? ⟨W.heap.size,5,none⟩=some (.slice o5 l5.length c5):=HTb 5 (.slice o5 l5.length c5) rfl
 have t6:W0.cell? ⟨W.heap.size,6,none⟩=some (.slice o6 l6.length c6):=HTb 6 (.slice o6 l6.length c6) rfl
 have t7:W0.cell? ⟨W.heap.size,7,none⟩=some (.slice o7 l7.length c7):=HTb 7 (.slice o7 l7.length c7) rfl
 have HL0:=Lib.hid hT.scripts
 have H0:Hid (largeN TT 0=(l1.length:Int)+l2.length+l3.length+l4.length+l5.length+l6.length+l7.length):=Lib.hid (by subst hTT;simp[largeN])
 have HNx2:Hid (∀i (hi:i<l0.length),largeN TT (i+1)=largeN TT i+1+(l0[i].2.length:Int)):=Lib.hid (by subst hTT;exact HNx.out)
 have HNb2:Hid (∀i,i≤200→0≤largeN TT i∧largeN TT i≤1000000000):=Lib.hid (by subst hTT;exact HNb.out)
 have HLB:Hid (largeB TT=(decide (6000<largeN TT (min l0.length 200)) || decide (100<(l0.length:Int)))):=Lib.hid (by subst hTT;rfl)
 have HNm:=Lib.hid hf.names
 clear hT HTb hB hz h hW0 hTT HNx HNb hf
 go_enter Tryz.func45,Tryz.ntmps45
 go_wp2_with fail
 rw[HW0.out]
 clear HW0
 go_loop [3,4] (fun v3 v4=>∃i:Nat,v4=.int .i64 i∧i≤l0.length∧i≤200∧v3=.int .i64 (largeN TT i)) (fun v3 v4=>l0.length - (intOf v4).toNat)
 case atStart=>exact⟨0,rfl,by omega,by omega,by rw[H0.out]⟩
 case round=>
  obtain⟨i,rfl,hi,hi2,rfl⟩:=hrel
  have i0:(0:Int)≤(i:Int):=Int.natCast_nonneg _
  obtain⟨b0,b1⟩:=HNb2.out i hi2
  clear H0
  obtain⟨N,hN⟩:∃N,largeN TT i=N:=⟨_,rfl⟩
  have HNi:=Lib.hid hN
  rw[hN] at b0 b1 ⊢
  clear hN
  by_cases hlt:i<l0.length
  ·by_cases hl2:i<200
   ·have i1:(i:Int)<(l0.length:Int):=by omega
    have i2:(i:Int)<200:=by omega
    obtain⟨g,off,so,sc,ho,hg,c0,c1,cs,cz,cy⟩:=HL0.out i hlt
    subst ho
    have hxl:l0[i].2.length≤1048576:=(HNm.out _ (List.getElem_mem hlt)).2
    have HN1:=Lib.hid (HNx2.out i hlt)
    generalize l0[i]=x at *
    have hx0:(0:Int)≤(x.2.length:Int):=Int.natCast_nonneg _
    have hx1:(x.2.length:Int)≤1048576:=by omega
    clear cs cz cy
    go_wp2_with fail
    go_round
    case rel=>exact⟨i+1,by go_num,by omega,by omega,by rw[HN1.out,HNi.out]⟩
    case measure=>simp[intOf];omega
   ·have d1:decide ((i:Int)<200)=false:=by simp;omega
    have i1:(i:Int)<(l0.length:Int):=by omega
    have hmin:min l0.length 200=i:=by omega
    have HLC:=Lib.hid (by have h:=HLB.out;rw[hmin,HNi.out] at h;exact h)
    clear hmin
    by_cases g1:(6000:Int)<N
    ·skip
     have HE:Hid (largeB TT=true):=Lib.hid (by rw[HLC.out];simp[g1])
     have e1:decide ((6000:Int)<N)=true:=by simp[g1]
     clear HLC g1
     go_wp2_with fail
     go_ret
     exact⟨by rw[HE.out] <;> rfl,HB.out⟩
    ·by_cases g2:(100:Int)<(l0.length:Int)
     ·skip
      have HE:Hid (largeB TT=true):=Lib.hid (by rw[HLC.out];simp[g2])
      have e1:decide ((6000:Int)<N)=false:=by simp;omega
      have e2:decide ((100:Int)<(l0.length:Int))=true:=by simp;omega
      clear HLC g1 g2
      go_wp2_with fail
      go_ret
      exact⟨by rw[HE.out] <;> rfl,HB.out⟩
     ·skip
      have HE:Hid (largeB TT=false):=Lib.hid (by rw[HLC.out];simp[g1,g2])
      have e1:decide ((6000:Int)<N)=false:=by simp;omega
      have e2:decide ((100:Int)<(l0.length:Int))=false:=by simp;omega
      clear HLC g1 g2
      go_wp2_with fail
      go_ret
      exact⟨by rw[HE.out] <;> rfl,HB.out⟩
  ·have d1:decide ((i:Int)<(l0.length:Int))=false:=by simp;omega
   have hmin:min l0.length 200=i:=by omega
   have HLC:=Lib.hid (by have h:=HLB.out;rw[hmin,HNi.out] at h;exact h)
   clear hmin
   by_cases g1:(6000:Int)<N
   ·skip
    have HE:Hid (largeB TT=true):=Lib.hid (by rw[HLC.out];simp[g1])
    have e1:decide ((6000:Int)<N)=true:=by simp[g1]
    clear HLC g1
    go_wp2_with fail
    go_ret
    exact⟨by rw[HE.out] <;> rfl,HB.out⟩
   ·by_cases g2:(100:Int)<(l0.length:Int)
    ·skip
     have HE:Hid (largeB TT=true):=Lib.hid (by rw[HLC.out];simp[g2])
     have e1:decide ((6000:Int)<N)=false:=by simp;omega
     have e2:decide ((100:Int)<(l0.length:Int))=true:=by simp;omega
     clear HLC g1 g2
     go_wp2_with fail
     go_ret
     exact⟨by rw[HE.out] <;> rfl,HB.out⟩
    ·skip
     have HE:Hid (largeB TT=false):=Lib.hid (by rw[HLC.out];simp[g1,g2])
     have e1:decide ((6000:Int)<N)=false:=by simp;omega
     have e2:decide ((100:Int)<(l0.length:Int))=false:=by simp;omega
     clear HLC g1 g2
     go_wp2_with fail
     go_ret
     exact⟨by rw[HE.out] <;> rfl,HB.out⟩
end Go.Proofs.YtioehfhdoohdmaaGreatDoor
