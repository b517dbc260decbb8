/- BkAB: BkA, BkB. -/
import Derived.Test.YtioehfhdoohdmaaGreatDoorBookA
import Derived.Test.YtioehfhdoohdmaaGreatDoorMeetA
set_option linter.unusedVariables false
set_option linter.unusedSimpArgs false
namespace Go.Proofs.YtioehfhdoohdmaaGreatDoor
open Go.RowKit Go.Shelf BigFrame
theorem spOk_script {T:Tab}(h:FormsOk T):∀x∈T.scripts,SpOk x.2:=fun x hx=>by
 have:=h.sc x hx
 unfold scriptE at this
 split at this
 ·exact spOk_of this
 ·exact absurd this (by decide)
def scrL (T:Tab) (r:Int) (i:Nat):List Int:=((List.range i).filter (fun k=>ofB r (T.scripts.getD k (ByteArray.empty,[])).2)).map (fun k:Nat=>(k:Int))
theorem scrL_len (T:Tab) (r:Int) (i:Nat):(scrL T r i).length≤i:=by
 unfold scrL
 rw[List.length_map]
 exact Nat.le_trans (List.length_filter_le _ _) (by rw[List.length_range];exact Nat.le_refl _)
theorem scrL_next (T:Tab) (r:Int) {i:Nat}(h:i<T.scripts.length):scrL T r (i+1)=if ofB r T.scripts[i].2 then scrL T r i++[(i:Int)] else scrL T r i:=by
 unfold scrL
 rw[List.range_succ,List.filter_append,List.map_append]
 have hg:T.scripts.getD i (ByteArray.empty,[])=T.scripts[i]:=by rw[List.getD_eq_getElem?_getD,List.getElem?_eq_getElem h];rfl
 cases e:ofB r T.scripts[i].2 <;> simp only[List.filter_cons,List.filter_nil,hg,e] <;> simp
theorem own_rd {W:World}{base:Nat}{e:TypeId}{v:Value}{n:Nat}{xs:List Int}(h:W.ownsRow base e 1 v n (iV xs)):∃(o:Option Addr) (c:Nat),v=.slice o n c∧n≤c∧c≤maxLen∧Rd W o (iV xs)∧(∀a,o=some a→base≤a.block∧a.block<W.heap.size∧a.spot=none):=by
 obtain⟨o,c,rfl,h1,h2,h3⟩:=own_form h
 refine⟨o,c,rfl,h2,h1,fun j u hj=>?_,fun a ha=>?_⟩
 ·obtain⟨g,ho,_,_,hc⟩:=h3 j u hj
  exact⟨g,0,ho,by rw[Nat.zero_add];exact hc⟩
 ·rcases h.2 with ⟨e,_⟩ | ⟨g,cap,cur,e,h0,hg,_⟩
  ·simp only[Value.slice.injEq] at e;rw[e.1] at ha;cases ha
  ·simp only[Value.slice.injEq] at e;rw[e.1] at ha;cases ha;exact⟨h0,lt_of_block hg,rfl⟩
theorem int_snoc {w:World}{B:Nat}{v:Value}{acc:List Int}{r:Int}(h:w.ownsRow B 3 1 v (acc.length+1) (iV acc++[.int .i64 r])):w.ownsRow B 3 1 v (acc++[r]).length (iV (acc++[r])):=by
 rw[show (acc++[r]).length=acc.length+1 by simp,show iV (acc++[r])=iV acc++[.int .i64 r] by simp[iV]];exact h
def RdPost (W:World) (l:List Int) (e:Ending) (w':World):Prop:=∃(o:Option Addr) (c:Nat),e=.returned (.slice o l.length c)∧Rd w' o (iV l)∧(∀a,o=some a→W.heap.size≤a.block∧a.block<w'.heap.size∧a.spot=none)∧Below W.heap.size W w'
theorem bcommon_any (T:Tab) (bb:Nat) (B:BAddr) (r:Int) (W:World) (h:BookAt W bb B T) (hf:TabFit T):Calls Tryz.prog 87 #[.pointer (some ⟨bb,0,none⟩),.int .i32 r] W fun e w'=>e=.returned (.bool (ofB r T.common))∧Below W.heap.size W w':=by
 have h6:W.cell? ⟨bb,1,none⟩=some (.slice B.a.o1 T.common.length B.a.c1):=h.c 1 _ rfl
 have HO:=Lib.hid (tof_any B.a.o1 B.a.c1 T.common r W h.tab.common hf.l1 h.forms.com)
 clear h hf
 generalize ofB r T.common=R at *
 go_enter Tryz.func87,Tryz.ntmps87
 go_wp2_with fail
 (with_reducible refine Calls.mono HO.out ?_)
 rintro e w' ⟨rfl,hB⟩
 have HB:=Lib.hid hB
 clear hB
 go_wp2_with fail
 go_ret
 exact⟨rfl,HB.out⟩
theorem bclass_any (T:Tab) (bb:Nat) (B:BAddr) (r:Int) (hr:I32 r) (W:World) (h:BookAt W bb B T):Calls Tryz.prog 88 #[.pointer (some ⟨bb,0,none⟩),.int .i32 r] W fun e w'=>e=.returned (.int .i64 (classN T r))∧W=w':=by
 have h8:=h.q1
 have hl:=look_class h.maps.m1 hr
 dsimp only at hl
 generalize classN T r=R at *
 clear h hr
 go_enter Tryz.func88,Tryz.ntmps88
 go_wp2_with fail
 go_ret
 exact⟨rfl,rfl⟩
set_option maxRecDepth 100000 in
set_option maxHeartbeats 4000000 in
theorem bscripts_any (T:Tab) (bb:Nat) (B:BAddr) (r:Int) (W:World) (h:BookAt W bb B T) (hf:TabFit T):Calls Tryz.prog 89 #[.pointer (some ⟨bb,0,none⟩),.int .i32 r] W (RdPost W (scrL T r T.scripts.length)):=by
 obtain⟨⟨o0,o1,o2,o3,o4,o5,o6,o7,c0,c1,c2,c3,c4,c5,c6,c7⟩,m1,m2,m3,m4,m5⟩:=B
 obtain⟨i0_,hi,hz0,hz1,hz2⟩:=info_parts info_int
 have HI:=Lib.hid (And.intro hi (And.intro hz0 (And.intro hz1 hz2)))
 clear hi hz0 hz1 hz2
 have hB0:Below W.heap.size W W:=Below.refl _ _
 have hc0:∀y:WC W,y.w.cell? ⟨bb,0,none⟩=some (.slice o0 T.scripts.length c0):=WC.cell (h.c 0 _ rfl)
 have HL0:=Lib.hid h.tab.scripts
 have HSp:=Lib.hid (spOk_script h.forms)
 have HNm:=Lib.hid hf.names
 have hn:T.scripts.length≤1048576:=hf.l0
 have HNx:Hid (∀i (hi:i<T.scripts.length),scrL T r (i+1)=if ofB r T.scripts[i].2 then scrL T r i++[(i:Int)] else scrL T r i):=Lib.hid (fun i hi=>scrL_next T r hi)
 have HLn:Hid (∀i,(scrL T r i).length≤i):=Lib.hid (scrL_len T r)
 have h0:scrL T r 0=[]:=rfl
 have HZ0:=Lib.hid h0
 clear h0 h hf
 obtain⟨l0,hl0⟩:∃l,T.scripts=l:=⟨_,rfl⟩
 rw[hl0] at hc0 HL0 HSp HNm hn
 have HL:=Lib.hid hl0
 have HNx2:Hid (∀i (hi:i<l0.length),scrL T r (i+1)=if ofB r l0[i].2 then scrL T r i++[(i:Int)] else scrL T r i):=Lib.hid (by subst hl0;exact HNx.out)
 rw[hl0]
 clear hl0 HNx
 have HClip:Hid (∀(p:Option Addr) (n d:Nat) (U:World),n≤d→d≤maxLen→Calls Tryz.prog 134 #[.slice p n d] U fun e w'=>e=.returned (.slice p n n)∧U=w'):=Lib.hid (fun p n d U h1 h2=>clipInt2_any p n d U h1 h2)
 obtain⟨y,hy⟩:∃y:WC W,y.w=W:=⟨WC.of W,rfl⟩
 go_enter Tryz.func89,Tryz.ntmps89
 conv=>arg 5;rw[←hy]
 clear hy
 go_wp2_with fail
 go_loopw [5,14] (fun v5 v14 wr=>∃(i:Nat) (y:WC W),v14=.int .i64 i∧i≤l0.length∧wr=y.w∧Hid (y.w.ownsRow W.heap.size 3 1 v5 (scrL T r i).length (iV (scrL T r i)))) (fun _ v14 _=>l0.length - (intOf v14).toNat)
 case atStart=>exact⟨0,y,rfl,Nat.zero_le _,rfl,Lib.hid (by rw[HZ0.out];exact own_nil _ _ _ _)⟩
 case round=>
  clear y
  obtain⟨i,y,rfl,hi,rfl,hown⟩:=hrel
  have i0:(0:Int)≤(i:Int):=Int.natCast_nonneg _
  by_cases hlt:i<l0.length
  ·have i1:(i:Int)<(l0.length:Int):=by omega
   obtain⟨g,off,so,sc,ho,hg,q0,q1,cs,cz,cy⟩:=HL0.out i hlt
   subst ho
   have hxs:=HSp.out _ (List.getElem_mem hlt)
   have hxl:=(HNm.out _ (List.getElem_mem hlt)).2
   have hnx:=HNx2.out i hlt
   generalize l0[i]=x at *
   have e0:=fun y:WC W=>y.cell q0
   have e1:=fun y:WC W=>y.cell q1
   have HCs:=Lib.hid cs
   have HXs:=Lib.hid hxs
   have HNX:=Lib.hid hnx
   clear q0 q1 cs cz cy hxs hnx
   go_upto_region 5 with fail
   have bX:=Blk.new' y.w #[.string x.1,.slice so x.2.length sc] 128
   have hE:Below y.w.heap.size y.w (y.w.alloc (.cells #[.string x.1,.slice so x.2.length sc] 128)):=(Below.refl _ _).alloc (Nat.le_refl _) _
   obtain⟨y1,hy1⟩:∃z:WC W,z.w=y.w.alloc (.cells #[.string x.1,.slice so x.2.length sc] 128):=⟨⟨_,y.h.alloc y.h.size _⟩,rfl⟩
   rw[←hy1] at bX hE ⊢
   obtain⟨bx,hbx⟩:∃b,y.w.heap.size=b:=⟨_,rfl⟩
   rw[hbx] at bX ⊢
   have x0:y1.w.cell? ⟨bx,0,none⟩=some (.string x.1):=bX.cell 0
   have x1:y1.w.cell? ⟨bx,1,none⟩=some (.slice so x.2.length sc):=bX.cell 1
   have HOw:=Lib.hid (own_later hown.out (by rw[hbx];rw[hbx] at hE;exact hE))
   have HO:=Lib.hid (tof_any so sc x.2 r y1.w (HCs.out.below y1.h) hxl HXs.out)
   clear hy1 hbx bX hE hown hxl
   go_wp2_with fail
   (with_reducible refine Calls.mono HO.out ?_)
   rintro e w' ⟨rfl,hB⟩
   clear x0 x1 HO
   have HOw2:=Lib.hid (own_later HOw.out hB)
   obtain⟨y2,hy2⟩:∃z:WC W,z.w=w':=⟨⟨w',y1.h.trans (hB.mono y1.h.size)⟩,rfl⟩
   subst hy2
   clear hB HOw
   cases hb:ofB r x.2 with
   | false=>
    have HN2:=Lib.hid HNX.out
    rw[hb] at HN2
    clear hb HNX
    go_wp2_with fail
    exact⟨⟨i+1,y2,by go_num,by omega,rfl,Lib.hid (by rw[HN2.out];exact HOw2.out)⟩,by simp[intOf];omega⟩
   | true=>
    have HN2:=Lib.hid HNX.out
    rw[hb] at HN2
    clear hb HNX
    have hln:=HLn.out i
    obtain⟨acc,hacc⟩:∃acc,scrL T r i=acc:=⟨_,rfl⟩
    rw[hacc] at HN2 HOw2 hln
    have HAcc:=Lib.hid hacc
    clear hacc
    have hown2:=HOw2.out
    have hz:=y2.h.size
    obtain⟨hq,hq0,hq1,hq2⟩:=HI.out
    go_wp2_with (at_builtin;refine wpList_append_own _ rfl _ _ 40 rfl W.heap.size 3 i0_ _ 1 8 Tryz.underlying40 hq hq0 hq1 hq2 rfl (by decide) _ acc.length (iV acc) rfl (hown2.alloc _) ⟨y2.w.heap.size,0,none⟩ 1 1 [.int .i64 i] rfl rfl (new_cells _ _ (by simp) [.int .i64 i] _) (by simp[Value.oneCell']) (by unfold maxLen;omega) (by omega) (by simp at hz ⊢;omega) ?_;intro v' w4 hown' hgrow _)
    have hB5:=(y2.h.alloc y2.h.size (.cells [.int .i64 i].toArray 3)).grown hgrow (by simp at hz ⊢;omega) (fun k e=>by have:=(hown2.lt k e).1;omega)
    exact⟨⟨i+1,⟨w4,hB5⟩,by go_num,by omega,rfl,Lib.hid (by rw[HN2.out];exact int_snoc hown')⟩,by simp[intOf];omega⟩
  ·obtain rfl:i=l0.length:=by omega
   obtain⟨o,c,hv,h1,h2,h3,h4⟩:=own_rd hown.out
   have HR:=Lib.hid (And.intro h3 h4)
   clear hown h3 h4 hi hlt i0
   obtain rfl:=hv
   go_wp2_with fail
   (with_reducible refine Calls.mono (HClip.out _ _ _ _ h1 h2) ?_)
   rintro e w' ⟨rfl,rfl⟩
   go_wp2_with fail
   go_ret
   exact⟨o,_,rfl,HR.out.1,HR.out.2,y.h⟩
end Go.Proofs.YtioehfhdoohdmaaGreatDoor
namespace Go.Proofs.YtioehfhdoohdmaaGreatDoor
open Go.RowKit Go.Shelf BigFrame
theorem info_str:(Tryz.prog.info? 9).map (fun i=>(i.zero,i.size,i.bytes))=some (some (.string ByteArray.empty),1,16):=by kernel_rfl
theorem make_str (N:Nat) (hN:N≤1048576) (W:World):∃A:List Value,A.length=N∧(Instr.makeSlice 74 (.int .i64 (N:Int)) (.int .i64 (N:Int))).run Tryz.prog W=.ok (.slice (some ⟨W.heap.size,0,none⟩) N N) (W.alloc (.cells A.toArray 9)):=by
 obtain⟨i0,hi,hz0,hz1,hz2⟩:=info_parts info_str
 have h:=run_makeSlice (P:=Tryz.prog) W 74 9 i0 (.string ByteArray.empty) Tryz.underlying74 hi hz0 .i64 .i64 (N:Int) (N:Int) (by omega) (by omega) (by rw[hz1];simp;omega) (by rw[hz2];omega) (by omega)
 simp only[Int.toNat_natCast] at h
 refine⟨Array.toList _,?_,by rw[Array.toArray_toList];exact h⟩
 rw[Array.length_toList,size_madeCells,hz1,Nat.mul_one]
theorem make_int (N:Nat) (hN:N≤1048576) (W:World):∃A:List Value,A.length=N∧(Instr.makeSlice 40 (.int .i64 (N:Int)) (.int .i64 (N:Int))).run Tryz.prog W=.ok (.slice (some ⟨W.heap.size,0,none⟩) N N) (W.alloc (.cells A.toArray 3)):=by
 obtain⟨i0,hi,hz0,hz1,hz2⟩:=info_parts info_int
 have h:=run_makeSlice (P:=Tryz.prog) W 40 3 i0 (.int .i64 0) Tryz.underlying40 hi hz0 .i64 .i64 (N:Int) (N:Int) (by omega) (by omega) (by rw[hz1];simp;omega) (by rw[hz2];omega) (by omega)
 simp only[Int.toNat_natCast] at h
 refine⟨Array.toList _,?_,by rw[Array.toArray_toList];exact h⟩
 rw[Array.length_toList,size_madeCells,hz1,Nat.mul_one]
theorem own_of_blk {W:World}{g base:Nat}{xs:List Value}{ty:TypeId}(h:Blk W g xs ty) (hb:base≤g) (hn:xs.length≤maxLen):W.ownsRow base ty 1 (.slice (some ⟨g,0,none⟩) xs.length xs.length) xs.length xs:=
 ⟨by omega,Or.inr ⟨g,xs.length,xs.toArray,rfl,hb,h,Nat.le_refl _,hn,by simp,by simp⟩⟩
def allL (n:Nat):List Int:=(List.range n).map (fun k:Nat=>(k:Int))
theorem allL_len (n:Nat):(allL n).length=n:=by simp[allL]
theorem eq_allL {vs:List Value}{n:Nat}(hl:vs.length=n) (h:∀j,j<n→vs[j]?=some (.int .i64 (j:Int))):vs=iV (allL n):=by
 apply List.ext_getElem?
 intro j
 by_cases hj:j<n
 ·rw[h j hj];simp[allL,iV,hj]
 ·rw[List.getElem?_eq_none (by omega),List.getElem?_eq_none (by simp[allL,iV];omega)]
def NamesPost (W:World) (l:List (ByteArray×List Span)) (e:Ending) (w':World):Prop:=∃o:Option Addr,e=.returned (.slice o l.length l.length)∧Rd w' o (l.map (fun x=>.string x.1))∧Below W.heap.size W w'
def OwnPost (W:World) (l:List Int) (e:Ending) (w':World):Prop:=∃(g c:Nat),e=.returned (.slice (some ⟨g,0,none⟩) l.length c)∧w'.ownsRow W.heap.size 3 1 (.slice (some ⟨g,0,none⟩) l.length c) l.length (iV l)∧Below W.heap.size W w'
set_option maxRecDepth 100000 in
set_option maxHeartbeats 4000000 in
theorem bnames_any (T:Tab) (bb:Nat) (B:BAddr) (W:World) (h:BookAt W bb B T) (hf:TabFit T):Calls Tryz.prog 34 #[.pointer (some ⟨bb,0,none⟩)] W (NamesPost W T.scripts):=by
 obtain⟨⟨o0,o1,o2,o3,o4,o5,o6,o7,c0,c1,c2,c3,c4,c5,c6,c7⟩,m1,m2,m3,m4,m5⟩:=B
 have HC0:Hid (∀y:WC W,y.w.cell? ⟨bb,0,none⟩=some (.slice o0 T.scripts.length c0)):=Lib.hid (WC.cell (h.c 0 _ rfl))
 have HL0:=Lib.hid h.tab.scripts
 have hn:T.scripts.length≤1048576:=hf.l0
 clear h hf
 generalize T.scripts=l0 at *
 have cw:=HC0.out (WC.of W)
 dsimp only[WC.of] at cw
 obtain⟨A,hA,hmk⟩:=make_str l0.length hn W
 have bA:=Blk.new W A 9
 have hB1:Below W.heap.size W (W.alloc (.cells A.toArray 9)):=(Below.refl _ W).alloc (Nat.le_refl _) _
 have HBA:=Lib.hid (And.intro bA hB1)
 clear bA hB1
 have cw2:=HC0.out ⟨_,HBA.out.2⟩
 dsimp only at cw2
 go_enter Tryz.func34,Tryz.ntmps34
 go_wp2_with fail
 clear hmk cw cw2
 obtain⟨y,hy⟩:∃y:WC W,y.w=W.alloc (.cells A.toArray 9):=⟨⟨_,HBA.out.2⟩,rfl⟩
 have HBl:Hid (Blk y.w W.heap.size A 9):=Lib.hid (by rw[hy];exact HBA.out.1)
 rw[←hy]
 clear hy HBA
 go_loopw [19] (fun v19 wr=>∃(i:Nat) (y:WC W) (vs:List Value),v19=.int .i64 i∧i≤l0.length∧wr=y.w∧Hid (Blk y.w W.heap.size vs 9)∧Hid (vs.length=l0.length∧∀j (hj:j<l0.length),j<i→vs[j]?=some (.string l0[j].1))) (fun v19 _=>l0.length - (intOf v19).toNat)
 case atStart=>exact⟨0,y,A,rfl,Nat.zero_le _,rfl,HBl,Lib.hid ⟨hA,fun j hj h0=>absurd h0 (by omega)⟩⟩
 case round=>
  clear HBl hA y
  obtain⟨i,y,vs,rfl,hi,rfl,HBl,HVs⟩:=hrel
  have i0:(0:Int)≤(i:Int):=Int.natCast_nonneg _
  by_cases hlt:i<l0.length
  ·have i1:(i:Int)<(l0.length:Int):=by omega
   obtain⟨g,off,so,sc,ho,hg,q0,q1,cs,cz,cy⟩:=HL0.out i hlt
   subst ho
   have HVn:Hid (∀j (hj:j<l0.length),j<i+1→(vs.set i (.string l0[i].1))[j]?=some (.string l0[j].1)):=Lib.hid (fun j hj h1=>by
    by_cases e:j=i
    ·subst e;rw[List.getElem?_set_self (by have:=HVs.out.1;omega)]
    ·rw[List.getElem?_set_ne (fun h=>e h.symm)];exact HVs.out.2 j hj (by omega))
   generalize hx:l0[i]=x at *
   have HX:=Lib.hid hx
   clear hx
   have e0:=fun y:WC W=>y.cell q0
   have e1:=fun y:WC W=>y.cell q1
   clear q0 q1 cs cz cy
   have cB:=HC0.out y
   go_upto_region 5 with fail
   clear cB
   have bX:=Blk.new' y.w #[.string x.1,.slice so x.2.length sc] 128
   have hE:Below y.w.heap.size y.w (y.w.alloc (.cells #[.string x.1,.slice so x.2.length sc] 128)):=(Below.refl _ _).alloc (Nat.le_refl _) _
   have bG:=HBl.out.keep (Keep.of_below hE (fun _=>False)) (by simp)
   obtain⟨y1,hy1⟩:∃z:WC W,z.w=y.w.alloc (.cells #[.string x.1,.slice so x.2.length sc] 128):=⟨⟨_,y.h.alloc y.h.size _⟩,rfl⟩
   rw[←hy1] at bX bG ⊢
   obtain⟨bx,hbx⟩:∃b,y.w.heap.size=b:=⟨_,rfl⟩
   rw[hbx] at bX ⊢
   have x0:y1.w.cell? ⟨bx,0,none⟩=some (.string x.1):=bX.cell 0
   have hvi:vs[i]?=some vs[i]!:=by rw[getElem!_pos vs i (by have:=HVs.out.1;omega)];exact List.getElem?_eq_getElem _
   have g0:y1.w.cell? ⟨W.heap.size,i,none⟩=some vs[i]!:=(bG.cell i).trans hvi
   have f0:=bG.frozen i
   generalize vs[i]! = vi at *
   have HBl2:Hid (Blk (y1.w.setCell ⟨W.heap.size,i,none⟩ (.string x.1)) W.heap.size (vs.set i (.string x.1)) 9):=Lib.hid (bG.set i (.string x.1))
   clear hy1 hbx bX hE bG hvi
   go_wp2_with fail
   exact⟨⟨i+1,⟨_,y1.h.setCell (by simp) _⟩,_,by go_num,by omega,rfl,HBl2,Lib.hid ⟨by rw[List.length_set];exact HVs.out.1,HVn.out⟩⟩,by simp[intOf];omega⟩
  ·obtain rfl:i=l0.length:=by omega
   clear hi hlt i0
   go_wp2_with fail
   go_ret
   exact⟨_,rfl,fun j u hj=>⟨W.heap.size,0,rfl,by rw[Nat.zero_add];refine (HBl.out.cell j).trans ?_;rw[List.getElem?_map] at hj;obtain⟨x,hx,rfl⟩:=Option.map_eq_some_iff.1 hj;obtain⟨hj2,rfl⟩:=List.getElem?_eq_some_iff.1 hx;exact HVs.out.2 j hj2 hj2⟩,y.h⟩
set_option maxRecDepth 100000 in
set_option maxHeartbeats 4000000 in
theorem all_any (T:Tab) (bb:Nat) (B:BAddr) (W:World) (h:BookAt W bb B T) (hf:TabFit T):Calls Tryz.prog 49 #[.pointer (some ⟨bb,0,none⟩)] W (OwnPost W (allL T.scripts.length)):=by
 have HN:=Lib.hid (bnames_any T bb B W h hf)
 have hn:T.scripts.length≤1048576:=hf.l0
 clear h hf
 generalize T.scripts=l0 at *
 go_enter Tryz.func49,Tryz.ntmps49
 go_wp2_with fail
 (with_reducible refine Calls.mono HN.out ?_)
 rintro e w1 ⟨o,rfl,_,hB⟩
 have HB:=Lib.hid hB
 clear hB HN
 obtain⟨A,hA,hmk⟩:=make_int l0.length hn w1
 have HBA:=Lib.hid (Blk.new w1 A 3)
 go_wp2_with fail
 clear hmk
 obtain⟨y,hy⟩:∃y:WC W,y.w=w1.alloc (.cells A.toArray 3):=⟨⟨_,HB.out.alloc HB.out.size _⟩,rfl⟩
 obtain⟨g,hg⟩:∃g,w1.heap.size=g:=⟨_,rfl⟩
 have HBl:Hid (Blk y.w g A 3):=Lib.hid (by rw[hy,←hg];exact HBA.out)
 have hgW:W.heap.size≤g:=by rw[←hg];exact HB.out.size
 rw[←hy,hg]
 have HgW:=Lib.hid hgW
 clear hy HBA hg hgW HB
 go_loopw [11] (fun v11 wr=>∃(i:Nat) (y:WC W) (vs:List Value),v11=.int .i64 i∧i≤l0.length∧wr=y.w∧Hid (Blk y.w g vs 3)∧Hid (vs.length=l0.length∧∀j,j<i→vs[j]?=some (.int .i64 (j:Int)))) (fun v11 _=>l0.length - (intOf v11).toNat)
 case atStart=>exact⟨0,y,A,rfl,Nat.zero_le _,rfl,HBl,Lib.hid ⟨hA,fun j h0=>absurd h0 (by omega)⟩⟩
 case round=>
  clear HBl hA y
  obtain⟨i,y,vs,rfl,hi,rfl,HBl,HVs⟩:=hrel
  have i0:(0:Int)≤(i:Int):=Int.natCast_nonneg _
  by_cases hlt:i<l0.length
  ·have i1:(i:Int)<(l0.length:Int):=by omega
   have HVn:Hid (∀j,j<i+1→(vs.set i (.int .i64 (i:Int)))[j]?=some (.int .i64 (j:Int))):=Lib.hid (fun j h1=>by
    by_cases e:j=i
    ·subst e;rw[List.getElem?_set_self (by have:=HVs.out.1;omega)]
    ·rw[List.getElem?_set_ne (fun h=>e h.symm)];exact HVs.out.2 j (by omega))
   have hvi:vs[i]?=some vs[i]!:=by rw[getElem!_pos vs i (by have:=HVs.out.1;omega)];exact List.getElem?_eq_getElem _
   have g0:y.w.cell? ⟨g,i,none⟩=some vs[i]!:=(HBl.out.cell i).trans hvi
   have f0:=HBl.out.frozen i
   generalize vs[i]! = vi at *
   have HBl2:Hid (Blk (y.w.setCell ⟨g,i,none⟩ (.int .i64 (i:Int))) g (vs.set i (.int .i64 (i:Int))) 3):=Lib.hid (HBl.out.set i (.int .i64 (i:Int)))
   clear hvi
   go_wp2_with fail
   exact⟨⟨i+1,⟨_,y.h.setCell (by exact HgW.out) _⟩,_,by go_num,by omega,rfl,HBl2,Lib.hid ⟨by rw[List.length_set];exact HVs.out.1,HVn.out⟩⟩,by simp[intOf];omega⟩
  ·obtain rfl:i=l0.length:=by omega
   clear hi hlt i0
   go_wp2_with fail
   go_ret
   have hv:=eq_allL HVs.out.1 HVs.out.2
   have hb:=HBl.out
   rw[hv] at hb
   have ho:=own_of_blk hb HgW.out (by rw[List.length_map,allL_len];unfold maxLen;omega)
   rw[show (iV (allL l0.length)).length=(allL l0.length).length by simp] at ho
   exact⟨g,(allL l0.length).length,by rw[allL_len];rfl,ho,y.h⟩
def freeR (T:Tab) (r:Int) (bad:Bool):Bool:=!bad && (ofB r T.common || decide (0<classN T r))
def bdL (T:Tab) (r:Int) (bad:Bool):List Int:=if bad then [] else if freeR T r bad then [] else scrL T r T.scripts.length
def BoundPost (W:World) (T:Tab) (r:Int) (bad:Bool) (e:Ending) (w':World):Prop:=∃(o:Option Addr) (c:Nat),e=.returned (.tuple #[.slice o (bdL T r bad).length c,.bool (!freeR T r bad)])∧Rd w' o (iV (bdL T r bad))∧(∀a,o=some a→W.heap.size≤a.block∧a.block<w'.heap.size∧a.spot=none)∧Below W.heap.size W w'
theorem rd_nil (W:World):Rd W none (iV []):=fun j u hj=>by simp at hj
set_option maxRecDepth 100000 in
set_option maxHeartbeats 4000000 in
theorem bound_any (T:Tab) (bb:Nat) (B:BAddr) (r:Int) (hr:I32 r) (n:Int) (bad:Bool) (W:World) (h:BookAt W bb B T) (hf:TabFit T):Calls Tryz.prog 51 #[.pointer (some ⟨bb,0,none⟩),.agg #[.int .i32 r,.int .i64 n,.bool bad]] W (BoundPost W T r bad):=by
 have hE:Below W.heap.size W (W.alloc (.cells #[.int .i32 r,.int .i64 n,.bool bad] 77)):=(Below.refl _ _).alloc (Nat.le_refl _) _
 have bX:=Blk.new' W #[.int .i32 r,.int .i64 n,.bool bad] 77
 obtain⟨W0,hW0⟩:∃W0,W.alloc (.cells #[.int .i32 r,.int .i64 n,.bool bad] 77)=W0:=⟨_,rfl⟩
 rw[hW0] at hE bX
 have HW0:=Lib.hid hW0
 clear hW0
 have x0:∀y:WC W0,y.w.cell? ⟨W.heap.size,0,none⟩=some (.int .i32 r):=WC.cell (bX.cell 0)
 have x2:∀y:WC W0,y.w.cell? ⟨W.heap.size,2,none⟩=some (.bool bad):=WC.cell (bX.cell 2)
 have hb0:=h.below hE
 have HCm:Hid (∀y:WC W0,Calls Tryz.prog 87 #[.pointer (some ⟨bb,0,none⟩),.int .i32 r] y.w fun e w'=>e=.returned (.bool (ofB r T.common))∧∃z:WC W0,w'=z.w):=Lib.hid (fun y=>WC.call (bcommon_any T bb B r y.w (hb0.below y.h) hf))
 have HCl:Hid (∀y:WC W0,Calls Tryz.prog 88 #[.pointer (some ⟨bb,0,none⟩),.int .i32 r] y.w fun e w'=>e=.returned (.int .i64 (classN T r))∧y.w=w'):=Lib.hid (fun y=>bclass_any T bb B r hr y.w (hb0.below y.h))
 have HSc:Hid (∀y:WC W0,Calls Tryz.prog 89 #[.pointer (some ⟨bb,0,none⟩),.int .i32 r] y.w (RdPost y.w (scrL T r T.scripts.length))):=Lib.hid (fun y=>bscripts_any T bb B r y.w (hb0.below y.h) hf)
 have HE:=Lib.hid hE
 clear hE bX hb0 h hf hr
 have HP:Hid (∀e w',BoundPost W T r bad e w'=∃(o:Option Addr) (c:Nat),e=.returned (.tuple #[.slice o (bdL T r bad).length c,.bool (!freeR T r bad)])∧Rd w' o (iV (bdL T r bad))∧(∀a,o=some a→W.heap.size≤a.block∧a.block<w'.heap.size∧a.spot=none)∧Below W.heap.size W w'):=Lib.hid (fun e w'=>rfl)
 obtain⟨P,hP⟩:∃P,BoundPost W T r bad=P:=⟨_,rfl⟩
 rw[hP] at HP ⊢
 clear hP
 have HFr:Hid (freeR T r bad=(!bad && (ofB r T.common || decide (0<classN T r)))):=Lib.hid rfl
 have HBd:Hid (bdL T r bad=if bad then [] else if freeR T r bad then [] else scrL T r T.scripts.length):=Lib.hid rfl
 generalize classN T r=cN at *
 generalize ofB r T.common=cm at *
 generalize scrL T r T.scripts.length=L at *
 generalize freeR T r bad=fr at *
 generalize bdL T r bad=D at *
 obtain⟨y,hy⟩:∃y:WC W0,y.w=W0:=⟨WC.of W0,rfl⟩
 cases bad with
 | true=>
  have hfr:fr=false:=HFr.out
  have hD:D=[]:=HBd.out
  subst hfr hD
  go_enter Tryz.func51,Tryz.ntmps51
  go_upto_region 1 with fail
  rw[HW0.out,←hy]
  clear hy HW0
  go_wp2_with fail
  try go_ret2
  rw[HP.out]
  exact⟨none,0,rfl,rd_nil _,(fun a ha=>by cases ha),HE.out.trans (y.h.mono HE.out.size)⟩
 | false=>
  cases cm with
  | true=>
   have hfr:fr=true:=HFr.out
   subst hfr
   have hD:D=[]:=HBd.out
   subst hD
   go_enter Tryz.func51,Tryz.ntmps51
   go_upto_region 1 with fail
   rw[HW0.out,←hy]
   clear hy HW0
   go_wp2_with fail
   (with_reducible refine Calls.mono (HCm.out y) ?_)
   rintro e w' ⟨rfl,y1,rfl⟩
   go_wp2_with fail
   try go_ret2
   rw[HP.out]
   exact⟨none,0,rfl,rd_nil _,(fun a ha=>by cases ha),HE.out.trans (y1.h.mono HE.out.size)⟩
  | false=>
   by_cases hc:0<cN
   ·have hfr:fr=true:=by rw[HFr.out];simp[hc]
    subst hfr
    have hD:D=[]:=HBd.out
    subst hD
    go_enter Tryz.func51,Tryz.ntmps51
    go_upto_region 1 with fail
    rw[HW0.out,←hy]
    clear hy HW0
    go_wp2_with fail
    (with_reducible refine Calls.mono (HCm.out y) ?_)
    rintro e w' ⟨rfl,y1,rfl⟩
    go_wp2_with fail
    (with_reducible refine Calls.mono (HCl.out y1) ?_)
    rintro e w' ⟨rfl,rfl⟩
    go_wp2_with fail
    try go_ret2
    rw[HP.out]
    exact⟨none,0,rfl,rd_nil _,(fun a ha=>by cases ha),HE.out.trans (y1.h.mono HE.out.size)⟩
   ·have hfr:fr=false:=by rw[HFr.out];simp[hc]
    subst hfr
    have hD:D=L:=HBd.out
    subst hD
    go_enter Tryz.func51,Tryz.ntmps51
    go_upto_region 1 with fail
    rw[HW0.out,←hy]
    clear hy HW0
    go_wp2_with fail
    (with_reducible refine Calls.mono (HCm.out y) ?_)
    rintro e w' ⟨rfl,y1,rfl⟩
    go_wp2_with fail
    (with_reducible refine Calls.mono (HCl.out y1) ?_)
    rintro e w' ⟨rfl,rfl⟩
    go_wp2_with fail
    (with_reducible refine Calls.mono (HSc.out y1) ?_)
    rintro e w2 ⟨o,c,rfl,h1,h2,h3⟩
    have HQ:=Lib.hid (And.intro h1 (And.intro h2 h3))
    clear h1 h2 h3
    go_wp2_with fail
    try go_ret2
    rw[HP.out]
    exact⟨o,c,rfl,HQ.out.1,fun a ha=>⟨Nat.le_trans HE.out.size (Nat.le_trans y1.h.size (HQ.out.2.1 a ha).1),(HQ.out.2.1 a ha).2⟩,(HE.out.trans (y1.h.mono HE.out.size)).trans (HQ.out.2.2.mono (Nat.le_trans HE.out.size y1.h.size))⟩
end Go.Proofs.YtioehfhdoohdmaaGreatDoor
