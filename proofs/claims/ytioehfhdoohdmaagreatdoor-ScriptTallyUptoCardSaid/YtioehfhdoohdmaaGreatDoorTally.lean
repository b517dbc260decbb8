/- script.Tally, walked. -/
import Derived.Test.YtioehfhdoohdmaaGreatDoorTallyS
import Derived.Test.YtioehfhdoohdmaaGreatDoorSpotsN
set_option linter.unusedVariables false
set_option linter.unusedSimpArgs false
namespace Go.Proofs.YtioehfhdoohdmaaGreatDoor
open Go.RowKit Go.Shelf Go.Maps
attribute [local go_sem] Oper.semAt_some
theorem ownsMap_below {W W':World}{P:Program}{k:TypeId}{R:Value→Option (DataW Unit×List MemPlace)}{b n:Nat}{D:DataW Unit}(h:W.ownsMap P k R b n D) (hB:Below W.heap.size W W'):W'.ownsMap P k R b n D:=by
 have hl:=h.lt
 obtain⟨es,clock,hb,F,hs,hD⟩:=h
 exact⟨es,clock,(hB.block b hl).trans hb,F,hs,hD⟩
structure TalSt (w:World) (b2 b5 nb bm bb:Nat) (s:ByteArray) (f:Nat→Nat) (n:Nat) (W:World):Prop where
 B:Below w.heap.size w W
 k2:Blk W b2 [.pointer (some ⟨bb,0,none⟩)] 29
 kn:Blk W nb [.string s] 9
 k5:Blk W b5 [.map (some bm)] 131
 m:∃(D:DataW Unit) (k:Nat),TD D f∧k≤n∧W.ownsMap Tryz.prog 3 (plainElem Tryz.prog 3) bm k D
theorem TalSt.own (w:World) (b2 b5 nb bm bb:Nat) (s:ByteArray) {BB:Nat}(hw:w.heap.size≤BB) (hm:bm<BB) {β:Type}(f:β→Nat→Nat) (n:β→Nat):OwnFrom BB (fun (x:β) W=>TalSt w b2 b5 nb bm bb s (f x) (n x) W):=fun x W W' row h hg hr=>by
 have hr':∀r,row=some r→∃o:Obj,W.heap[r]?=some o∧o.isCells=false:=fun r e=>(hr r e).2
 obtain⟨D,k,h1,h2,h3⟩:=h.m
 exact⟨h.B.grown hg h.B.size (fun k e=>Nat.le_trans hw (hr k e).1),grown_blk h.k2 hg hr',grown_blk h.kn hg hr',grown_blk h.k5 hg hr',D,k,h1,h2,h3.kept hg (fun e=>by have:=(hr bm e.symm).1;omega)⟩
theorem TalSt.below {w:World}{b2 b5 nb bm bb:Nat}{s:ByteArray}{f:Nat→Nat}{n:Nat}{W W':World}(h:TalSt w b2 b5 nb bm bb s f n W) (hB:Below W.heap.size W W'):TalSt w b2 b5 nb bm bb s f n W':=by
 obtain⟨D,k,h1,h2,h3⟩:=h.m
 exact⟨h.B.trans (hB.mono h.B.size),h.k2.keep (Keep.of_below hB (fun _=>False)) (by simp),h.kn.keep (Keep.of_below hB (fun _=>False)) (by simp),h.k5.keep (Keep.of_below hB (fun _=>False)) (by simp),D,k,h1,h2,ownsMap_below h3 hB⟩
theorem map_row {W:World}{P:Program}{k:TypeId}{R:Value→Option (DataW Unit×List MemPlace)}{b n:Nat}{D:DataW Unit}(h:W.ownsMap P k R b n D):∀r,some b=some r→∃o:Obj,W.heap[r]?=some o∧o.isCells=false:=by
 rintro r e
 cases e
 obtain⟨es,clock,hb,_⟩:=h
 exact⟨_,hb,rfl⟩
theorem TalSt.upd {w:World}{b2 b5 nb bm bb:Nat}{s:ByteArray}{f f':Nat→Nat}{n k:Nat}{W W':World}(h:TalSt w b2 b5 nb bm bb s f n W) {D D':DataW Unit}(h0:W.ownsMap Tryz.prog 3 (plainElem Tryz.prog 3) bm k D) (hg:W.grownBy W' (some bm)) (hm:w.heap.size≤bm) (ht:TD D' f') (hk:k≤n)
 (h1:W'.ownsMap Tryz.prog 3 (plainElem Tryz.prog 3) bm (k+1) D'):TalSt w b2 b5 nb bm bb s f' (n+1) W':=
 ⟨h.B.grown hg h.B.size (fun k e=>by cases e;exact hm),grown_blk h.k2 hg (map_row h0),grown_blk h.kn hg (map_row h0),grown_blk h.k5 hg (map_row h0),D',k+1,ht,by omega,h1⟩
structure RndK (N nb:Nat) (s:ByteArray) (W W':World):Prop where
 f:KeepsFrom N W W'
 p:KpN N nb s W W'
theorem RndK.refl (N nb:Nat) (s:ByteArray) (W:World):RndK N nb s W W:=⟨⟨Nat.le_refl _,fun _ _ _ h _=>h⟩,⟨id,fun _ _ _ h _=>h⟩⟩
theorem RndK.trans {N nb:Nat}{s:ByteArray}{A B C:World}(h:RndK N nb s A B) (k:RndK N nb s B C):RndK N nb s A C:=⟨⟨Nat.le_trans h.f.size k.f.size,fun i o hi ho hc=>k.f.same i o hi (h.f.same i o hi ho hc) hc⟩,kpn_t h.p k.p⟩
theorem RndK.below {N nb:Nat}{s:ByteArray}{W W':World}(h:Below W.heap.size W W'):RndK N nb s W W':=⟨(ko_below h).from _,kpn_below h⟩
theorem RndK.upd {N nb bm:Nat}{s:ByteArray}{W W':World}{P:Program}{t:TypeId}{R:Value→Option (DataW Unit×List MemPlace)}{n:Nat}{D:DataW Unit}(h0:W.ownsMap P t R bm n D) (hg:W.grownBy W' (some bm)) (hm:bm<N):RndK N nb s W W':=
 ⟨⟨hg.size,fun k o hk ho hc=>(hg.block k (lt_of_block ho) (fun e=>by cases e;omega)).trans ho⟩,fun e=>cell_kept e hg (map_row h0),fun k o hk ho _=>(hg.block k (lt_of_block ho) (fun e=>by cases e;omega)).trans ho⟩
theorem TalSt.mono {w:World}{b2 b5 nb bm bb:Nat}{s:ByteArray}{f f':Nat→Nat}{n n':Nat}{W:World}(h:TalSt w b2 b5 nb bm bb s f n W) (hf:f=f') (hn:n≤n'):TalSt w b2 b5 nb bm bb s f' n' W:=by
 subst hf
 obtain⟨D,k,h1,h2,h3⟩:=h.m
 exact⟨h.B,h.k2,h.kn,h.k5,D,k,h1,Nat.le_trans h2 hn,h3⟩
theorem zero_int (w:World):(zeroValue 3).run Tryz.prog w=.ok (.int .i64 0) w:=by kernel_rfl
theorem keyed_int:Maps.Keyed Tryz.prog 3:=int_keyed Tryz.underlying3
theorem wf_nat {n:Nat}(h:n≤1048577):(Lit.int .i64 (n:Int)).wf=true:=by
 simp only[Lit.wf]
 rw[Bool.and_eq_true,decide_eq_true_iff,decide_eq_true_iff]
 have e1:IntKind.i64.min=-9223372036854775808:=by decide
 have e2:IntKind.i64.max=9223372036854775807:=by decide
 omega
theorem info_share:(Tryz.prog.info? 85).map (fun i=>(i.zero,i.size,i.bytes))=some (some (.agg #[.int .i64 0,.int .i64 0]),2,16):=by kernel_rfl
theorem sharesL_eq (T:Tab) (s:ByteArray) {F:List Nat}(h:(List.range T.scripts.length).filter (fun j=>0<cntN T s (places s) j)=F):sharesL T s=F.map fun j=>(j,cntN T s (places s) j):=by unfold sharesL;rw[h]
def TalPost (W:World) (l:List (Nat×Nat)) (e:Ending) (w':World):Prop:=∃v:Value,e=.returned v∧w'.ownsRow W.heap.size 85 2 v l.length (l.flatMap shV)∧Below W.heap.size W w'
set_option maxRecDepth 100000 in
set_option maxHeartbeats 4000000 in
theorem stally_any (T:Tab) (bb:Nat) (Bk:BAddr) (s:ByteArray) (w:World) (h:BookAt w bb Bk T) (hf:TabFit T) (hs:s.size≤1048576) :
 Calls Tryz.prog 38 #[.pointer (some ⟨bb,0,none⟩),.string s] w (TalPost w (sharesL T s)):=by
 have hmm:=@run_makeMap Tryz.prog
 refine (callsIn_wide (n:=7)).1 ?_
 have HBk:=Lib.hid h
 have HF:=Lib.hid hf
 clear h hf
 refine callsIn_of_wp_marks Tryz.func38 rfl trivial ?_ rfl
 simp only[Tryz.ntmps38,List.size_toArray,List.length_cons,List.length_nil,Nat.reduceAdd,Nat.reduceSub,Array.replicate_succ,Array.replicate_zero,List.push_toArray,List.append_toArray,List.nil_append,List.cons_append]
 obtain⟨W0,hW0⟩:∃W0,w.alloc (.cells #[.pointer (some ⟨bb,0,none⟩)] 29)=W0:=⟨_,rfl⟩
 have b2:=Blk.new' w #[.pointer (some ⟨bb,0,none⟩)] 29
 rw[hW0] at b2
 have c2:=b2.cell 0
 dsimp only[List.getElem?_cons_zero] at c2
 have hE:Below w.heap.size w W0:=by rw[←hW0];exact (Below.refl _ _).alloc (Nat.le_refl _) _
 have hz0:W0.heap.size=w.heap.size+1:=by rw[←hW0];simp
 have HW0:=Lib.hid hW0
 have HE:=Lib.hid hE
 have HB2:=Lib.hid b2
 have HZ0:=Lib.hid hz0
 clear hW0 hE b2 hz0
 gi_upto_region 1 with fail
 rw[HW0.out]
 gi_wp2_with (refine⟨trivial,?_⟩;gi_at_call 50;refine (callsIn_wide.2 (spots_any s _)).mono ?_;rintro e w' ⟨rfl,rfl⟩)
 have hB3:Below W0.heap.size W0 (((W0.alloc (.map #[] 0)).alloc (.cells #[.map (some W0.heap.size)] 131)).alloc (.cells #[.string s] 9)):=(((Below.refl _ W0).alloc (Nat.le_refl _) _).alloc (by simp) _).alloc (by simp;omega) _
 have k5:=(Blk.new' (W0.alloc (.map #[] 0)) #[.map (some W0.heap.size)] 131).alloc (.cells #[.string s] 9)
 have kn:=Blk.new' ((W0.alloc (.map #[] 0)).alloc (.cells #[.map (some W0.heap.size)] 131)) #[.string s] 9
 have km:=((World.ownsMap_made W0 Tryz.prog 3 (plainElem (H:=Unit) Tryz.prog 3)).alloc (.cells #[.map (some W0.heap.size)] 131)).alloc (.cells #[.string s] 9)
 simp only[World.size_alloc] at k5 kn
 have hsz:(((W0.alloc (.map #[] 0)).alloc (.cells #[.map (some W0.heap.size)] 131)).alloc (.cells #[.string s] 9)).heap.size=W0.heap.size+3:=by simp
 generalize hW3:((W0.alloc (.map #[] 0)).alloc (.cells #[.map (some W0.heap.size)] 131)).alloc (.cells #[.string s] 9)=W3 at *
 have hst:TalSt w w.heap.size (W0.heap.size+1) (W0.heap.size+2) W0.heap.size bb s (cntN T s []) (([]:List (Pl s)).length*1048576) W3:=
  ⟨HE.out.trans (hB3.mono HE.out.size),HB2.out.keep (Keep.of_below hB3 (fun _=>False)) (by simp),kn,k5,.map [],0,TD.nil,Nat.zero_le _,km⟩
 clear hW3 k5 kn km hB3
 have hlen:(places s).length≤1048576:=Nat.le_trans scan_any_len hs
 have hwb:w.heap.size<W0.heap.size:=by have:=HZ0.out;omega
 have hl0:=HF.out.l0
 obtain⟨bm,hbm⟩:∃b,W0.heap.size=b:=⟨_,rfl⟩
 rw[hbm] at hst hsz hwb ⊢
 obtain⟨N,hN⟩:∃N,W3.heap.size=N:=⟨_,rfl⟩
 have hNb:N=bm+3:=by omega
 have HN:=Lib.hid hN
 have HNb:=Lib.hid hNb
 have HBm:=Lib.hid hbm
 have hbN:bm<N:=by omega
 have hwN:w.heap.size≤N:=by omega
 clear hbm c2
 refine wpIn_rangeFunc_ownH rfl (by omega) (gf:=84) (lb:=#[.pointer (some ⟨bm+2,0,none⟩)]) rfl trivial (enters_of Tryz.func84 (by kernel_rfl) rfl)
  (spots_stopsN 6 (by omega) N (bm+2) s (by omega) W3 (by omega) (hst.kn.cell 0)) kpn_t (fun W l o o' _ h hc hw=>kpn_b W l o o' h hc hw) (Below.refl _ _) (fun _=>rfl)
  (fun pre W=>TalSt w w.heap.size (bm+1) (bm+2) bm bb s (cntN T s pre) (pre.length*1048576) W) NoX
  (TalSt.own w _ _ _ _ _ s (by omega) (by omega) (cntN T s) (fun pre=>pre.length*1048576)) (fun c s W W' row h _ _=>h.elim)
  hst
  (fun x a' W=>∃Bx,bm+2<Bx∧Blk W Bx [.int .i32 (Utf8.decode s x.1).1,.int .i64 (Utf8.decode s x.1).2,.bool (!goodAt s x.1)] 77∧a'={ tmps:=#[.pointer (some ⟨bb,0,none⟩),.string s,.pointer (some ⟨w.heap.size,0,none⟩),undef,.slice none 0 0,.pointer (some ⟨bm+1,0,none⟩),undef,.pointer (some ⟨Bx,0,none⟩),undef,undef,undef,undef,undef,undef,undef,.pointer (some ⟨bb,0,none⟩),.bool false,.map (some bm),.string s,.func (.func 84) #[] #[.pointer (some ⟨bm+2,0,none⟩)],.int .i64 x.1,.agg #[.int .i32 (Utf8.decode s x.1).1,.int .i64 (Utf8.decode s x.1).2,.bool (!goodAt s x.1)],undef,undef,undef,undef,undef,undef,undef,undef,undef,undef,undef,undef,undef,undef,undef,undef,undef,undef,undef,undef,undef,undef,undef,undef,undef,undef,undef,undef,undef,undef,undef,undef,undef,undef,undef],defers:=[] })
  (fun x a' _ X Y row hs hg hr=>by obtain⟨Bx,h1,h2,h3⟩:=hs;exact⟨Bx,h1,grown_blk h2 hg (fun r e=>(hr r e).2),h3⟩)
  ?assign ?body ?done ?stop
 case assign=>
  rintro l pre x W K hI hK
  clear hsz hN hNb
  unfold encS
  gi_wp2
  have hA:Below W.heap.size W (W.alloc (.cells #[.int .i32 (Utf8.decode s x.1).1,.int .i64 (Utf8.decode s x.1).2,.bool (!goodAt s x.1)] 77)):=(Below.refl _ _).alloc (Nat.le_refl _) _
  refine hK _ _ ((ko_below hA).from _) (kpn_below hA) (hI.below hA) ⟨W.heap.size,by have:=hI.kn.lt;omega,Blk.new W _ _,rfl⟩
 case body=>
  rintro l pre x a' W hl ⟨r,hr⟩ hI ⟨Bx,hBx,bX,rfl⟩ hlt
  clear hsz hN hNb hst
  have hrb:=dec_rune s x.1
  have HBd:=Lib.hid (bound_any T bb Bk (spR s x) (by unfold spR I32;omega) ((Utf8.decode s x.1).2:Nat) (spB s x) W (HBk.out.below hI.B) HF.out)
  have HI:=Lib.hid hI
  have c2:=hI.k2.cell 0
  have x0:=bX.cell 0
  have x1:=bX.cell 1
  have x2:=bX.cell 2
  dsimp only[List.getElem?_cons_zero,List.getElem?_cons_succ] at c2 x0 x1 x2
  have HR:Hid (((Utf8.decode s x.1).1:Int)=spR s x):=Lib.hid rfl
  have HBB:Hid ((!goodAt s x.1)=spB s x):=Lib.hid rfl
  rw[HR.out] at x0 ⊢
  rw[HBB.out] at x2 ⊢
  generalize (Utf8.decode s x.1).2=K at *
  clear hI bX HR HBB hrb
  have HEnd:Hid (cntK (cntN T s pre) (bdN T (spR s x) (spB s x)) (bdN T (spR s x) (spB s x)).length=cntN T s (pre++[x])):=Lib.hid (cntK_end T s pre x)
  have HNd:Hid (bdN T (spR s x) (spB s x)).Nodup:=Lib.hid (bdN_nodup T _ _)
  have HFle:Hid (∀j,cntN T s pre j≤s.size):=Lib.hid (fun j=>Nat.le_trans (cntN_le _ _ _ _) (Nat.le_of_lt hlt))
  have HDl:Hid ((bdL T (spR s x) (spB s x)).length≤T.scripts.length):=Lib.hid (bdL_len T _ _)
  have HDn:Hid (bdL T (spR s x) (spB s x)=(bdN T (spR s x) (spB s x)).map fun (k:Nat)=>(k:Int)):=Lib.hid (bdL_nat T _ _)
  have HDt:Hid (∀j∈bdN T (spR s x) (spB s x),j<T.scripts.length):=Lib.hid (fun j hj=>bdN_lt T _ _ hj)
  generalize spR s x=R at *
  generalize spB s x=bad at *
  have hbd:=HBd.out
  unfold BoundPost at hbd
  obtain⟨Dn,hDn⟩:∃D,bdN T R bad=D:=⟨_,rfl⟩
  rw[HDn.out,hDn] at hbd
  rw[hDn] at HEnd HNd HDt
  rw[HDn.out,hDn,List.length_map] at HDl
  rw[List.length_map] at hbd
  obtain⟨fr,hfr⟩:∃b,freeR T R bad=b:=⟨_,rfl⟩
  rw[hfr] at hbd
  have HBd2:=Lib.hid hbd
  clear hbd HBd hDn hfr HDn
  gi_wp2_with fail
  refine⟨trivial,?_⟩
  gi_at_call 51
  refine (callsIn_wide.2 HBd2.out).mono ?_
  rintro e W1 ⟨o,d,rfl,hrd,hnew,hB⟩
  have HRd:=Lib.hid hrd
  have HB:=Lib.hid hB
  have HI1:=Lib.hid (HI.out.below hB)
  have hdl:=HDl.out
  clear hrd hnew hB HBd2 c2 x0 x1 x2
  gi_wp2_with fail
  gi_loopw [30] (fun v30 wr=>∃k:Nat,v30=.int .i64 k∧k≤Dn.length∧Hid (RndK N (bm+2) s W wr)∧Hid (TalSt w w.heap.size (bm+1) (bm+2) bm bb s (cntK (cntN T s pre) Dn k) (pre.length*1048576+k) wr)∧Hid (∀p v,W1.cell? p=some v→wr.cell? p=some v)) (fun v30 _=>Dn.length - (intOf v30).toNat)
  case atStart=>exact⟨0,rfl,Nat.zero_le _,Lib.hid (RndK.below HB.out),Lib.hid (HI1.out.mono (cntK_zero _ _).symm (by omega)),Lib.hid (fun p v h=>h)⟩
  case round=>
   obtain⟨k,rfl,hk,HRk,HSt,HCk⟩:=hrel
   have k0:(0:Int)≤(k:Int):=Int.natCast_nonneg _
   by_cases hlk:k<Dn.length
   ·have k1:(k:Int)<(Dn.length:Int):=by omega
    obtain⟨j0,hj0⟩:∃j,Dn[k]=j:=⟨_,rfl⟩
    have hjb:j0<T.scripts.length:=HDt.out j0 (by rw[←hj0];exact List.getElem_mem hlk)
    have hget:(iV (Dn.map fun (k:Nat)=>(k:Int)))[k]?=some (.int .i64 (j0:Nat)):=by
     unfold iV
     rw[List.getElem?_map,List.getElem?_map,List.getElem?_eq_getElem hlk,hj0]
     rfl
    obtain⟨g,off,ho,hc⟩:=HRd.out k _ hget
    subst ho
    have q0:=HCk.out _ _ hc
    obtain⟨Dm,kk,hTD,hkk,hown⟩:=HSt.out.m
    have hstep:=cntK_step (cntN T s pre) HNd.out hlk
    rw[hj0] at hstep
    have hle:cntK (cntN T s pre) Dn k j0≤s.size+1:=cntK_le (HFle.out j0)
    have hat0:=hTD.at_ j0
    have hbump:=hTD.bump j0
    rw[hstep] at hbump
    obtain⟨q,hq⟩:∃q,cntK (cntN T s pre) Dn k j0=q:=⟨_,rfl⟩
    rw[hq] at hle hat0 hbump
    have hkey:keyOf Tryz.prog 3 (.int .i64 (j0:Nat))=some (.int .i64 (j0:Nat)):=keyOf_int_mk Tryz.underlying3 (wf_nat (by omega))
    obtain⟨c,hrun,hat,hwc⟩:=hown.lookup_int keyed_int Tryz.underlying131 Tryz.underlying3 (zero_int wr) hkey
    obtain rfl:c=(q:Int):=by rw[hat0] at hat;simpa using hat.symm
    have hwq:(Lit.int .i64 ((q+1:Nat):Int)).wf=true:=by
     have e1:IntKind.i64.min=-9223372036854775808:=by decide
     have e2:IntKind.i64.max=9223372036854775807:=by decide
     simp only[Lit.wf]
     rw[Bool.and_eq_true,decide_eq_true_iff,decide_eq_true_iff]
     omega
    obtain⟨w1,hrun2,hown1,hg1⟩:=hown.update keyed_int Tryz.underlying131 (by unfold maxLen;omega) hkey (plainElem_int Tryz.underlying3 hwq)
    have eq1:((q+1:Nat):Int)=(q:Int)+1:=by omega
    have HSt2:Hid (TalSt w w.heap.size (bm+1) (bm+2) bm bb s (cntK (cntN T s pre) Dn (k+1)) (pre.length*1048576+(k+1)) w1):=Lib.hid ((TalSt.upd HSt.out hown hg1 (by omega) hbump hkk hown1).mono rfl (by omega))
    have HRk2:Hid (RndK N (bm+2) s W w1):=Lib.hid (HRk.out.trans (RndK.upd hown hg1 hbN))
    have HCk2:Hid (∀p v,W1.cell? p=some v→w1.cell? p=some v):=Lib.hid (fun p v h=>cell_kept (HCk.out p v h) hg1 (map_row hown))
    have c5:=HSt.out.k5.cell 0
    dsimp only[List.getElem?_cons_zero] at c5
    rw[eq1] at hrun2
    clear hTD hkk hown hstep hat0 hbump hq hkey hat hwc hwq hown1 hg1 eq1 hget hc hj0 HSt HRk HCk
    gi_wp2_with fail
    exact⟨⟨k+1,by go_num,by omega,HRk2,HSt2,HCk2⟩,by simp[intOf];omega⟩
   ·obtain rfl:k=Dn.length:=by omega
    gi_wp2_with fail
    refine⟨by rw[HN.out];exact HRk.out.f,HRk.out.p,HSt.out.mono HEnd.out ?_⟩
    simp only[List.length_append,List.length_cons,List.length_nil]
    omega
 case done=>
  rintro D xs W hD rfl hI hK
  have hpos:=fun j h=>cntN_lt T s (places s) j h
  have hcle:=fun j=>Nat.le_trans (cntN_le T s (places s) j) hlen
  obtain⟨Dm,kk,hTD,hkk,hown⟩:=hI.m
  have c5:=hI.k5.cell 0
  dsimp only[List.getElem?_cons_zero] at c5
  have HI:=Lib.hid hI
  clear hsz hN hNb hst hI hmm
  gi_wp2_with fail
  refine⟨trivial,(keysT _ _ _).mono ?_⟩
  rintro e w' ⟨rfl,rfl⟩
  have hsz:Maps.size Dm≤(places s).length*1048576:=Nat.le_trans hown.size_le hkk
  have hkeys:=fun (ss:List Int) (hp:ss.Perm (intKeys Dm))=>hTD.keys (fun es e p hp=>by
   obtain⟨es',he,hall⟩:=hown.keysOf
   rw[he] at e
   cases e
   obtain⟨v,hv⟩:=hall p hp
   obtain⟨y,_,h2,_⟩:=Maps.keyOf_i64 Tryz.underlying3 hv
   exact⟨y,h2⟩) hpos hp
  have HS:=Lib.hid (sortedT 6 (by omega) bm kk Dm W hown (by unfold maxLen;omega) (by omega))
  have HTD:=Lib.hid hTD
  have HOw:=Lib.hid hown
  have HKeys:=Lib.hid hkeys
  have HCle:=Lib.hid hcle
  obtain⟨F,hF⟩:∃F,(List.range T.scripts.length).filter (fun j=>0<cntN T s (places s) j)=F:=⟨_,rfl⟩
  have hFl:F.length≤T.scripts.length:=by rw[←hF];exact Nat.le_trans (List.length_filter_le _ _) (by rw[List.length_range];exact Nat.le_refl _)
  have hFb:∀j∈F,j<T.scripts.length:=fun j hj=>by rw[←hF,List.mem_filter,List.mem_range] at hj;exact hj.1
  have HSh:=Lib.hid (sharesL_eq T s hF)
  have HFb:=Lib.hid hFb
  have HF2:=Lib.hid hF
  clear hsz hkeys hTD hkk hpos hcle hown hF hFb
  gi_wp2_with fail
  refine⟨trivial,HS.out.mono ?_⟩
  rintro e W2 ⟨v,ss,rfl,hperm,hrow,_,hB2⟩
  have hk2:=HKeys.out ss hperm
  rw[HF2.out] at hk2
  have hln:ss.length=F.length:=by
   have h1:=congrArg List.length hk2
   rw[List.length_mergeSort,List.length_map] at h1
   exact h1
  rw[hk2,hln] at hrow
  have hrow2:W2.ownsRow (W.alloc (.cells #[.map (some bm)] 131)).heap.size 3 1 v F.length (iV (F.map fun (j:Nat)=>(j:Int))):=hrow
  obtain⟨so,sc,rfl,hsc,hscm,hsrd,hsoo⟩:=own_rd hrow2
  have hA:Below W.heap.size W (W.alloc (.cells #[.map (some bm)] 131)):=(Below.refl _ _).alloc (Nat.le_refl _) _
  have hBW2:=hA.trans (hB2.mono hA.size)
  have HRd:=Lib.hid hsrd
  have HB2W:=Lib.hid hBW2
  have HOw2:=Lib.hid (ownsMap_below HOw.out hBW2)
  have HC5:=Lib.hid (cell_bel hBW2 c5)
  have HDk:Hid (W2.heap[D]?=some (.deferred (some []))):=Lib.hid ((hBW2.block D (lt_of_block hK)).trans hK)
  have HBw:=Lib.hid (HI.out.B.trans (hBW2.mono HI.out.B.size))
  have HHd:=Lib.hid hD
  obtain⟨i0_,hi_,hz0,hz1,hz2⟩:=info_parts info_share
  have HIn:=Lib.hid (And.intro hi_ (And.intro hz0 (And.intro hz1 hz2)))
  clear hi_ hz0 hz1 hz2 hrow hrow2 hk2 hln hsrd hsoo hA hB2 hBW2 c5 HS HKeys HF2 HOw hperm hK hD
  gi_wp2_with fail
  gi_loopw [43,12] (fun v43 v12 wr=>∃k:Nat,v43=.int .i64 k∧k≤F.length∧Hid (Below W2.heap.size W2 wr)∧Hid (wr.ownsRow W2.heap.size 85 2 v12 k ((F.take k).flatMap fun j=>shV (j,cntN T s (places s) j)))) (fun v43 _ _=>F.length - (intOf v43).toNat)
  case atStart=>exact⟨0,rfl,Nat.zero_le _,Lib.hid (Below.refl _ _),Lib.hid (own_nil _ _ _ _)⟩
  case round=>
   obtain⟨k,rfl,hk,HV,HRow⟩:=hrel
   have k0:(0:Int)≤(k:Int):=Int.natCast_nonneg _
   by_cases hlk:k<F.length
   ·have k1:(k:Int)<(F.length:Int):=by omega
    obtain⟨j0,hj0⟩:∃j,F[k]=j:=⟨_,rfl⟩
    have hjb:j0<T.scripts.length:=HFb.out j0 (by rw[←hj0];exact List.getElem_mem hlk)
    have hget:(iV (F.map fun (j:Nat)=>(j:Int)))[k]?=some (.int .i64 (j0:Nat)):=by
     unfold iV
     rw[List.getElem?_map,List.getElem?_map,List.getElem?_eq_getElem hlk,hj0]
     rfl
    obtain⟨g,off,ho,hc⟩:=HRd.out k _ hget
    subst ho
    have q0:=cell_bel HV.out hc
    have hown:=ownsMap_below HOw2.out HV.out
    have hat0:=HTD.out.at_ j0
    have hkey:keyOf Tryz.prog 3 (.int .i64 (j0:Nat))=some (.int .i64 (j0:Nat)):=keyOf_int_mk Tryz.underlying3 (wf_nat (by omega))
    obtain⟨c,hrun,hat,hwc⟩:=hown.lookup_int keyed_int Tryz.underlying131 Tryz.underlying3 (zero_int wr) hkey
    have htk:(F.take (k+1)).flatMap (fun j=>shV (j,cntN T s (places s) j))=(F.take k).flatMap (fun j=>shV (j,cntN T s (places s) j))++[.int .i64 (j0:Nat),.int .i64 (cntN T s (places s) j0:Nat)]:=by
     rw[←List.take_append_getElem hlk,List.flatMap_append,hj0]
     simp[shV]
    obtain⟨q,hq⟩:∃q,cntN T s (places s) j0=q:=⟨_,rfl⟩
    rw[hq] at hat0 htk
    obtain rfl:c=(q:Int):=by rw[hat0] at hat;simpa using hat.symm
    have HTk:=Lib.hid htk
    have c5:=cell_bel HV.out HC5.out
    obtain⟨acc,hacc⟩:∃acc,(F.take k).flatMap (fun j=>shV (j,cntN T s (places s) j))=acc:=⟨_,rfl⟩
    have hrow:=HRow.out
    rw[hacc] at hrow HTk
    have hz:=HV.out.size
    obtain⟨hq1,hq2,hq3,hq4⟩:=HIn.out
    clear hat0 htk hq hkey hat hwc hown hget hc hj0 HRow hacc
    gi_wp2_with (gi_at_builtin;refine wpListIn_append_own _ rfl _ _ 83 rfl W2.heap.size 85 i0_ _ 2 16 Tryz.underlying83 hq1 hq2 hq3 hq4 rfl (by decide) _ k acc rfl (hrow.alloc _) ⟨wr.heap.size,0,none⟩ 1 1 [.int .i64 (j0:Nat),.int .i64 (q:Nat)] rfl rfl (new_cells _ _ (by simp) [.int .i64 (j0:Nat),.int .i64 (q:Nat)] _) (by simp[Value.oneCell']) (by unfold maxLen;omega) (by omega) (by simp;omega) ?_;intro v' w4 hown' hgrow _)
    exact⟨⟨k+1,by go_num,by omega,Lib.hid ((HV.out.alloc hz _).grown hgrow (by simp;omega) (fun b e=>by have:=(hrow.lt b e).1;omega)),Lib.hid (by rw[HTk.out];exact hown')⟩,by simp[intOf];omega⟩
   ·obtain rfl:k=F.length:=by omega
    have hrow:=HRow.out
    rw[List.take_length,show F.flatMap (fun j=>shV (j,cntN T s (places s) j))=(sharesL T s).flatMap shV by rw[HSh.out,List.flatMap_map],show F.length=(sharesL T s).length by rw[HSh.out,List.length_map]] at hrow
    have HRo:=Lib.hid hrow
    have HWl:=Lib.hid (HBw.out.trans (HV.out.mono HBw.out.size))
    have HD2:Hid (wr.heap[D]?=some (.deferred (some []))):=Lib.hid ((HV.out.block D (lt_of_block HDk.out)).trans HDk.out)
    clear hrow HRow HV hk hlk
    gi_wp2_with fail
    refine⟨by simp,.inl ⟨_,_,rfl,run_takeDeferred HD2.out,?_⟩⟩
    refine⟨u12,?_,u12,rfl,own_base (grown_own HRo.out (grownBy_putObj' _ D (.deferred none)) (fun r e=>by cases e;exact⟨_,HD2.out,rfl⟩)) HBw.out.size,HWl.out.trans (belowK_b (w:=w) (Nat.le_refl _) _ D _ _ (by have h1:=HHd.out;have h2:=HN.out;omega) HD2.out rfl rfl)⟩
    simp[results,Tryz.results38,go_sem]
 case stop=>
  rintro D c pre W hD hpre hx hK
  exact hx.elim
end Go.Proofs.YtioehfhdoohdmaaGreatDoor
