/- Apart of a book of lists (guise/script.Share), walked. Printed by gen_book6.py. -/
import Derived.Test.YtioehfhdoohdmaaGreatDoorBookShareA
set_option linter.unusedVariables false
set_option linter.unusedSimpArgs false
namespace Go.Proofs.YtioehfhdoohdmaaGreatDoor.bookShare
open Go.RowKit Go.Shelf
set_option maxRecDepth 100000 in
set_option maxHeartbeats 4000000 in
theorem apart_any (W:World) (B0 B1 bk:Nat) (ao:Option Addr) (g off cap:Nat) (ao':Option Addr) (g' off' cap':Nat) (es:List Ent) (held:Int) (hb:Blk W bk [.slice ao es.length cap,.slice ao' es.length cap',.int .i64 held,.bool false] 89)
 (hl:Lists W B0 B1 bk ao g off cap ao' g' off' cap' es) :
 Calls Tryz.prog 41 #[.pointer (some ⟨bk,0,none⟩),.func (.func 42) #[] #[]] W fun e w'=>e=.returned (.bool true)∧Below B0 W w':=by
 have hst:=stays_any W B0 B1 bk ao g off cap ao' g' off' cap' es held hb hl
 have HST:=Lib.hid hst
 have HL:=Lib.hid hl
 have hfew:=hl.few
 have hbB:=hl.bkB
 have hBW:B0≤W.heap.size:=by have:=hb.lt;omega
 have hent:∀e∈es,∀k,blkOf e.o=some k→B0≤k∧k≠bk∧some k≠blkOf ao:=fun e he k hk=>by have q:=hl.ent e he k (Or.inl hk);exact⟨q.1,q.2.2.1,q.2.2.2.1⟩
 have hle:∀i (h:i<es.length),es[i].xs.length≤es[i].c∧es[i].c≤maxLen:=fun i h=>(hl.own es[i] (List.getElem_mem h)).1.le
 have HENT:=Lib.hid hent
 have HAP:=Lib.hid hl.apart
 have HLE:=Lib.hid hle
 clear hst hl hb hent hle
 go_enter Tryz.func41,Tryz.ntmps41
 go_wp2_with fail
 refine Calls.mono HST.out ?_
 rintro e w1 ⟨rfl,hb1,hk1⟩
 have hB1w:Below B0 W w1:=hk1.below fun k hk=>⟨by omega,by omega⟩
 have hw:=Wr.start hb1 (HL.out.keep hk1.size fun k _ hne hkl=>hk1.block k hkl hne) hB1w
 clear hb1 hk1 hB1w
 go_wp2_with fail
 go_loopw [5] (fun v5 wr=>∃i:Nat,v5=.int .i64 i∧i≤es.length∧Wr W wr B0 bk ao g off cap ao' cap' es held i 0) (fun v5 _=>es.length - (intOf v5).toNat)
 case atStart=>exact⟨0,rfl,Nat.zero_le _,hw⟩
 case round=>
  clear hw
  obtain⟨i,rfl,hi,hw⟩:=hrel
  have i0:(0:Int)≤(i:Int):=Int.natCast_nonneg _
  have c0:=hw.bkB.cell 0
  simp only[List.getElem?_cons_zero] at c0
  by_cases hlt:i<es.length
  ·have i1:(i:Int)<(es.length:Int):=by omega
   have hao:=hw.L.addr (by have:=hw.L.le;omega)
   subst hao
   have d1:wr.cell? ⟨g,off+i,none⟩=some es[i].v:=hw.L.olds i _ (by rw[List.getElem?_map,List.getElem?_eq_getElem hlt];rfl)
   simp only[Ent.v] at d1
   obtain⟨hlx,hcm⟩:=HLE.out i hlt
   have hcm':es[i].c≤9223372036854775807:=hcm
   have hnext:=fun (wx:World) (h:Wr W wx B0 bk (some ⟨g,off,none⟩) g off cap ao' cap' es held i es[i].c)=>h.next hlt
   have hfull:∀(m:Nat) (wx:World),Wr W wx B0 bk (some ⟨g,off,none⟩) g off cap ao' cap' es held i m→Full wx es[i].o es[i].c m i:=fun m wx h=>by
    have:=h.full i hlt
    unfold cntOf at this
    rw[if_neg (by omega),if_pos rfl] at this
    exact this
   have hput:∀(j:Nat) (wx w':World) (gl:Nat) (vs:List Value),Wr W wx B0 bk (some ⟨g,off,none⟩) g off cap ao' cap' es held i j→j<es[i].c→es[i].o=some ⟨gl,0,none⟩→Blk wx gl vs 85→Blk w' gl (sets vs i j) 85→Keep (fun k=>k=gl) wx w'→Wr W w' B0 bk (some ⟨g,off,none⟩) g off cap ao' cap' es held i (j+1):=
    fun j wx w' gl vs h1 h2 h3 h4 h5 h6=>h1.put hlt h2 HENT.out HAP.out h3 h4 h5 h6
   have hf0:=hfull 0 wr hw
   have HN:=Lib.hid hnext
   have HF:=Lib.hid hfull
   have HP:=Lib.hid hput
   clear hnext hfull hput hcm
   generalize es[i].xs.length=xn at *
   generalize es[i].c=ec at *
   generalize es[i].o=eo at *
   rcases hf0 with ⟨rfl,rfl⟩ | ⟨gl,vs,rfl,_,_,_,_⟩
   ·obtain rfl:xn=0:=by omega
    have hBr:B0≤wr.heap.size:=by have:=hw.bel.size;omega
    have hw2:=fun n=>hw.below (w':=wr.drewN n) ⟨rfl,rfl,rfl,Nat.le_refl _,fun _ _=>rfl⟩ hBr
    clear hw
    go_wp2_with fail
    go_quiet (fail)
    go_wp2_with fail
    go_loopw [7] (fun v7 wx=>v7=.int .i64 0∧Wr W wx B0 bk (some ⟨g,off,none⟩) g off cap ao' cap' es held i 0) (fun _ _=>0)
    case atStart=>exact⟨rfl,hw2 _⟩
    case round=>
     obtain⟨rfl,hwx⟩:=hrel
     go_wp2_with fail
     exact⟨⟨i+1,by go_num,by omega,HN.out _ hwx⟩,by simp[intOf];omega⟩
   ·have hBr:B0≤wr.heap.size:=by have:=hw.bel.size;omega
    have hw2:=fun n=>hw.below (w':=wr.drewN n) ⟨rfl,rfl,rfl,Nat.le_refl _,fun _ _=>rfl⟩ hBr
    have x0:(0:Int)≤(ec:Int):=Int.natCast_nonneg _
    clear hw
    go_wp2_with fail
    go_quiet (fail)
    go_wp2_with fail
    go_loopw [7] (fun v7 wx=>∃j:Nat,v7=.int .i64 j∧j≤ec∧Wr W wx B0 bk (some ⟨g,off,none⟩) g off cap ao' cap' es held i j) (fun v7 _=>ec - (intOf v7).toNat)
    case atStart=>exact⟨0,rfl,Nat.zero_le _,hw2 _⟩
    case round=>
     clear hw2 c0 d1
     obtain⟨j,rfl,hj,hwx⟩:=hrel
     have j0:(0:Int)≤(j:Int):=Int.natCast_nonneg _
     by_cases hjl:j<ec
     ·have j1:(j:Int)<(ec:Int):=by omega
      have hf:=HF.out j _ hwx
      rcases hf with ⟨e1,_⟩ | ⟨g2,vs2,e1,hv2,hvl,_,_⟩
      ·cases e1
      ·simp only[Option.some.injEq,Addr.mk.injEq] at e1
       obtain⟨rfl,_⟩:=e1
       have hle:(j+1)*2≤ec*2:=Nat.mul_le_mul_right 2 hjl
       rw[Nat.succ_mul] at hle
       have HMK:=fun W=>mark_any i j (by omega) W
       have HM:=Lib.hid HMK
       obtain⟨u0,y0⟩:∃u,vs2[j*2]?=some u:=⟨_,List.getElem?_eq_getElem (by omega)⟩
       obtain⟨u1,y1⟩:∃u,vs2[j*2+1]?=some u:=⟨_,List.getElem?_eq_getElem (by omega)⟩
       have HVL:=Lib.hid hvl
       clear HMK hle hvl
       go_wp2_with fail
       refine Calls.mono (HM.out _) ?_
       rintro e w3 ⟨rfl,hB3⟩
       have hbl:=hv2.keep (Keep.of_below hB3 (fun _=>False)) (by simp)
       have c0:=(hbl.cell (j*2)).trans y0
       have c1:=(hbl.cell (j*2+1)).trans y1
       have f0:=hbl.frozen (j*2)
       have f1:=hbl.frozen (j*2+1)
       go_wp2_with fail
       exact⟨⟨j+1,by go_num,by omega,HP.out j _ _ gl vs2 hwx hjl rfl hv2 ((hbl.set (j*2) (.int .i64 (-1 - (i:Int)))).set (j*2+1) (.int .i64 (j:Int))) (((Keep.of_below hB3 (fun k=>k=gl)).setCell (p:=⟨gl,j*2,none⟩) (fun _=>rfl) _).setCell (p:=⟨gl,j*2+1,none⟩) (fun _=>rfl) _)⟩,by simp[intOf];omega⟩
     ·obtain rfl:j=ec:=by omega
      clear hj hjl j0
      go_wp2_with fail
      exact⟨⟨i+1,by go_num,by omega,HN.out _ hwx⟩,by simp[intOf];omega⟩
  ·obtain rfl:i=es.length:=by omega
   clear hi hlt i0
   go_wp2_with fail
   go_loopw [8] (fun v8 wr2=>∃i:Nat,v8=.int .i64 i∧i≤es.length∧Wr W wr2 B0 bk ao g off cap ao' cap' es held es.length 0) (fun v8 _=>es.length - (intOf v8).toNat)
   case atStart=>exact⟨0,rfl,Nat.zero_le _,hw⟩
   case round=>
    clear hw c0
    obtain⟨i,rfl,hi,hw⟩:=hrel
    have i0:(0:Int)≤(i:Int):=Int.natCast_nonneg _
    have c0:=hw.bkB.cell 0
    simp only[List.getElem?_cons_zero] at c0
    by_cases hlt:i<es.length
    ·have i1:(i:Int)<(es.length:Int):=by omega
     have hao:=hw.L.addr (by have:=hw.L.le;omega)
     subst hao
     have d1:wr.cell? ⟨g,off+i,none⟩=some es[i].v:=hw.L.olds i _ (by rw[List.getElem?_map,List.getElem?_eq_getElem hlt];rfl)
     simp only[Ent.v] at d1
     obtain⟨hlx,hcm⟩:=HLE.out i hlt
     have hcm':es[i].c≤9223372036854775807:=hcm
     have hfull:∀(wx:World),Wr W wx B0 bk (some ⟨g,off,none⟩) g off cap ao' cap' es held es.length 0→Full wx es[i].o es[i].c es[i].c i:=fun wx h=>by
      have:=h.full i hlt
      unfold cntOf at this
      rw[if_pos hlt] at this
      exact this
     have hf0:=hfull wr hw
     have HF:=Lib.hid hfull
     have hBr:B0≤wr.heap.size:=by have:=hw.bel.size;omega
     have hw2:=fun n=>hw.below (w':=wr.drewN n) ⟨rfl,rfl,rfl,Nat.le_refl _,fun _ _=>rfl⟩ hBr
     clear hfull hcm hw
     generalize es[i].xs.length=xn at *
     generalize es[i].c=ec at *
     generalize es[i].o=eo at *
     rcases hf0 with ⟨rfl,rfl⟩ | ⟨gl,vs,rfl,_,_,_,_⟩
     ·obtain rfl:xn=0:=by omega
      go_wp2_with fail
      go_quiet (fail)
      go_wp2_with fail
      go_loopw [10] (fun v10 wx=>v10=.int .i64 0∧Wr W wx B0 bk (some ⟨g,off,none⟩) g off cap ao' cap' es held es.length 0) (fun _ _=>0)
      case atStart=>exact⟨rfl,hw2 _⟩
      case round=>
       obtain⟨rfl,hwx⟩:=hrel
       go_wp2_with fail
       exact⟨⟨i+1,by go_num,by omega,hwx⟩,by simp[intOf];omega⟩
     ·have x0:(0:Int)≤(ec:Int):=Int.natCast_nonneg _
      go_wp2_with fail
      go_quiet (fail)
      go_wp2_with fail
      go_loopw [10] (fun v10 wx=>∃j:Nat,v10=.int .i64 j∧j≤ec∧Wr W wx B0 bk (some ⟨g,off,none⟩) g off cap ao' cap' es held es.length 0) (fun v10 _=>ec - (intOf v10).toNat)
      case atStart=>exact⟨0,rfl,Nat.zero_le _,hw2 _⟩
      case round=>
       clear hw2 c0 d1
       obtain⟨j,rfl,hj,hwx⟩:=hrel
       have j0:(0:Int)≤(j:Int):=Int.natCast_nonneg _
       by_cases hjl:j<ec
       ·have j1:(j:Int)<(ec:Int):=by omega
        rcases HF.out _ hwx with ⟨e1,_⟩ | ⟨g2,vs2,e1,hbl,_,_,hmk0⟩
        ·cases e1
        ·simp only[Option.some.injEq,Addr.mk.injEq] at e1
         obtain⟨rfl,_⟩:=e1
         have hmk:=fun k hk=>hmk0 j k hjl hk
         have HMK:=fun W=>mark_any i j (by omega) W
         have HM:=Lib.hid HMK
         have r0:wr.cell? ⟨gl,j*2,none⟩=some (.int .i64 (-1 - (i:Int))):=(hbl.cell (j*2)).trans (hmk 0 (by omega))
         have r1:wr.cell? ⟨gl,j*2+1,none⟩=some (.int .i64 (j:Int)):=(hbl.cell (j*2+1)).trans (hmk 1 (by omega))
         have hB5:Below wr.heap.size wr wr:=Below.refl _ _
         have hgl:=hbl.lt
         have hBr2:B0≤wr.heap.size:=by have:=hwx.bel.size;omega
         clear HMK hmk hmk0 hbl
         go_wp2_with fail
         go_region_held3 (fun w'=>w'.cell? ⟨gl,j*2,none⟩=some (.int .i64 (-1 - (i:Int)))∧w'.cell? ⟨gl,j*2+1,none⟩=some (.int .i64 (j:Int))∧Below wr.heap.size wr w')
          (first
           | (go_split_ands;refine⟨?_,?_,?_⟩ <;> first | assumption | (exact Below.drew (by assumption)))
           | (go_split_ands;refine⟨?_,?_,?_⟩ <;> first | (exact (hBw.cell (by have hsz:=(‹Below wr.heap.size wr _›).size;dsimp only;omega)).trans (by assumption)) | (exact (‹Below wr.heap.size wr _›).trans (hBw.mono (‹Below wr.heap.size wr _›).size))))
          (first | (go_at_call 42;refine Calls.mono (HM.out _) ?_;rintro e w' ⟨rfl,hBw⟩))
         all_goals
          rename_i hh
          obtain⟨_,_,hBz⟩:=hh
          have hw3:=hwx.below hBz hBr2
          clear hwx
          go_wp2_with fail
          exact⟨⟨j+1,by go_num,by omega,hw3⟩,by simp[intOf];omega⟩
       ·obtain rfl:j=ec:=by omega
        clear hj hjl j0
        go_wp2_with fail
        exact⟨⟨i+1,by go_num,by omega,hwx⟩,by simp[intOf];omega⟩
    ·obtain rfl:i=es.length:=by omega
     clear hi hlt i0
     have c1:=hw.bkB.cell 1
     have c2:=hw.bkB.cell 2
     have f0:=hw.bkB.frozen 0
     have f1:=hw.bkB.frozen 1
     have f2:=hw.bkB.frozen 2
     simp only[List.getElem?_cons_zero,List.getElem?_cons_succ] at c1 c2
     have hbel:=hw.bel
     clear hw
     go_wp2_with fail
     go_ret
     exact⟨rfl,((hbel.setCell (p:=⟨bk,0,none⟩) hbB.1 _).setCell (p:=⟨bk,1,none⟩) hbB.1 _).setCell (p:=⟨bk,2,none⟩) hbB.1 _⟩
end Go.Proofs.YtioehfhdoohdmaaGreatDoor.bookShare
