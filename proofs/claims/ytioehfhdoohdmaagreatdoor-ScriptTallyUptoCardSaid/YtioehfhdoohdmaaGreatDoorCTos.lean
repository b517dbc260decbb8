/- (*tables.check).tos, walked. Printed by gen_ctos.py. -/
import Derived.Test.YtioehfhdoohdmaaGreatDoorChkA
import Derived.Test.YtioehfhdoohdmaaGreatDoorOfA
import Derived.Lib.Walk
set_option linter.unusedVariables false
set_option linter.unusedSimpArgs false
namespace Go.Proofs.YtioehfhdoohdmaaGreatDoor
open Go.RowKit Go.Shelf BigFrame
theorem rsGo_from {s:ByteArray}:∀(n i:Nat) (acc:List Int),s.size - i≤n→rsGo s n i acc=(rsGo s (s.size - i) i []).map (acc++·):=by
 intro n
 induction n using Nat.strongRecOn with
 | ind n ih=>
  intro i acc h
  by_cases hi:i<s.size
  ·obtain⟨m,rfl⟩:∃m,n=m+1:=⟨n - 1,by omega⟩
   obtain⟨d,hd⟩:∃d,s.size - i=d+1:=⟨s.size - i - 1,by omega⟩
   have hw:=dec_width s i
   rw[hd,rsGo,rsGo,if_pos hi,if_pos hi]
   by_cases g:goodAt s i=true
   ·rw[if_pos g,if_pos g,ih m (by omega) _ _ (by omega),ih d (by omega) _ _ (by omega),Option.map_map]
    congr 1
    funext l
    simp
   ·rw[if_neg g,if_neg g];rfl
  ·rw[rsGo_end (by omega),rsGo_end (by omega)];simp
def runesAt (s:ByteArray) (p:Nat):Option (List Int):=rsGo s (s.size - p) p []
theorem runesAt_start {s:ByteArray}(h:(runesO s).isSome=true):runesAt s 0=some (rnL s):=by
 unfold runesAt rnL
 rw[Nat.sub_zero]
 show runesO s=_
 cases e:runesO s with
 | none=>rw[e] at h;cases h
 | some l=>rfl
theorem runesAt_step {s:ByteArray}{p:Nat}{l:List Int}(h:runesAt s p=some l) (hp:p<s.size):goodAt s p=true∧∃t,l=((Utf8.decode s p).1:Int)::t∧runesAt s (p+(Utf8.decode s p).2)=some t:=by
 have hw:=dec_width s p
 unfold runesAt at h
 obtain⟨d,hd⟩:∃d,s.size - p=d+1:=⟨s.size - p - 1,by omega⟩
 rw[hd,rsGo,if_pos hp] at h
 by_cases g:goodAt s p=true
 ·rw[if_pos g,rsGo_from d _ _ (by omega)] at h
  refine⟨g,?_⟩
  unfold runesAt
  cases e:rsGo s (s.size - (p+(Utf8.decode s p).2)) (p+(Utf8.decode s p).2) [] with
  | none=>rw[e] at h;cases h
  | some t=>rw[e] at h;cases h;exact⟨t,by simp,rfl⟩
 ·rw[if_neg g] at h;cases h
theorem runesAt_end {s:ByteArray}{p:Nat}{l:List Int}(h:runesAt s p=some l) (hp:s.size≤p):l=[]:=by
 unfold runesAt at h
 rw[rsGo_end hp] at h;cases h;rfl
theorem dec_runeB (s:ByteArray) (p:Nat):runeB ((Utf8.decode s p).1:Int)=true:=by
 rw[rune_nat]
 rcases hc_of s p with ⟨a,b⟩ | ⟨a,b,d⟩ | ⟨a,b,d⟩ | ⟨a,b,d⟩ | ⟨a,b,d,e,f⟩
 ·rw[b];dsimp only;omega
 ·have q:=lead2 b;rw[d];dsimp only;omega
 ·have q:=lead3 b;rw[d];dsimp only;rcases q.2.2 with z | z | z <;> omega
 ·have q:=lead4 b;rw[d];dsimp only;rcases q.2.2.2.2 with z | z | z <;> omega
 ·rw[f];decide
theorem MapIs.ne_cell {P:Program}{k:TypeId}{W:World}{b g o:Nat}{l:List (Value×Value)}{v:Value}(h:MapIs P k W b l) (hc:W.cell? ⟨g,o,none⟩=some v):b≠g:=by
 rintro rfl
 obtain⟨es,clock,hb,_⟩:=h
 simp[World.cell?,hb] at hc
theorem WC.iterAt {V:World}(z:WC V) {k:Nat}(hk:V.heap.size≤k) (s:ByteArray) (p:Nat):Below V.heap.size V (z.w.iterAt k s p):=
 ((Keep.of_below z.h (fun _=>False)).iterAt (by omega) s p).below fun i hi=>⟨hi,fun h=>h⟩
theorem set_maps {W:World}{M:MAddr}{T:Tab}{o:Nat}{v u:Value}(hM:MapsAt5 W M T) (hc:W.cell? ⟨M.bb,o,none⟩=some u):MapsAt5 (W.setCell ⟨M.bb,o,none⟩ v) M T:=by
 have f:∀ {k:TypeId} {b:Nat} {l:List (Value×Value)},MapIs Tryz.prog k W b l→MapIs Tryz.prog k (W.setCell ⟨M.bb,o,none⟩ v) b l:=fun h=>h.of_block (Below.heap_setCell _ _ _ _ (h.ne_cell hc))
 exact⟨f hM.m1,f hM.m2,f hM.m3,f hM.m4,f hM.m5⟩
set_option maxRecDepth 100000 in
set_option maxHeartbeats 40000000 in
theorem ctos_any (T:Tab) (a:TAddr) (M:MAddr) (W:World) (h:ChkAt W M T a) (hM:MapsAt5 W M T) (hne:M.bc≠M.bb) (u6:Value) (hc6:W.cell? ⟨M.bb,6,none⟩=some u6) (hf6:W.frozen? ⟨M.bb,6,none⟩=false) (hT1:TabAt (W.setCell ⟨M.bb,6,none⟩ (.slice a.o6 T.drops.length a.c6)) T a)
 (hk:∀m∈T.marks,m.2≠0) (hok:SpOk T.drops) (hm6:T.drops.length≤1048576) (hvf:∀x∈T.folds,(runesO x.2).isSome=true∧x.2.size≤1048576) (hvl:∀x∈T.looks,(runesO x.2).isSome=true∧x.2.size≤1048576) :
 Calls Tryz.prog 73 #[.pointer (some ⟨M.bc,0,none⟩)] W fun e w'=>e=.returned (wV (toGo (toF T) T.folds 0 (toGo (toL T T.looks) T.looks 0 (0,0,0))))∧Below W.heap.size (W.setCell ⟨M.bb,6,none⟩ (.slice a.o6 T.drops.length a.c6)) w':=by
 obtain⟨l0,l1,l2,l3,l4,l5,l6,l7⟩:=T
 obtain⟨o0,o1,o2,o3,o4,o5,o6,o7,c0,c1,c2,c3,c4,c5,c6,c7⟩:=a
 obtain⟨bc,bb,m1,m2,m3,m4,m5⟩:=M
 simp only at *
 have hbb:bb<W.heap.size:=World.block_lt_of_cell? W _ hc6
 obtain⟨W1,hW1⟩:∃W1,W.setCell ⟨bb,6,none⟩ (.slice o6 l6.length c6)=W1:=⟨_,rfl⟩
 have hz1:W1.heap.size=W.heap.size:=by rw[←hW1];simp[World.setCell]
 have hM1:=set_maps (v:=(.slice o6 l6.length c6)) hM hc6
 have hset:∀g o v,W.cell? ⟨g,o,none⟩=some v→(g≠bb∨o≠6)→W1.cell? ⟨g,o,none⟩=some v:=fun g o v hv hh=>by rw[←hW1];rw[World.cell?_setCell_other _ _ _ _ (fun e=>by injection e with e1 e2;rcases hh with q | q <;> omega)];exact hv
 have hs6:W1.cell? ⟨bb,6,none⟩=some (.slice o6 l6.length c6):=by rw[←hW1];exact World.cell?_setCell_same _ _ _ hc6
 have hBa:Below W.heap.size W (W.alloc (.cells #[.int .i64 0,.int .i64 0,.int .i64 0] 100)):=(Below.refl _ W).alloc (Nat.le_refl _) _
 have e8:(W.alloc (.cells #[.int .i64 0,.int .i64 0,.int .i64 0] 100)).cell? ⟨bc,8,none⟩=some (.pointer (some ⟨bb,0,none⟩)):=cell_bel hBa h.p
 have e6:(W.alloc (.cells #[.int .i64 0,.int .i64 0,.int .i64 0] 100)).cell? ⟨bc,6,none⟩=some (.slice o6 l6.length c6):=cell_bel hBa (h.c 6 (.slice o6 l6.length c6) rfl)
 have eb:(W.alloc (.cells #[.int .i64 0,.int .i64 0,.int .i64 0] 100)).cell? ⟨bb,6,none⟩=some u6:=cell_bel hBa hc6
 have ef:(W.alloc (.cells #[.int .i64 0,.int .i64 0,.int .i64 0] 100)).frozen? ⟨bb,6,none⟩=false:=(hBa.frozen hbb).trans hf6
 obtain⟨W0,hW0⟩:∃W0,((W.setCell ⟨bb,6,none⟩ (.slice o6 l6.length c6)).alloc (.cells #[.int .i64 0,.int .i64 0,.int .i64 0] 100)).drew=W0:=⟨_,rfl⟩
 have hA0:Blk W0 W1.heap.size [.int .i64 0,.int .i64 0,.int .i64 0] 100:=by rw[←hW0,hW1];exact (Blk.new' W1 #[.int .i64 0,.int .i64 0,.int .i64 0] 100).drew
 have hB2:Below W1.heap.size W1 W0:=by rw[←hW0,hW1];exact ((Below.refl _ W1).alloc (Nat.le_refl _) _).drew
 have hcb:∀g o v,W.cell? ⟨g,o,none⟩=some v→(g≠bb∨o≠6)→W0.cell? ⟨g,o,none⟩=some v:=fun g o v hv hh=>cell_bel hB2 (hset g o v hv hh)
 rw[hW1] at hM1 hT1 ⊢
 rw[←hz1]
 have HW0:=Lib.hid hW0
 have HB:=Lib.hid hB2
 have HA:=Lib.hid hA0
 have HZ:Hid (W1.heap.size<W0.heap.size):=Lib.hid hA0.lt
 have hMM:=hM1.below hB2
 have a0:∀y:WC W0,y.w.cell? ⟨W1.heap.size,0,none⟩=some (.int .i64 0):=WC.cell (hA0.cell 0)
 have f0:∀y:WC W0,y.w.frozen? ⟨W1.heap.size,0,none⟩=false:=WC.frozen (hA0.cell 0) (hA0.frozen 0)
 have a1:∀y:WC W0,y.w.cell? ⟨W1.heap.size,1,none⟩=some (.int .i64 0):=WC.cell (hA0.cell 1)
 have f1:∀y:WC W0,y.w.frozen? ⟨W1.heap.size,1,none⟩=false:=WC.frozen (hA0.cell 1) (hA0.frozen 1)
 have a2:∀y:WC W0,y.w.cell? ⟨W1.heap.size,2,none⟩=some (.int .i64 0):=WC.cell (hA0.cell 2)
 have f2:∀y:WC W0,y.w.frozen? ⟨W1.heap.size,2,none⟩=false:=WC.frozen (hA0.cell 2) (hA0.frozen 2)
 have t4:∀y:WC W0,y.w.cell? ⟨bc,4,none⟩=some (.slice o4 l4.length c4):=WC.cell (hcb _ _ _ (h.c 4 (.slice o4 l4.length c4) rfl) (Or.inl hne))
 have m4x:l4.length≤9223372036854775807:=hT1.m4
 have HL4:=Lib.hid (hT1.folds.below hB2)
 have t5:∀y:WC W0,y.w.cell? ⟨bc,5,none⟩=some (.slice o5 l5.length c5):=WC.cell (hcb _ _ _ (h.c 5 (.slice o5 l5.length c5) rfl) (Or.inl hne))
 have m5x:l5.length≤9223372036854775807:=hT1.m5
 have HL5:=Lib.hid (hT1.looks.below hB2)
 have t8:∀y:WC W0,y.w.cell? ⟨bc,8,none⟩=some (.pointer (some ⟨bb,0,none⟩)):=WC.cell (hcb _ _ _ h.p (Or.inl hne))
 have q1:∀y:WC W0,y.w.cell? ⟨bb,8,none⟩=some (.map (some m1)):=WC.cell (hcb _ _ _ h.q1 (Or.inr (by decide)))
 have q2:∀y:WC W0,y.w.cell? ⟨bb,9,none⟩=some (.map (some m2)):=WC.cell (hcb _ _ _ h.q2 (Or.inr (by decide)))
 have q3:∀y:WC W0,y.w.cell? ⟨bb,10,none⟩=some (.map (some m3)):=WC.cell (hcb _ _ _ h.q3 (Or.inr (by decide)))
 have q4:∀y:WC W0,y.w.cell? ⟨bb,11,none⟩=some (.map (some m4)):=WC.cell (hcb _ _ _ h.q4 (Or.inr (by decide)))
 have q5:∀y:WC W0,y.w.cell? ⟨bb,12,none⟩=some (.map (some m5)):=WC.cell (hcb _ _ _ h.q5 (Or.inr (by decide)))
 have hs60:=cell_bel hB2 hs6
 have hL6:=hT1.drops.below hB2
 have HPn:Hid (∀(r:Int) (hr:runeB r=true) (U:World),Below W0.heap.size W0 U→Calls Tryz.prog 107 #[.pointer (some ⟨bb,0,none⟩),.int .i32 r] U fun e w'=>e=.returned (.bool (plainB ⟨l0,l1,l2,l3,l4,l5,l6,l7⟩ r))∧Below U.heap.size U w'):=Lib.hid (fun r hr U hU=>bplain_any ⟨l0,l1,l2,l3,l4,l5,l6,l7⟩ o6 c6 bb m1 m2 m4 r (i32_of hr) U (cell_bel hU hs60) (q1 ⟨U,hU⟩) (q2 ⟨U,hU⟩) (q4 ⟨U,hU⟩) (hL6.below hU) hm6 hok (hMM.m1.keep hU) (hMM.m2.keep hU) (hMM.m4.keep hU) hk)
 have HLl:Hid (∀(r:Int) (hr:runeB r=true) (U:World),Below W0.heap.size W0 U→(Instr.lookup 124 (.map (some m5)) (.int .i32 r) true).run Tryz.prog U=.ok (.tuple #[.string (mapA l5 r),.bool (mapO l5 r).isSome]) U):=Lib.hid (fun r hr U hU=>look_map (hMM.m5.keep hU) (i32_of hr))
 have HVf:=Lib.hid hvf
 have HVl:=Lib.hid hvl
 have HWr:Hid (∀(a b c:Int) (U:World),Calls Tryz.prog 99 #[.int .i64 a,.int .i64 b,.int .i64 c] U fun e w'=>e=.returned (.agg #[.int .i64 a,.int .i64 b,.int .i64 c])∧Below U.heap.size U w'):=Lib.hid (fun a b c U=>twrong_any a b c U)
 clear hvf hvl hk hok hL6 hs60 hMM hcb hB2 hA0 hBa hs6 hset hM1 hW1 hT1 hM h hm6 hc6 hf6 hne hW0
 obtain⟨TT,hTT⟩:∃TT:Tab,TT=⟨l0,l1,l2,l3,l4,l5,l6,l7⟩:=⟨_,rfl⟩
 obtain⟨R,hR⟩:∃R,toGo (toF ⟨l0,l1,l2,l3,l4,l5,l6,l7⟩) l4 0 (toGo (toL ⟨l0,l1,l2,l3,l4,l5,l6,l7⟩ l5) l5 0 (0,0,0))=R:=⟨_,rfl⟩
 rw[hR]
 rw[←hTT] at hR HPn
 have HF:=Lib.hid hR
 clear hR hTT
 obtain⟨fn,hfn,Hres⟩:∃fn,Tryz.f73=fn∧Hid (fn.results=#[.cell 2 100]):=⟨_,rfl,Lib.hid Tryz.results73⟩
 go_enter Tryz.func73,Tryz.ntmps73
 rw[hfn]
 clear hfn
 go_upto_region 1 with fail
 try dsimp only
 go_big_region
 all_goals (refine ?hJ)
 rw[HW0.out,←hz1]
 clear HW0 e8 e6 eb ef hz1 hbb
 obtain⟨y,hy⟩:∃y:WC W0,y.w=W0:=⟨WC.of W0,rfl⟩
 conv=>arg 5;rw[←hy]
 clear hy
 go_wp2_with fail
 go_loopw [31] (fun v31 wr=>∃(i:Nat) (y:WC W0),v31=.int .i64 i∧i≤l4.length∧Hid (toGo (toF TT) (l4.drop i) i (toGo (toL TT l5) l5 0 (0,0,0))=R)∧wr=y.w) (fun v31 _=>l4.length - (intOf v31).toNat)
 case atStart=>exact⟨0,y,rfl,Nat.zero_le _,HF,rfl⟩
 case round=>
  clear HF
  obtain⟨i,y,rfl,hi,HF,rfl⟩:=hrel
  have i0:(0:Int)≤(i:Int):=Int.natCast_nonneg _
  by_cases hlt:i<l4.length
  ·have i1:(i:Int)<(l4.length:Int):=by omega
   obtain⟨g,off,ho,hg,c0,c1,cz⟩:=HL4.out i hlt
   subst ho
   have HF1:=Lib.hid (toGo_step hlt HF.out)
   obtain⟨hxv,hxs⟩:=HVf.out l4[i] (List.getElem_mem hlt)
   generalize l4[i]=x at *
   have e0:=fun y:WC W0=>y.cell c0
   have e1:=fun y:WC W0=>y.cell c1
   clear HF c0 c1 cz
   go_upto_region 5 with fail
   have bX:=Blk.new' y.w #[.int .i32 x.1,.string x.2] 143
   have HV1:Hid (Below W0.heap.size W0 (y.w.alloc (.cells #[.int .i32 x.1,.string x.2] 143))):=Lib.hid (y.h.alloc y.h.size _)
   obtain⟨V,hV⟩:∃V,y.w.alloc (.cells #[.int .i32 x.1,.string x.2] 143)=V:=⟨_,rfl⟩
   rw[hV] at bX HV1 ⊢
   obtain⟨bx,hbx⟩:∃b,y.w.heap.size=b:=⟨_,rfl⟩
   rw[hbx] at bX ⊢
   clear hV hbx
   have x0:∀z:WC V,z.w.cell? ⟨bx,0,none⟩=some (.int .i32 x.1):=WC.cell (bX.cell 0)
   have x1:∀z:WC V,z.w.cell? ⟨bx,1,none⟩=some (.string x.2):=WC.cell (bX.cell 1)
   have HUp:Hid (∀z:WC V,Below W0.heap.size W0 z.w):=Lib.hid (fun z=>HV1.out.trans (z.h.mono HV1.out.size))
   have a0z:∀z:WC V,z.w.cell? ⟨W1.heap.size,0,none⟩=some (.int .i64 0):=fun z=>a0 ⟨z.w,HUp.out z⟩
   have a1z:∀z:WC V,z.w.cell? ⟨W1.heap.size,1,none⟩=some (.int .i64 0):=fun z=>a1 ⟨z.w,HUp.out z⟩
   have a2z:∀z:WC V,z.w.cell? ⟨W1.heap.size,2,none⟩=some (.int .i64 0):=fun z=>a2 ⟨z.w,HUp.out z⟩
   have f0z:∀z:WC V,z.w.frozen? ⟨W1.heap.size,0,none⟩=false:=fun z=>f0 ⟨z.w,HUp.out z⟩
   have f1z:∀z:WC V,z.w.frozen? ⟨W1.heap.size,1,none⟩=false:=fun z=>f1 ⟨z.w,HUp.out z⟩
   have f2z:∀z:WC V,z.w.frozen? ⟨W1.heap.size,2,none⟩=false:=fun z=>f2 ⟨z.w,HUp.out z⟩
   have t8z:∀z:WC V,z.w.cell? ⟨bc,8,none⟩=some (.pointer (some ⟨bb,0,none⟩)):=fun z=>t8 ⟨z.w,HUp.out z⟩
   clear bX HV1
   obtain⟨z,hz⟩:∃z:WC V,z.w=V:=⟨WC.of V,rfl⟩
   conv=>arg 5;rw[←hz]
   clear hz
   go_wp2_with fail
   have hit:Itr (z.w.iter x.2 0) z.w.heap.size x.2 0:=Itr.new z.w x.2 0
   have hkk:=z.h.size
   obtain⟨z1,hz1⟩:∃z1:WC V,z1.w=(z.w.iter x.2 0):=⟨⟨_,z.h.alloc z.h.size _⟩,rfl⟩
   conv=>arg 5;rw[←hz1]
   rw[←hz1] at hit
   clear hz1
   obtain⟨kk,hkq⟩:∃kk,z.w.heap.size=kk:=⟨_,rfl⟩
   rw[hkq] at hit hkk ⊢
   clear hkq
   have HRa:=Lib.hid (runesAt_start hxv)
   go_loopg [] x.2.size (fun f wr=>∃(p j:Nat) (lr:List Int) (z:WC V),p≤x.2.size∧x.2.size - p≤f∧Hid (runesAt x.2 p=some lr)∧Hid (scan (toF TT i) lr j (toGo (toF TT) (l4.drop (i+1)) (i+1) (toGo (toL TT l5) l5 0 (0,0,0)))=R)∧Itr z.w kk x.2 p∧wr=z.w)
   case atStart=>exact⟨0,0,_,z1,Nat.zero_le _,by omega,HRa,HF1,hit,rfl⟩
   case round=>
    clear HRa HF1 hit z1
    obtain⟨p,j,lr,z,hp,hf,HRa,HF1,hit,rfl⟩:=hrel
    by_cases hlp:p<x.2.size
    ·have hn:=fun ty=>Lib.run_next_any_at (P:=Tryz.prog) z.w _ _ _ ty hit hlp
     obtain⟨_,t,rfl,ht⟩:=runesAt_step HRa.out hlp
     have HRt:=Lib.hid ht
     have hr:=dec_runeB x.2 p
     have hw:=dec_width x.2 p
     have hfit:=dec_fits hlp
     clear ht HRa
     have hit2:=hit.at (p+(Utf8.decode x.2 p).2)
     generalize (Utf8.decode x.2 p).1=r at *
     generalize (Utf8.decode x.2 p).2=N at *
     go_upto_region 8 with fail
     obtain⟨z2,hz1⟩:∃z2:WC V,z2.w=(z.w.iterAt kk x.2 (p+N)):=⟨⟨_,WC.iterAt z hkk x.2 (p+N)⟩,rfl⟩
     conv=>arg 5;rw[←hz1]
     rw[←hz1] at hit2
     clear hz1
     clear hn hit
     cases hpl:plainB TT (r:Int) with
     | false=>
      have HR:=Lib.hid ((scan_hit (f:=toF TT i) (x:=(r:Int)) (i:=j) (by unfold toF;rw[hpl];rfl)).symm.trans HF1.out)
      clear HF1 HRt
      have KP:=HPn.out (r:Int) hr z2.w (HUp.out z2)
      rw[hpl] at KP
      go_wp2_with fail
      (with_reducible refine Calls.mono KP ?_)
      rintro e w' ⟨rfl,hBk⟩
      clear KP
      have hit3:=hit2.keep (Keep.of_below hBk (fun _=>False)) (by simp)
      obtain⟨z3,hz3⟩:∃z3:WC V,z3.w=w':=⟨⟨_,z2.h.trans (hBk.mono z2.h.size)⟩,rfl⟩
      rw[←hz3] at hit3 ⊢
      clear hz3 hBk hit2
      clear hit3
      have KW:Hid (∀z:WC V,Calls Tryz.prog 99 #[.int .i64 35,.int .i64 5,.int .i64 i] z.w fun e w'=>e=.returned (.agg #[.int .i64 35,.int .i64 5,.int .i64 i])∧∃u:WC V,w'=u.w):=Lib.hid (fun z=>WC.call (HWr.out 35 5 i z.w))
      go_wp2_with fail
      (with_reducible refine Calls.mono (KW.out z3) ?_)
      rintro e w' ⟨rfl,zr,rfl⟩
      clear KW
      go_wp2_with fail
      have b3:=(((HA.out.keep (Keep.of_below (HUp.out zr) (fun _=>False)) (by simp)).set 0 (.int .i64 35)).set 1 (.int .i64 5)).set 2 (.int .i64 i)
      have r0:=b3.cell 0
      have r1:=b3.cell 1
      have r2:=b3.cell 2
      refine bodyPost_ret (v:=.agg #[.int .i64 35,.int .i64 5,.int .i64 i]) (res_wrong Hres.out (by rfl) r0 r1 r2) rfl ?_
      exact⟨by rw[←HR.out];rfl,set3_below (HB.out.trans ((HUp.out zr).mono HB.out.size)) (by omega)⟩
     | true=>
      have HF2:=Lib.hid ((scan_miss (f:=toF TT i) (x:=(r:Int)) (i:=j) (by unfold toF;rw[hpl];rfl)).symm.trans HF1.out)
      clear HF1
      have KP:=HPn.out (r:Int) hr z2.w (HUp.out z2)
      rw[hpl] at KP
      go_wp2_with fail
      (with_reducible refine Calls.mono KP ?_)
      rintro e w' ⟨rfl,hBk⟩
      clear KP
      have hit3:=hit2.keep (Keep.of_below hBk (fun _=>False)) (by simp)
      obtain⟨z3,hz3⟩:∃z3:WC V,z3.w=w':=⟨⟨_,z2.h.trans (hBk.mono z2.h.size)⟩,rfl⟩
      rw[←hz3] at hit3 ⊢
      clear hz3 hBk hit2
      go_wp2_with fail
      go_roundg (x.2.size - (p+N))
      case measure=>omega
      exact⟨p+N,j+1,t,z3,by omega,by omega,HRt,HF2,hit3,rfl⟩
    ·obtain rfl:p=x.2.size:=by omega
     have hn:=fun ty=>Lib.run_next_end_at (P:=Tryz.prog) z.w _ _ _ ty hit (Nat.lt_irrefl _)
     have hle:=runesAt_end HRa.out (Nat.le_refl _)
     subst hle
     have HF2:Hid (toGo (toF TT) (l4.drop (i+1)) (i+1) (toGo (toL TT l5) l5 0 (0,0,0))=R):=Lib.hid HF1.out
     clear HF1 HRa hp hlp hf
     go_wp2_with fail
     exact⟨⟨i+1,⟨z.w,HUp.out z⟩,by go_num,by omega,HF2,by first | rfl | trivial⟩,by simp[intOf];omega⟩
  ·obtain rfl:i=l4.length:=by omega
   have HF0:=Lib.hid (toGo_end HF.out)
   clear hi hlt i0 HF
   have HF:=Lib.hid HF0.out
   clear HF0
   go_wp2_with fail
   go_loopw [58] (fun v58 wr=>∃(i:Nat) (y:WC W0),v58=.int .i64 i∧i≤l5.length∧Hid (toGo (toL TT l5) (l5.drop i) i ((0,0,0))=R)∧wr=y.w) (fun v58 _=>l5.length - (intOf v58).toNat)
   case atStart=>exact⟨0,y,rfl,Nat.zero_le _,HF,rfl⟩
   case round=>
    clear HF
    obtain⟨i,y,rfl,hi,HF,rfl⟩:=hrel
    have i0:(0:Int)≤(i:Int):=Int.natCast_nonneg _
    by_cases hlt:i<l5.length
    ·have i1:(i:Int)<(l5.length:Int):=by omega
     obtain⟨g,off,ho,hg,c0,c1,cz⟩:=HL5.out i hlt
     subst ho
     have HF1:=Lib.hid (toGo_step hlt HF.out)
     obtain⟨hxv,hxs⟩:=HVl.out l5[i] (List.getElem_mem hlt)
     generalize l5[i]=x at *
     have e0:=fun y:WC W0=>y.cell c0
     have e1:=fun y:WC W0=>y.cell c1
     clear HF c0 c1 cz
     go_upto_region 14 with fail
     have bX:=Blk.new' y.w #[.int .i32 x.1,.string x.2] 143
     have HV1:Hid (Below W0.heap.size W0 (y.w.alloc (.cells #[.int .i32 x.1,.string x.2] 143))):=Lib.hid (y.h.alloc y.h.size _)
     obtain⟨V,hV⟩:∃V,y.w.alloc (.cells #[.int .i32 x.1,.string x.2] 143)=V:=⟨_,rfl⟩
     rw[hV] at bX HV1 ⊢
     obtain⟨bx,hbx⟩:∃b,y.w.heap.size=b:=⟨_,rfl⟩
     rw[hbx] at bX ⊢
     clear hV hbx
     have x0:∀z:WC V,z.w.cell? ⟨bx,0,none⟩=some (.int .i32 x.1):=WC.cell (bX.cell 0)
     have x1:∀z:WC V,z.w.cell? ⟨bx,1,none⟩=some (.string x.2):=WC.cell (bX.cell 1)
     have HUp:Hid (∀z:WC V,Below W0.heap.size W0 z.w):=Lib.hid (fun z=>HV1.out.trans (z.h.mono HV1.out.size))
     have a0z:∀z:WC V,z.w.cell? ⟨W1.heap.size,0,none⟩=some (.int .i64 0):=fun z=>a0 ⟨z.w,HUp.out z⟩
     have a1z:∀z:WC V,z.w.cell? ⟨W1.heap.size,1,none⟩=some (.int .i64 0):=fun z=>a1 ⟨z.w,HUp.out z⟩
     have a2z:∀z:WC V,z.w.cell? ⟨W1.heap.size,2,none⟩=some (.int .i64 0):=fun z=>a2 ⟨z.w,HUp.out z⟩
     have f0z:∀z:WC V,z.w.frozen? ⟨W1.heap.size,0,none⟩=false:=fun z=>f0 ⟨z.w,HUp.out z⟩
     have f1z:∀z:WC V,z.w.frozen? ⟨W1.heap.size,1,none⟩=false:=fun z=>f1 ⟨z.w,HUp.out z⟩
     have f2z:∀z:WC V,z.w.frozen? ⟨W1.heap.size,2,none⟩=false:=fun z=>f2 ⟨z.w,HUp.out z⟩
     have t8z:∀z:WC V,z.w.cell? ⟨bc,8,none⟩=some (.pointer (some ⟨bb,0,none⟩)):=fun z=>t8 ⟨z.w,HUp.out z⟩
     have q5z:∀z:WC V,z.w.cell? ⟨bb,12,none⟩=some (.map (some m5)):=fun z=>q5 ⟨z.w,HUp.out z⟩
     clear bX HV1
     obtain⟨z,hz⟩:∃z:WC V,z.w=V:=⟨WC.of V,rfl⟩
     conv=>arg 5;rw[←hz]
     clear hz
     go_wp2_with fail
     have hit:Itr (z.w.iter x.2 0) z.w.heap.size x.2 0:=Itr.new z.w x.2 0
     have hkk:=z.h.size
     obtain⟨z1,hz1⟩:∃z1:WC V,z1.w=(z.w.iter x.2 0):=⟨⟨_,z.h.alloc z.h.size _⟩,rfl⟩
     conv=>arg 5;rw[←hz1]
     rw[←hz1] at hit
     clear hz1
     obtain⟨kk,hkq⟩:∃kk,z.w.heap.size=kk:=⟨_,rfl⟩
     rw[hkq] at hit hkk ⊢
     clear hkq
     have HRa:=Lib.hid (runesAt_start hxv)
     go_loopg [] x.2.size (fun f wr=>∃(p j:Nat) (lr:List Int) (z:WC V),p≤x.2.size∧x.2.size - p≤f∧Hid (runesAt x.2 p=some lr)∧Hid (scan (toL TT l5 i) lr j (toGo (toL TT l5) (l5.drop (i+1)) (i+1) ((0,0,0)))=R)∧Itr z.w kk x.2 p∧wr=z.w)
     case atStart=>exact⟨0,0,_,z1,Nat.zero_le _,by omega,HRa,HF1,hit,rfl⟩
     case round=>
      clear HRa HF1 hit z1
      obtain⟨p,j,lr,z,hp,hf,HRa,HF1,hit,rfl⟩:=hrel
      by_cases hlp:p<x.2.size
      ·have hn:=fun ty=>Lib.run_next_any_at (P:=Tryz.prog) z.w _ _ _ ty hit hlp
       obtain⟨_,t,rfl,ht⟩:=runesAt_step HRa.out hlp
       have HRt:=Lib.hid ht
       have hr:=dec_runeB x.2 p
       have hw:=dec_width x.2 p
       have hfit:=dec_fits hlp
       clear ht HRa
       have hit2:=hit.at (p+(Utf8.decode x.2 p).2)
       generalize (Utf8.decode x.2 p).1=r at *
       generalize (Utf8.decode x.2 p).2=N at *
       go_upto_region 17 with fail
       obtain⟨z2,hz1⟩:∃z2:WC V,z2.w=(z.w.iterAt kk x.2 (p+N)):=⟨⟨_,WC.iterAt z hkk x.2 (p+N)⟩,rfl⟩
       conv=>arg 5;rw[←hz1]
       rw[←hz1] at hit2
       clear hz1
       clear hn hit
       have kl:=fun z:WC V=>HLl.out (r:Int) hr z.w (HUp.out z)
       have hfm:=from_map l5 (r:Int)
       generalize (mapO l5 (r:Int)).isSome=bo at *
       generalize mapA l5 (r:Int)=ms at *
       cases bo with
       | true=>
        have HR:=Lib.hid ((scan_hit (f:=toL TT l5 i) (x:=(r:Int)) (i:=j) (w:=(36,6,(i:Int))) (by unfold toL;rw[hfm];cases plainB TT (r:Int) <;> rfl)).symm.trans HF1.out)
        clear HF1 HRt hfm hit2
        have KW:Hid (∀z:WC V,Calls Tryz.prog 99 #[.int .i64 36,.int .i64 6,.int .i64 i] z.w fun e w'=>e=.returned (.agg #[.int .i64 36,.int .i64 6,.int .i64 i])∧∃u:WC V,w'=u.w):=Lib.hid (fun z=>WC.call (HWr.out 36 6 i z.w))
        go_wp2_with fail
        (with_reducible refine Calls.mono (KW.out z2) ?_)
        rintro e w' ⟨rfl,zr,rfl⟩
        clear KW
        go_wp2_with fail
        have b3:=(((HA.out.keep (Keep.of_below (HUp.out zr) (fun _=>False)) (by simp)).set 0 (.int .i64 36)).set 1 (.int .i64 6)).set 2 (.int .i64 i)
        have r0:=b3.cell 0
        have r1:=b3.cell 1
        have r2:=b3.cell 2
        refine bodyPost_ret (v:=.agg #[.int .i64 36,.int .i64 6,.int .i64 i]) (res_wrong Hres.out (by rfl) r0 r1 r2) rfl ?_
        exact⟨by rw[←HR.out];rfl,set3_below (HB.out.trans ((HUp.out zr).mono HB.out.size)) (by omega)⟩
       | false=>
        cases hpl:plainB TT (r:Int) with
        | false=>
         have HR:=Lib.hid ((scan_hit (f:=toL TT l5 i) (x:=(r:Int)) (i:=j) (by unfold toL;rw[hpl];rfl)).symm.trans HF1.out)
         clear HF1 HRt hfm
         have KP:=HPn.out (r:Int) hr z2.w (HUp.out z2)
         rw[hpl] at KP
         go_wp2_with fail
         (with_reducible refine Calls.mono KP ?_)
         rintro e w' ⟨rfl,hBk⟩
         clear KP
         have hit3:=hit2.keep (Keep.of_below hBk (fun _=>False)) (by simp)
         obtain⟨z3,hz3⟩:∃z3:WC V,z3.w=w':=⟨⟨_,z2.h.trans (hBk.mono z2.h.size)⟩,rfl⟩
         rw[←hz3] at hit3 ⊢
         clear hz3 hBk hit2
         clear hit3
         have KW:Hid (∀z:WC V,Calls Tryz.prog 99 #[.int .i64 36,.int .i64 6,.int .i64 i] z.w fun e w'=>e=.returned (.agg #[.int .i64 36,.int .i64 6,.int .i64 i])∧∃u:WC V,w'=u.w):=Lib.hid (fun z=>WC.call (HWr.out 36 6 i z.w))
         go_wp2_with fail
         (with_reducible refine Calls.mono (KW.out z3) ?_)
         rintro e w' ⟨rfl,zr,rfl⟩
         clear KW
         go_wp2_with fail
         have b3:=(((HA.out.keep (Keep.of_below (HUp.out zr) (fun _=>False)) (by simp)).set 0 (.int .i64 36)).set 1 (.int .i64 6)).set 2 (.int .i64 i)
         have r0:=b3.cell 0
         have r1:=b3.cell 1
         have r2:=b3.cell 2
         refine bodyPost_ret (v:=.agg #[.int .i64 36,.int .i64 6,.int .i64 i]) (res_wrong Hres.out (by rfl) r0 r1 r2) rfl ?_
         exact⟨by rw[←HR.out];rfl,set3_below (HB.out.trans ((HUp.out zr).mono HB.out.size)) (by omega)⟩
        | true=>
         have HF2:=Lib.hid ((scan_miss (f:=toL TT l5 i) (x:=(r:Int)) (i:=j) (by unfold toL;rw[hpl,hfm];rfl)).symm.trans HF1.out)
         clear HF1 hfm
         have KP:=HPn.out (r:Int) hr z2.w (HUp.out z2)
         rw[hpl] at KP
         go_wp2_with fail
         (with_reducible refine Calls.mono KP ?_)
         rintro e w' ⟨rfl,hBk⟩
         clear KP
         have hit3:=hit2.keep (Keep.of_below hBk (fun _=>False)) (by simp)
         obtain⟨z3,hz3⟩:∃z3:WC V,z3.w=w':=⟨⟨_,z2.h.trans (hBk.mono z2.h.size)⟩,rfl⟩
         rw[←hz3] at hit3 ⊢
         clear hz3 hBk hit2
         go_wp2_with fail
         go_roundg (x.2.size - (p+N))
         case measure=>omega
         exact⟨p+N,j+1,t,z3,by omega,by omega,HRt,HF2,hit3,rfl⟩
      ·obtain rfl:p=x.2.size:=by omega
       have hn:=fun ty=>Lib.run_next_end_at (P:=Tryz.prog) z.w _ _ _ ty hit (Nat.lt_irrefl _)
       have hle:=runesAt_end HRa.out (Nat.le_refl _)
       subst hle
       have HF2:Hid (toGo (toL TT l5) (l5.drop (i+1)) (i+1) ((0,0,0))=R):=Lib.hid HF1.out
       clear HF1 HRa hp hlp hf
       go_wp2_with fail
       exact⟨⟨i+1,⟨z.w,HUp.out z⟩,by go_num,by omega,HF2,by first | rfl | trivial⟩,by simp[intOf];omega⟩
    ·obtain rfl:i=l5.length:=by omega
     have HF0:=Lib.hid (toGo_end HF.out)
     clear hi hlt i0 HF
     have HF:=Lib.hid HF0.out
     clear HF0
     have HR:=Lib.hid HF.out
     go_wp2_with fail
     have b3:=(((HA.out.keep (Keep.of_below y.h (fun _=>False)) (by simp)).set 0 (.int .i64 0)).set 1 (.int .i64 0)).set 2 (.int .i64 0)
     have r0:=b3.cell 0
     have r1:=b3.cell 1
     have r2:=b3.cell 2
     refine bodyPost_ret (v:=.agg #[.int .i64 0,.int .i64 0,.int .i64 0]) (res_wrong Hres.out (by rfl) r0 r1 r2) rfl ?_
     exact⟨by rw[←HR.out];rfl,set3_below (HB.out.trans (y.h.mono HB.out.size)) (by omega)⟩
end Go.Proofs.YtioehfhdoohdmaaGreatDoor
