/- Keep of a book of lists (guise/script.Share), walked. Printed by gen_book4.py. -/
import Derived.Test.YtioehfhdoohdmaaGreatDoorBookShareB
import Derived.Deep.RegionLaw
import Derived.Handy
set_option linter.unusedVariables false
set_option linter.unusedSimpArgs false
namespace Go.Proofs.YtioehfhdoohdmaaGreatDoor.bookShare
open Go.RowKit Go.Shelf
theorem wpList_append_eq {P:Program}{ops:Array Oper}{rest:List Oper}{o:Oper}{a:Act}{Q:Exit→Act→World→Prop}(hgd:o.guard=none) (s x:Operand) (t:TypeId)
 (ho:o.op=.call { callee:=.builtin .append,args:=#[s,x],argTypes:=#[t,t] }) {sv xv v':Value} {w w':World} (hs:a.eval s=sv) (hx:a.eval x=xv)
 (hrun:(Builtin.append_ #[t,t] o.type #[sv,xv]).run P w=.ok v' w') (hK:wpList P ops Q rest (a.put o.dst v') w'):wpList P ops Q (o::rest) a w:=by
 refine wpList_plain hgd fun K hK'=>?_
 unfold Oper.wp
 simp[execOp,ho,resolve,invoke,builtin,hs,hx,hrun,Result.andThen]
 exact hK' _ _ hK
theorem step_append_eq {P:Program}{ops:Array Oper}{o:Oper}{a:Act}{K:Act→World→Prop}{Q:Exit→Act→World→Prop}{E:Prop}(hgd:o.guard=none) (s x:Operand) (t:TypeId)
 (ho:o.op=.call { callee:=.builtin .append,args:=#[s,x],argTypes:=#[t,t] }) {sv xv v':Value} {w w':World} (hs:a.eval s=sv) (hx:a.eval x=xv)
 (hrun:(Builtin.append_ #[t,t] o.type #[sv,xv]).run P w=.ok v' w') (hK:K (a.put o.dst v') w'):if Region.wanted o (yielded ops a.tmps)=true then Oper.wp P o a w K Q else E:=by
 have hw:Region.wanted o (yielded ops a.tmps)=true:=by simp[Region.wanted,hgd]
 rw[if_pos hw]
 unfold Oper.wp
 simp[execOp,ho,resolve,invoke,builtin,hs,hx,hrun,Result.andThen]
 exact hK
theorem lists_more {W W':World}{B0 B1 bk:Nat}{ao:Option Addr}{g off cap:Nat}{ao':Option Addr}{g' off' cap':Nat}{es:List Ent}(h:Lists W B0 B1 bk ao g off cap ao' g' off' cap' es) (hfew:es.length<100000)
 {e:Ent} {g2 off2 cap2 g3 off3 cap3 B2:Nat} (hW:B1≤W.heap.size) (hz:W.heap.size≤B2)
 (c2:Came W' 1 (some ⟨g2,off2,none⟩) g2 off2 (es.length+1) cap2 (es.map Ent.v++[e.v])) (c3:Came W' 1 (some ⟨g3,off3,none⟩) g3 off3 (es.length+1) cap3 (es.map Ent.u++[e.u])) (m2:cap2≤maxLen) (m3:cap3≤maxLen)
 (hown:∀x∈es,Own W' x.o x.c x.xs∧Own W' x.p x.d x.xs) (hne:Own W' e.o e.c e.xs∧Own W' e.p e.d e.xs)
 (hg2:some g2=blkOf ao∨W.heap.size<g2) (hg3:some g3=blkOf ao'∨W.heap.size<g3) (l2:g2<B2) (l3:g3<B2) (h23:g3≠g2)
 (heo:∀k,blkOf e.o=some k→B1≤k∧k<W.heap.size) (hep:∀k,blkOf e.p=some k→W.heap.size≤k∧k<B2∧k≠g2∧k≠g3) :
 Lists W' B0 B2 bk (some ⟨g2,off2,none⟩) g2 off2 cap2 (some ⟨g3,off3,none⟩) g3 off3 cap3 (es++[e]):=by
 have b:=h.bkB
 have w2:B0≤g2∧g2≠bk:=by
  rcases hg2 with x | x
  ·have:=h.gB g2 x.symm;exact⟨this.1,this.2.2⟩
  ·omega
 have w3:B0≤g3∧g3≠bk:=by
  rcases hg3 with x | x
  ·have:=h.gB' g3 x.symm;exact⟨this.1,this.2.2.1⟩
  ·omega
 refine⟨by rw[List.length_append,List.map_append];exact c2,by rw[List.length_append,List.map_append];exact c3,m2,m3,fun x hx=>?_,by omega,fun k hk=>?_,fun k hk=>?_,fun x hx k hk=>?_,?_,by simp;omega⟩
 ·rcases List.mem_append.1 hx with hx | hx
  ·exact hown x hx
  ·obtain rfl:x=e:=by simpa using hx
   exact hne
 ·simp only[blkOf,Option.map_some,Option.some.injEq] at hk
  subst hk
  exact⟨w2.1,l2,w2.2⟩
 ·simp only[blkOf,Option.map_some,Option.some.injEq] at hk
  subst hk
  exact⟨w3.1,l3,w3.2,fun x=>h23 (by simpa [blkOf] using x)⟩
 ·rcases List.mem_append.1 hx with hx | hx
  ·have en:=h.ent x hx k hk
   refine⟨en.1,by omega,en.2.2.1,fun x=>?_,fun x=>?_⟩
   ·obtain rfl:k=g2:=by simpa [blkOf] using x
    rcases hg2 with y | y
    ·exact en.2.2.2.1 y
    ·omega
   ·obtain rfl:k=g3:=by simpa [blkOf] using x
    rcases hg3 with y | y
    ·exact en.2.2.2.2 y
    ·omega
  ·obtain rfl:x=e:=by simpa using hx
   rcases hk with hk | hk
   ·have q:=heo k hk
    refine⟨by omega,by omega,by omega,fun x=>?_,fun x=>?_⟩
    ·obtain rfl:k=g2:=by simpa [blkOf] using x
     rcases hg2 with y | y
     ·have:=h.gB k y.symm;omega
     ·omega
    ·obtain rfl:k=g3:=by simpa [blkOf] using x
     rcases hg3 with y | y
     ·have:=h.gB' k y.symm;omega
     ·omega
   ·have q:=hep k hk
    refine⟨by omega,by omega,by omega,fun x=>?_,fun x=>?_⟩
    ·exact q.2.2.1 (by simpa [blkOf] using x)
    ·exact q.2.2.2 (by simpa [blkOf] using x)
 ·refine List.pairwise_append.2 ⟨h.apart,List.pairwise_singleton _ _,fun x hx y hy k hk hk2=>?_⟩
  obtain rfl:y=e:=by simpa using hy
  have en:=h.ent x hx k (Or.inl hk)
  have q:=heo k hk2
  omega
set_option maxRecDepth 100000 in
set_option maxHeartbeats 4000000 in
theorem keep_any (W:World) (B0 B1 bk:Nat) (ao:Option Addr) (g off cap:Nat) (ao':Option Addr) (g' off' cap':Nat) (es:List Ent) (held:Int) (hb:Blk W bk [.slice ao es.length cap,.slice ao' es.length cap',.int .i64 held,.bool false] 89)
 (hl:Lists W B0 B1 bk ao g off cap ao' g' off' cap' es) (hfew:es.length<90000) (hB1:B1≤W.heap.size) (o:Option Addr) (c:Nat) (xs:List Cel) (ho:Own W o c xs) (hfr:∀k,blkOf o=some k→B1≤k) (hxs:xs.length≤1000000000) :
 Calls Tryz.prog 40 #[.pointer (some ⟨bk,0,none⟩),.slice o xs.length c] W fun e w'=>(∃v,e=.returned v)∧∃ao g off cap ao' g' off' cap' es2 held,Blk w' bk [.slice ao es2.length cap,.slice ao' es2.length cap',.int .i64 held,.bool false] 89 ∧
  Lists w' B0 w'.heap.size bk ao g off cap ao' g' off' cap' es2∧es2.length≤es.length+1∧Below B0 W w':=by
 have hbz:=hb.lt
 obtain⟨g2,off2,cap2,W2,e1,k2c,k2m,k2,k2g,k2l⟩:=append_win hl.L hl.capL (by omega) (.slice o xs.length c) rfl
 have hB2:Blk W2 bk [.slice ao es.length cap,.slice ao' es.length cap',.int .i64 held,.bool false] 89:=hb.keep k2 (fun x=>(hl.gB bk x.symm).2.2 rfl)
 have hg2bk:g2≠bk:=by
  rcases k2g with x | x
  ·exact (hl.gB g2 x.symm).2.2
  ·omega
 have hB3:=hB2.set 0 (.slice (some ⟨g2,off2,none⟩) (es.length+1) cap2)
 simp only[List.set_cons_zero] at hB3
 have k3:Keep (fun k=>some k=blkOf ao∨k=bk) W (W2.setCell ⟨bk,0,none⟩ (.slice (some ⟨g2,off2,none⟩) (es.length+1) cap2)):=(k2.mono (T:=fun k=>some k=blkOf ao∨k=bk) (fun _ _ h=>Or.inl h)).setCell (p:=⟨bk,0,none⟩) (fun _=>Or.inr rfl) _
 have ho3:Own (W2.setCell ⟨bk,0,none⟩ (.slice (some ⟨g2,off2,none⟩) (es.length+1) cap2)) o c xs:=ho.keep fun k hk hkl=>k3.block k hkl (fun x=>by
  have q:=hfr k hk
  rcases x with x | x
  ·have:=hl.gB k x.symm;omega
  ·have:=hl.bkB;omega)
 have c3:Came (W2.setCell ⟨bk,0,none⟩ (.slice (some ⟨g2,off2,none⟩) (es.length+1) cap2)) 1 (some ⟨g2,off2,none⟩) g2 off2 (es.length+1) cap2 (es.map Ent.v++[.slice o xs.length c]):=came_keep k2c (fun _=>Below.heap_setCell _ _ _ _ hg2bk) (by rw[World.size_setCell];omega) (by omega)
 have z3:(W2.setCell ⟨bk,0,none⟩ (.slice (some ⟨g2,off2,none⟩) (es.length+1) cap2)).heap.size=W2.heap.size:=World.size_setCell _ _ _
 have cM3:Came (W2.setCell ⟨bk,0,none⟩ (.slice (some ⟨g2,off2,none⟩) (es.length+1) cap2)) 1 ao' g' off' es.length cap' (es.map Ent.u):=came_keep hl.M (fun cp=>by
  have e:=hl.M.addr cp
  have q:=hl.gB' g' (by rw[e];rfl)
  exact k3.block g' (hl.M.lt cp) (fun x=>by
   rcases x with x | x
   ·exact q.2.2.2 x
   ·exact q.2.2.1 x)) k3.size (by omega)
 have q0:=hB2.cell 0
 have qf0:=hB2.frozen 0
 simp only[List.getElem?_cons_zero] at q0
 obtain⟨W3,hW3⟩:∃W3,W2.setCell ⟨bk,0,none⟩ (.slice (some ⟨g2,off2,none⟩) (es.length+1) cap2)=W3:=⟨_,rfl⟩
 rw[hW3] at hB3 k3 ho3 c3 z3 cM3
 obtain⟨p,d,W4,e2,o4,k4,p4⟩:=append_copy (W:=W3.drew) (ho3.keep (fun _ _ _=>rfl)) hxs
 have k4':Keep (fun _=>False) W3 W4:=⟨k4.os,k4.tape,k4.output,k4.size,k4.block⟩
 have z4:=k4'.size
 have z3':=k3.size
 have p4':∀k,blkOf p=some k→W3.heap.size≤k:=p4
 clear k4 p4
 obtain⟨g3,off3,cap3,W5,e3,c5,m5,k5,k5g,k5l⟩:=append_win (came_keep cM3 (fun cp=>k4'.block g' (cM3.lt cp) (fun h=>h)) z4 (by omega)) hl.capM (by omega) (.slice p xs.length d) rfl
 have z5:=k5.size
 have hB4:=hB3.keep k4' (fun h=>h)
 have hB5:=hB4.keep k5 (fun x=>(hl.gB' bk x.symm).2.2.1 rfl)
 have hg3bk:g3≠bk:=by
  rcases k5g with x | x
  ·exact (hl.gB' g3 x.symm).2.2.1
  ·omega
 have hg23:some g2≠blkOf ao':=fun x=>by
  have q:=hl.gB' g2 x.symm
  rcases k2g with y | y
  ·exact q.2.2.2 y
  ·omega
 have h23:g3≠g2:=by
  rcases k5g with x | x
  ·intro e;exact hg23 (by rw[←e];exact x)
  ·omega
 have hB6:=hB5.set 1 (.slice (some ⟨g3,off3,none⟩) (es.length+1) cap3)
 simp only[List.set_cons_zero,List.set_cons_succ] at hB6
 have z6:(W5.setCell ⟨bk,1,none⟩ (.slice (some ⟨g3,off3,none⟩) (es.length+1) cap3)).heap.size=W5.heap.size:=World.size_setCell _ _ _
 have kT:Keep (fun k=>some k=blkOf ao∨some k=blkOf ao'∨k=bk) W (W5.setCell ⟨bk,1,none⟩ (.slice (some ⟨g3,off3,none⟩) (es.length+1) cap3)):=
  (((k3.mono (fun _ _ h=>h.elim Or.inl (fun h=>Or.inr (Or.inr h)))).trans' k4' (fun _ _ _ h=>h)).trans' k5 (fun _ _ hn h=>hn (Or.inr (Or.inl h)))).setCell (p:=⟨bk,1,none⟩) (fun _=>Or.inr (Or.inr rfl)) _
 have hL6:Lists (W5.setCell ⟨bk,1,none⟩ (.slice (some ⟨g3,off3,none⟩) (es.length+1) cap3)) B0 W5.heap.size bk (some ⟨g2,off2,none⟩) g2 off2 cap2 (some ⟨g3,off3,none⟩) g3 off3 cap3 (es++[⟨o,c,p,d,xs⟩]):=by
  have hbk:=hl.bkB
  refine lists_more hl (by omega) hB1 (by omega) ?_ ?_ k2m m5 (fun x hx=>?_) ?_ k2g ?_ (by omega) k5l h23 ?_ ?_
  ·refine came_keep (came_keep (came_keep c3 (fun _=>k4'.block g2 (by omega) (fun h=>h)) z4 (by omega)) (fun _=>k5.block g2 (by omega) hg23) z5 (by omega)) (fun _=>Below.heap_setCell _ _ _ _ hg2bk) (by omega) (by omega)
  ·exact came_keep c5 (fun _=>Below.heap_setCell _ _ _ _ hg3bk) (by omega) (by omega)
  ·have en:=hl.ent x hx
   have ow:=hl.own x hx
   exact⟨ow.1.keep fun k hk hkl=>kT.block k hkl (fun y=>by
    have q:=en k (Or.inl hk)
    rcases y with y | y | y
    ·exact q.2.2.2.1 y
    ·exact q.2.2.2.2 y
    ·exact q.2.2.1 y),ow.2.keep fun k hk hkl=>kT.block k hkl (fun y=>by
    have q:=en k (Or.inr hk)
    rcases y with y | y | y
    ·exact q.2.2.2.1 y
    ·exact q.2.2.2.2 y
    ·exact q.2.2.1 y)⟩
  ·refine⟨ho.keep fun k hk hkl=>kT.block k hkl (fun y=>?_),(o4.keep (W':=W5) fun k hk hkl=>k5.block k hkl (fun y=>?_)).keep fun k hk hkl=>Below.heap_setCell _ _ _ _ ?_⟩
   ·have q:=hfr k hk
    rcases y with y | y | y
    ·have:=hl.gB k y.symm;omega
    ·have:=hl.gB' k y.symm;omega
    ·omega
   ·have q:=p4' k hk
    have:=hl.gB' k y.symm
    have:=k3.size
    omega
   ·have q:=p4' k hk
    have:=k3.size
    show k≠bk
    omega
  ·rcases k5g with x | x
   ·exact Or.inl x
   ·exact Or.inr (by have:=k3.size;omega)
  ·intro k hk
   exact⟨hfr k hk,ho.lt hk⟩
  ·intro k hk
   have q:=p4' k hk
   have q2:k<W4.heap.size:=o4.lt hk
   have:=k3.size
   refine⟨by omega,by omega,by omega,fun y=>?_⟩
   subst y
   rcases k5g with x | x
   ·have:=hl.gB' k x.symm;omega
   ·omega
 have hBel:Below B0 W (W5.setCell ⟨bk,1,none⟩ (.slice (some ⟨g3,off3,none⟩) (es.length+1) cap3)):=kT.below fun k hk=>by
  have hbk:=hl.bkB
  refine⟨by omega,fun y=>?_⟩
  rcases y with y | y | y
  ·have:=hl.gB k y.symm;omega
  ·have:=hl.gB' k y.symm;omega
  ·omega
 have r1:=hB3.cell 1
 have s1:=hB4.cell 1
 have t1:=hB5.cell 1
 have tf1:=hB5.frozen 1
 have v2:=hB6.cell 2
 have vf2:=hB6.frozen 2
 simp only[List.getElem?_cons_zero,List.getElem?_cons_succ] at r1 s1 t1 v2
 have s1a:(W4.alloc (.cells #[.slice p xs.length d] 83)).cell? ⟨bk,1,none⟩=some (.slice ao' es.length cap'):=by
  have:=(hB4.alloc (.cells #[.slice p xs.length d] 83)).cell 1
  simpa using this
 obtain⟨W6,hW6⟩:∃W6,W5.setCell ⟨bk,1,none⟩ (.slice (some ⟨g3,off3,none⟩) (es.length+1) cap3)=W6:=⟨_,rfl⟩
 rw[hW6] at hB6 z6 hL6 hBel v2 vf2
 have b0:=hb.cell 0
 simp only[List.getElem?_cons_zero] at b0
 have HL6:=Lib.hid hL6
 have HE1:=Lib.hid e1
 have HE2:=Lib.hid e2
 have HE3:=Lib.hid e3
 have HW3:=Lib.hid hW3
 have HW6:=Lib.hid hW6
 have HB6:=Lib.hid hB6
 have HBel:=Lib.hid hBel
 have hle:=ho.le
 clear kT hL6 hl ho hfr k2 k3 ho3 c3 cM3 k2c k2m k2g k2l o4 k4' p4' c5 m5 k5 k5g k5l hB2 hB3 hB4 hB5 hg3bk hg23 h23 hg2bk hBel hB6 e1 e2 e3 hW3 hW6
 go_enter Tryz.func40,Tryz.ntmps40
 go_wp2_with (at_builtin;refine wpList_append_eq rfl _ _ 87 rfl (sv:=.slice ao es.length cap) (xv:=.slice (some ⟨W.heap.size,0,none⟩) 1 1) rfl rfl HE1.out ?_)
 rw[HW3.out]
 go_cut [] (fun wx=>wx=W6)
 case first=>
  go_region_law (first | (refine step_append_eq rfl _ _ 83 rfl (sv:=.slice none 0 0) (xv:=.slice o xs.length c) rfl rfl HE2.out ?_) | (refine step_append_eq rfl _ _ 87 rfl (sv:=.slice ao' es.length cap') (xv:=.slice (some ⟨W4.heap.size,0,none⟩) 1 1) rfl rfl HE3.out ?_))
  all_goals
   go_wp2_with fail
   go_meet
   exact HW6.out
 case rest=>
 obtain rfl:=hcut
 have hcap:c≤9223372036854775807:=hle.2
 go_wp2_with fail
 go_loopg [] (es.length+1) (fun f wr=>∃(ao:Option Addr) (g off cap:Nat) (ao':Option Addr) (g' off' cap':Nat) (es2:List Ent) (held:Int),es2.length≤f∧es2.length≤es.length+1∧Blk wr bk [.slice ao es2.length cap,.slice ao' es2.length cap',.int .i64 held,.bool false] 89 ∧
  Hid (Lists wr B0 W5.heap.size bk ao g off cap ao' g' off' cap' es2)∧Keep (fun k=>k=bk) wc wr)
 case atStart=>
  refine⟨_,g2,off2,cap2,_,g3,off3,cap3,es++[⟨o,c,p,d,xs⟩],_,by simp,by simp,by rw[List.length_append];exact HB6.out.set 2 _,Lib.hid (HL6.out.keep ?_ ?_),(Keep.refl (fun k=>k=bk) _).setCell (p:=⟨bk,2,none⟩) (fun _=>rfl) _⟩
  ·rw[World.size_setCell];omega
  ·exact fun k _ hne _=>Below.heap_setCell _ _ _ _ hne
 case round=>
  clear HB6 HL6 HE1 HE2 HE3 HW3 HW6 v2 vf2 r1 s1 t1 tf1 s1a q0 qf0 b0 hb
  obtain⟨ao,g,off,cap,ao',g',off',cap',es2,held,hf,hn2,hb,HL,hk⟩:=hrel
  have c0:=hb.cell 0
  have c1:=hb.cell 1
  have c2:=hb.cell 2
  have c3:=hb.cell 3
  have f0:=hb.frozen 0
  have f1:=hb.frozen 1
  have f2:=hb.frozen 2
  have f3:=hb.frozen 3
  simp only[List.getElem?_cons_zero,List.getElem?_cons_succ] at c0 c1 c2 c3
  by_cases h1:1<es2.length
  ·have i1:(1:Int)<(es2.length:Int):=by omega
   have iz:(0:Int)<(es2.length:Int):=by omega
   have izn:0<es2.length:=by omega
   have hl:=HL.out
   have hfew2:=hl.few
   have hcl:=hl.L.le
   have hcm:=hl.M.le
   have hml:cap≤9223372036854775807:=hl.capL
   have hmm:cap'≤9223372036854775807:=hl.capM
   obtain⟨rfl,rfl,_,_,hgb,_,_,hgb',_⟩:=hl.addr (by omega)
   obtain⟨d1,d2⟩:=hl.at_ (i:=0) (by omega)
   obtain⟨ow1,ow2⟩:=hl.own es2[0] (List.getElem_mem (by omega))
   have en:=hl.ent es2[0] (List.getElem_mem (by omega))
   have hle:=ow1.le
   simp only[Ent.v,Ent.u,Nat.add_zero] at d1 d2
   generalize es2[0]=e at *
   have hsm:=fun (w':World) (kk:Keep (fun k=>k=bk) wr w')=>same_any w' e.o e.p e.c e.d e.xs (ow1.keep fun k hk hl=>kk.block k hl (en k (Or.inl hk)).2.2.1) (ow2.keep fun k hk hl=>kk.block k hl (en k (Or.inr hk)).2.2.1)
   have HS:=Lib.hid hsm
   have hkk:Keep (fun k=>k=bk) wr wr:=Keep.refl _ _
   have hec:e.c≤9223372036854775807:=hle.2
   clear hsm ow1 ow2 en hl hle
   by_cases hh:1000000<held
   ·have dh:(1000000:Int)<held:=hh
    clear hh
    go_wp2_with fail
    go_region_held3 (fun w'=>w'.cell? ⟨bk,0,none⟩=some (.slice (some ⟨g,off,none⟩) es2.length cap)∧w'.cell? ⟨bk,1,none⟩=some (.slice (some ⟨g',off',none⟩) es2.length cap')∧w'.cell? ⟨bk,3,none⟩=some (.bool false)∧w'.frozen? ⟨bk,3,none⟩=false∧w'.cell? ⟨g,off,none⟩=some (.slice e.o e.xs.length e.c)∧w'.cell? ⟨g',off',none⟩=some (.slice e.p e.xs.length e.d) ∧
     Blk w' bk [.slice (some ⟨g,off,none⟩) es2.length cap,.slice (some ⟨g',off',none⟩) es2.length cap',.int .i64 held,.bool false] 89∧Keep (fun k=>k=bk) wr w')
     (first
      | (go_split_ands;exact held_store (by assumption) (by assumption) (by assumption) (by assumption) hgb hgb')
      | (go_split_ands;refine⟨?_,?_,?_,?_,?_,?_,?_,?_⟩ <;> first | assumption | (exact Keep.drew (by assumption)) | (exact keep_drewN (by assumption) _) | (exact blk_drewN (by assumption) _)))
     (first | (go_at_call 39;refine Calls.mono (HS.out _ (by go_split_ands;assumption)) ?_;rintro e w' ⟨rfl,m,rfl⟩))
    rename_i hh
    obtain⟨k0,k1,_,_,kd1,kd2,hb2,hk2⟩:=hh
    have k2:=hb2.cell 2
    have kf2:=hb2.frozen 2
    simp only[List.getElem?_cons_zero,List.getElem?_cons_succ] at k2
    clear hb hkk c0 c1 c2 c3 f0 f1 f2 f3 d1 d2 HS
    generalize World.setCell _ _ _=w4 at *
    go_wp2_with fail
    go_cut [] (fun wx=>∃h',Blk wx bk [.slice (some ⟨g,off,none⟩) es2.length cap,.slice (some ⟨g',off',none⟩) es2.length cap',.int .i64 h',.bool false] 89∧Keep (fun k=>k=bk) wr wx)
    case first=>
     go_region
     all_goals
      go_wp2_with fail
      go_meet
      exact⟨_,hb2.drew.set 2 _,hk2.drew.setCell (p:=⟨bk,2,none⟩) (fun _=>rfl) _⟩
    case rest=>
    clear k0 k1 kd1 kd2 hb2 hk2 k2 kf2
    obtain⟨h',hb5,hk5⟩:=hcut
    have c0:=hb5.cell 0
    have c1:=hb5.cell 1
    have f0:=hb5.frozen 0
    have f1:=hb5.frozen 1
    simp only[List.getElem?_cons_zero,List.getElem?_cons_succ] at c0 c1
    have i2:(1:Int)≤(es2.length:Int):=by omega
    have i3:(es2.length:Int)≤(cap:Int):=by omega
    have i4:(es2.length:Int)≤(cap':Int):=by omega
    go_wp2_with fail
    go_roundg (gk - 1)
    case measure=>omega
    case rel=>
     refine⟨_,g,off+1,cap - 1,_,g',off'+1,cap' - 1,es2.tail,h',by rw[List.length_tail];omega,by rw[List.length_tail];omega,by rw[List.length_tail];exact (hb5.set 0 _).set 1 _,Lib.hid ((HL.out.keep ?_ ?_).next izn),((hk.trans' hk5 (fun _ _ h=>h)).setCell (p:=⟨bk,0,none⟩) (fun _=>rfl) _).setCell (p:=⟨bk,1,none⟩) (fun _=>rfl) _⟩
     ·rw[World.size_setCell,World.size_setCell];exact hk5.size
     ·intro k _ hne hkl
      rw[Below.heap_setCell _ _ _ _ hne,Below.heap_setCell _ _ _ _ hne]
      exact hk5.block k hkl hne
   ·by_cases hh4:4000<es2.length
    ·have dh:decide ((1000000:Int)<held)=false:=by rw[decide_eq_false_iff_not];omega
     have dh4:(4000:Int)<(es2.length:Int):=by omega
     clear hh hh4
     go_wp2_with fail
     go_region_held3 (fun w'=>w'.cell? ⟨bk,0,none⟩=some (.slice (some ⟨g,off,none⟩) es2.length cap)∧w'.cell? ⟨bk,1,none⟩=some (.slice (some ⟨g',off',none⟩) es2.length cap')∧w'.cell? ⟨bk,3,none⟩=some (.bool false)∧w'.frozen? ⟨bk,3,none⟩=false∧w'.cell? ⟨g,off,none⟩=some (.slice e.o e.xs.length e.c)∧w'.cell? ⟨g',off',none⟩=some (.slice e.p e.xs.length e.d) ∧
      Blk w' bk [.slice (some ⟨g,off,none⟩) es2.length cap,.slice (some ⟨g',off',none⟩) es2.length cap',.int .i64 held,.bool false] 89∧Keep (fun k=>k=bk) wr w')
      (first
       | (go_split_ands;exact held_store (by assumption) (by assumption) (by assumption) (by assumption) hgb hgb')
       | (go_split_ands;refine⟨?_,?_,?_,?_,?_,?_,?_,?_⟩ <;> first | assumption | (exact Keep.drew (by assumption)) | (exact keep_drewN (by assumption) _) | (exact blk_drewN (by assumption) _)))
      (first | (go_at_call 39;refine Calls.mono (HS.out _ (by go_split_ands;assumption)) ?_;rintro e w' ⟨rfl,m,rfl⟩))
     rename_i hh
     obtain⟨k0,k1,_,_,kd1,kd2,hb2,hk2⟩:=hh
     have k2:=hb2.cell 2
     have kf2:=hb2.frozen 2
     simp only[List.getElem?_cons_zero,List.getElem?_cons_succ] at k2
     clear hb hkk c0 c1 c2 c3 f0 f1 f2 f3 d1 d2 HS
     generalize World.setCell _ _ _=w4 at *
     go_wp2_with fail
     go_cut [] (fun wx=>∃h',Blk wx bk [.slice (some ⟨g,off,none⟩) es2.length cap,.slice (some ⟨g',off',none⟩) es2.length cap',.int .i64 h',.bool false] 89∧Keep (fun k=>k=bk) wr wx)
     case first=>
      go_region
      all_goals
       go_wp2_with fail
       go_meet
       exact⟨_,hb2.drew.set 2 _,hk2.drew.setCell (p:=⟨bk,2,none⟩) (fun _=>rfl) _⟩
     case rest=>
     clear k0 k1 kd1 kd2 hb2 hk2 k2 kf2
     obtain⟨h',hb5,hk5⟩:=hcut
     have c0:=hb5.cell 0
     have c1:=hb5.cell 1
     have f0:=hb5.frozen 0
     have f1:=hb5.frozen 1
     simp only[List.getElem?_cons_zero,List.getElem?_cons_succ] at c0 c1
     have i2:(1:Int)≤(es2.length:Int):=by omega
     have i3:(es2.length:Int)≤(cap:Int):=by omega
     have i4:(es2.length:Int)≤(cap':Int):=by omega
     go_wp2_with fail
     go_roundg (gk - 1)
     case measure=>omega
     case rel=>
      refine⟨_,g,off+1,cap - 1,_,g',off'+1,cap' - 1,es2.tail,h',by rw[List.length_tail];omega,by rw[List.length_tail];omega,by rw[List.length_tail];exact (hb5.set 0 _).set 1 _,Lib.hid ((HL.out.keep ?_ ?_).next izn),((hk.trans' hk5 (fun _ _ h=>h)).setCell (p:=⟨bk,0,none⟩) (fun _=>rfl) _).setCell (p:=⟨bk,1,none⟩) (fun _=>rfl) _⟩
      ·rw[World.size_setCell,World.size_setCell];exact hk5.size
      ·intro k _ hne hkl
       rw[Below.heap_setCell _ _ _ _ hne,Below.heap_setCell _ _ _ _ hne]
       exact hk5.block k hkl hne
    ·have dh:decide ((1000000:Int)<held)=false:=by rw[decide_eq_false_iff_not];omega
     have dh4:decide ((4000:Int)<(es2.length:Int))=false:=by rw[decide_eq_false_iff_not];omega
     clear hh hh4 HS
     go_wp2_with fail
     go_returns
     exact⟨⟨_,rfl⟩,_,_,_,_,_,_,_,_,es2,held,hb,HL.out.up (by have:=hk.size;omega),hn2,HBel.out.trans (hk.below fun k hkk=>⟨by have:=HL.out.bkB;have:=HBel.out.size;omega,by have:=HL.out.bkB;omega⟩)⟩
  ·have i1:decide ((1:Int)<(es2.length:Int))=false:=by rw[decide_eq_false_iff_not];omega
   go_wp2_with fail
   go_returns
   exact⟨⟨_,rfl⟩,_,_,_,_,_,_,_,_,es2,held,hb,HL.out.up (by have:=hk.size;omega),hn2,HBel.out.trans (hk.below fun k hkk=>⟨by have:=HL.out.bkB;have:=HBel.out.size;omega,by have:=HL.out.bkB;omega⟩)⟩
end Go.Proofs.YtioehfhdoohdmaaGreatDoor.bookShare
