/- guiseref14.Runs, walked. Printed by gen_rruns.py. -/
import Derived.Test.YtioehfhdoohdmaaGreatDoorRef14
import Derived.StillTail
import Derived.Test.YtioehfhdoohdmaaGreatDoorRunsA
set_option linter.unusedVariables false
set_option linter.unusedSimpArgs false
namespace Go.Proofs.YtioehfhdoohdmaaGreatDoor
open Go.RowKit Go.Shelf BigFrame
theorem run_take_snoc {α:Type}{l:List α}{i:Nat}(h:i<l.length):l.take (i+1)=l.take i++[l[i]]:=by rw[List.take_add_one,List.getElem?_eq_getElem h];rfl
theorem run_own4 {W:World}{base:Nat}{e:TypeId}{v:Value}{n:Nat}{xs:List Value}(h:W.ownsRow base e 4 v n xs):∃(o:Option Addr) (c:Nat),v=.slice o n c∧n≤c∧c≤maxLen∧Rd W o xs∧(∀a,o=some a→base≤a.block∧a.block<W.heap.size∧a.off=0∧a.spot=none):=by
 obtain⟨hl,h⟩:=h
 rcases h with ⟨rfl,h0⟩ | ⟨g,cap,cur,rfl,h0,hg,h1,h2,h3,h4⟩
 ·subst h0
  refine⟨none,0,rfl,Nat.le_refl _,Nat.zero_le _,fun j u hj=>?_,fun a ha=>by cases ha⟩
  have:xs=[]:=List.eq_nil_of_length_eq_zero (by omega)
  subst this
  cases hj
 ·refine⟨some ⟨g,0,none⟩,cap,rfl,h1,h2,fun j u hj=>⟨g,0,rfl,?_⟩,fun a ha=>by cases ha;exact⟨h0,lt_of_block hg,rfl,rfl⟩⟩
  have hj2:=(List.getElem?_eq_some_iff.1 hj).1
  rw[←h4,List.getElem?_take_of_lt (by omega)] at hj
  simp only[World.cell?,hg]
  simpa using hj
theorem sps_sub {W:World}{s:ByteArray}{g off:Nat}{ps:List (Pl s)}(h:SpsAt W s (some ⟨g,off,none⟩) ps) (i k:Nat):SpsAt W s (some ⟨g,off+i*4,none⟩) ((ps.drop i).take k):=fun j u hj=>by
 have hlen:∀l:List (Pl s),(l.flatMap (spC s)).length=l.length*4:=fun l=>by
  induction l with
  | nil=>rfl
  | cons x t ih=>rw[List.flatMap_cons,List.length_append,ih,List.length_cons];simp[spC];omega
 have hj2:=(List.getElem?_eq_some_iff.1 hj).1
 have hi:i≤ps.length:=by
  rw[hlen,List.length_take,List.length_drop] at hj2
  omega
 obtain⟨g',off',e,hc⟩:=h (i*4+j) u (by
  rw[←List.take_append_drop i ps,List.flatMap_append,List.getElem?_append_right (by rw[hlen,List.length_take];omega),hlen,List.length_take,Nat.min_eq_left hi,Nat.add_sub_cancel_left,←List.take_append_drop k (ps.drop i),List.flatMap_append,List.getElem?_append_left hj2]
  exact hj)
 cases e
 exact⟨g,off+i*4,rfl,by rw[show off+i*4+j=off+(i*4+j) by omega];exact hc⟩
theorem take_one_more {α:Type}{l:List α}{i e:Nat}(hi:i≤e) (he:e<l.length):(l.drop i).take (e+1 - i)=(l.drop i).take (e - i)++[l[e]]:=by
 rw[show e+1 - i=(e - i)+1 by omega,run_take_snoc (by rw[List.length_drop];omega)]
 congr 2
 rw[List.getElem_drop]
 congr 1
 omega
abbrev RunV:=RunI×Value
def ruC (x:RunV):List Value:=[.int .i64 (x.1.1:Nat),.int .i64 (x.1.2.1:Nat),x.2]
structure OutAt (W:World) (base:Nat) (v:Value) (rows:List RunV):Prop where
 own:W.ownsRow base 66 3 v rows.length (rows.flatMap ruC)
 lists:∀r∈rows,W.ownsRow base 3 1 r.2 r.1.2.2.length (iV r.1.2.2)
theorem OutAt.later {W W':World}{base:Nat}{v:Value}{rows:List RunV}(h:OutAt W base v rows) (hB:Below W.heap.size W W'):OutAt W' base v rows:=⟨own_later h.own hB,fun r hr=>own_later (h.lists r hr) hB⟩
theorem info_run:(Tryz.prog.info? 66).map (fun i=>(i.zero,i.size,i.bytes))=some (some (.agg #[.int .i64 0,.int .i64 0,.slice none 0 0]),3,40):=by kernel_rfl
theorem own_beside {W W':World}{base b2 n n2 size size2:Nat}{e e2:TypeId}{v v2:Value}{xs xs2:List Value}(h:W.ownsRow base e size v n xs) (h2:W.ownsRow b2 e2 size2 v2 n2 xs2) (hne:e≠e2) (hg:W.grownBy W' v2.ownBlock):W'.ownsRow base e size v n xs:=by
 refine⟨h.1,?_⟩
 rcases h.2 with h3 | ⟨q,cap,cur,hv,q0,hq,q1⟩
 ·exact Or.inl h3
 ·refine Or.inr ⟨q,cap,cur,hv,q0,(hg.block q (lt_of_block hq) (fun ee=>?_)).trans hq,q1⟩
  rcases h2.2 with ⟨hv2,_⟩ | ⟨q2,cap2,cur2,hv2,_,hq2,_⟩
  ·rw[hv2] at ee;cases ee
  ·rw[hv2] at ee
   have e1:q=q2:=by simpa [Value.ownBlock] using ee
   rw[←e1,hq] at hq2
   simp only[Option.some.injEq,Obj.cells.injEq] at hq2
   exact hne hq2.2.1
theorem OutAt.snoc {W W':World}{base:Nat}{v v':Value}{rows:List RunV}{x:RunV}{cells:List Value}(h:OutAt W base v rows) (hc:cells=ruC x) (ho:W'.ownsRow base 66 3 v' (rows.length+1) (rows.flatMap ruC++cells)) (hg:W.grownBy W' v.ownBlock) (hx:W.ownsRow base 3 1 x.2 x.1.2.2.length (iV x.1.2.2)):OutAt W' base v' (rows++[x]):=by
 refine⟨?_,fun r hr=>?_⟩
 ·rw[show (rows++[x]).length=rows.length+1 by simp,List.flatMap_append,show ([x]:List RunV).flatMap ruC=cells by rw[hc];simp];exact ho
 ·rcases List.mem_append.1 hr with hr | hr
  ·exact own_beside (h.lists r hr) h.own (by decide) hg
  ·rw[List.mem_singleton.1 hr];exact own_beside hx h.own (by decide) hg
theorem ref_same {T:Tab}{s:ByteArray}{ps:List (Pl s)}{i e:Nat}(hi:i≤e) (he:e<ps.length) {R:List RunI}{RL:List RunI}(h:R++refS T s (ps.drop e) e i ((ps.drop i).take (e - i))=RL) (hm:mixB T s ((ps.drop i).take (e+1 - i))=false):R++refS T s (ps.drop (e+1)) (e+1) i ((ps.drop i).take (e+1 - i))=RL:=by
 rw[List.drop_eq_getElem_cons he,refS,←take_one_more hi he,hm,if_neg (by decide)] at h
 exact h
theorem ref_one {T:Tab}{s:ByteArray}{ps:List (Pl s)}{i:Nat}(he:i<ps.length) {R:List RunI}{RL:List RunI}(h:R++refS T s (ps.drop i) i i []=RL) (hm:mixB T s ((ps.drop i).take (i+1 - i))=true):(R++[(i,i+1,[])])++refS T s (ps.drop (i+1)) (i+1) (i+1) []=RL:=by
 have e1:=take_one_more (Nat.le_refl i) he
 rw[Nat.sub_self,List.take_zero,List.nil_append] at e1
 rw[e1] at hm
 rw[List.drop_eq_getElem_cons he,refS,List.nil_append,hm,if_pos rfl,if_neg (Nat.lt_irrefl _),List.nil_append,if_pos rfl] at h
 rw[List.append_assoc]
 exact h
theorem ref_cut {T:Tab}{s:ByteArray}{ps:List (Pl s)}{i e:Nat}(hi:i<e) (he:e<ps.length) {R:List RunI}{RL:List RunI}(h:R++refS T s (ps.drop e) e i ((ps.drop i).take (e - i))=RL) (hm:mixB T s ((ps.drop i).take (e+1 - i))=true):(R++[(i,e,rofL T s ((ps.drop i).take (e - i)) T.scripts.length)])++refS T s (ps.drop e) e e []=RL:=by
 rw[List.drop_eq_getElem_cons he,refS,←take_one_more (Nat.le_of_lt hi) he,hm,if_pos rfl,if_pos hi] at h
 rw[List.append_assoc,List.drop_eq_getElem_cons he,refS,List.nil_append]
 rw[←h]
 congr 2
 cases hx:mixB T s [ps[e]] with
 | true=>rw[if_pos rfl,if_neg (Nat.lt_irrefl _),List.nil_append,if_pos rfl]
 | false=>rw[if_neg (by decide),if_neg (by decide)]
theorem ref_last {T:Tab}{s:ByteArray}{ps:List (Pl s)}{i e:Nat}(hi:i<e) (he:e=ps.length) {R:List RunI}{RL:List RunI}(h:R++refS T s (ps.drop e) e i ((ps.drop i).take (e - i))=RL):(R++[(i,e,rofL T s ((ps.drop i).take (e - i)) T.scripts.length)])++refS T s (ps.drop e) e e []=RL:=by
 rw[he,List.drop_length,refS,←he,if_pos hi] at h
 rw[he,List.drop_length,refS,←he,if_neg (Nat.lt_irrefl _),List.append_nil]
 exact h
def RRPost (W:World) (l:List RunI) (e:Ending) (w':World):Prop:=∃(o:Option Addr) (c:Nat) (rows:List RunV),e=.returned (.slice o rows.length c)∧rows.map (fun r:RunV=>r.1)=l∧OutAt w' W.heap.size (.slice o rows.length c) rows∧Below W.heap.size W w'
theorem wpAny_tail {P:Program}{md:Region.Mode}{Q:Exit→Act→World→Prop}{l:List Oper}(k:Nat) {fuel:Nat}{listed:Array Bool}{a:Act}{w:World}(hk:fuel=(l.drop k).length) (hB:Region.seqB md l.toArray fuel k listed=true) (h:wpList P l.toArray Q (l.drop k) a w):wpAny P md l.toArray Q fuel listed a w:=by
 subst hk
 exact wpAny_of_seq (l.drop k) k listed a w (fun j=>by simp[List.getElem?_drop]) hB h
set_option maxRecDepth 100000 in
set_option maxHeartbeats 8000000 in
theorem rruns_any (T:Tab) (a:TAddr) (s:ByteArray) (W:World) (h:TabAt W T a) (hs:s.size≤1048576) (hl:T.scripts.length≤1048576):Calls Tryz.prog 27 #[.agg (tabCells T a),.string s] W (RRPost W (runsL T s)):=by
 obtain⟨ps,hps⟩:∃ps,places s=ps:=⟨_,rfl⟩
 have hpl:ps.length≤1048576:=by rw[←hps];exact Nat.le_trans scan_any_len hs
 obtain⟨TT,hTT⟩:∃TT:Tab,TT=T:=⟨_,rfl⟩
 obtain⟨l0,l1,l2,l3,l4,l5,l6,l7⟩:=T
 obtain⟨o0,o1,o2,o3,o4,o5,o6,o7,c0,c1,c2,c3,c4,c5,c6,c7⟩:=a
 obtain⟨hT,HTb,hB1,hz⟩:=box1 h
 simp only[tabCells] at hT HTb hB1 hz hl ⊢
 rw[←hTT]
 obtain⟨W0,hW0⟩:∃W0,(W.alloc (.cells #[.slice o0 l0.length c0,.slice o1 l1.length c1,.slice o2 l2.length c2,.slice o3 l3.length c3,.slice o4 l4.length c4,.slice o5 l5.length c5,.slice o6 l6.length c6,.slice o7 l7.length c7] 28))=W0:=⟨_,rfl⟩
 rw[hW0] at hT HTb hB1 hz
 have HW0:=Lib.hid hW0
 have HB:=Lib.hid hB1
 have HT0:=Lib.hid hT
 have HTc:=Lib.hid HTb
 have hsp:=rspots_any s W0 hs
 unfold SpotsPost at hsp
 rw[hps] at hsp
 have HSp:=Lib.hid hsp
 have H0:Hid (([]:List RunI)++refS TT s (ps.drop 0) 0 0 []=runsL TT s):=Lib.hid (by rw[←hps];rfl)
 obtain⟨RL,hRL⟩:∃l,runsL TT s=l:=⟨_,rfl⟩
 rw[hRL] at H0 ⊢
 have HMk:Hid (∀(W1:World),Below W0.heap.size W0 W1→∀(o:Option Addr) (l:List (Pl s)) (n c:Nat),l.length=n→n≤1048576→SpsAt W1 s o l→Calls Tryz.prog 53 #[.agg #[.slice o0 l0.length c0,.slice o1 l1.length c1,.slice o2 l2.length c2,.slice o3 l3.length c3,.slice o4 l4.length c4,.slice o5 l5.length c5,.slice o6 l6.length c6,.slice o7 l7.length c7],.slice o n c] W1 fun e w'=>e=.returned (.bool (mixB TT s l))∧Below W1.heap.size W1 w'):=Lib.hid (fun W1 h1 o l n c hn hn2 hsp=>by
  subst hn;rw[hTT];exact rmixed_any ⟨l0,l1,l2,l3,l4,l5,l6,l7⟩ ⟨o0,o1,o2,o3,o4,o5,o6,o7,c0,c1,c2,c3,c4,c5,c6,c7⟩ s l o c W1 (HT0.out.below h1) hsp hn2 hl)
 have HOk:Hid (∀(W1:World),Below W0.heap.size W0 W1→∀(o:Option Addr) (l:List (Pl s)) (n c:Nat),l.length=n→n≤1048576→SpsAt W1 s o l→Calls Tryz.prog 17 #[.agg #[.slice o0 l0.length c0,.slice o1 l1.length c1,.slice o2 l2.length c2,.slice o3 l3.length c3,.slice o4 l4.length c4,.slice o5 l5.length c5,.slice o6 l6.length c6,.slice o7 l7.length c7],.slice o n c] W1 (ROfPost W1 (rofL TT s l TT.scripts.length))):=Lib.hid (fun W1 h1 o l n c hn hn2 hsp=>by
  subst hn;rw[hTT];exact rof_any ⟨l0,l1,l2,l3,l4,l5,l6,l7⟩ ⟨o0,o1,o2,o3,o4,o5,o6,o7,c0,c1,c2,c3,c4,c5,c6,c7⟩ s l o c W1 (HT0.out.below h1) hsp hn2 hl)
 obtain⟨i0_,hi_,hz0,hz1,hz2⟩:=info_parts info_run
 have HI:=Lib.hid (And.intro hi_ (And.intro hz0 (And.intro hz1 hz2)))
 clear hi_ hz0 hz1 hz2 hT HTb hB1 hz h hW0 hsp hps hTT hRL
 go_enter Tryz.func27,Tryz.ntmps27
 go_wp2_with fail
 rw[HW0.out]
 clear HW0
 (with_reducible refine Calls.mono HSp.out ?_)
 rintro e W1 ⟨v,rfl,ho,hB2⟩
 obtain⟨o,c,rfl,hnc,hcm,hrd,hoo⟩:=run_own4 ho
 have HPs:Hid (SpsAt W1 s o ps):=Lib.hid hrd
 have HB2:=Lib.hid hB2
 have HBW:=Lib.hid (HB.out.trans (hB2.mono HB.out.size))
 have HTc1:=Lib.hid (fun k v hv=>cell_bel hB2 (HTc.out k v hv))
 have hz1:W0.heap.size≤W1.heap.size:=hB2.size
 clear hrd ho hB2 HSp HTc HT0 HB
 have hcm2:c≤9223372036854775807:=hcm
 go_wp2_with fail
 go_loopw [5,7] (fun v5 v7 wr=>∃(i:Nat) (rows:List RunV),v7=.int .i64 i∧i≤ps.length∧rows.length≤i∧Hid (Below W1.heap.size W1 wr)∧Hid (OutAt wr W1.heap.size v5 rows)∧Hid (rows.map (fun r:RunV=>r.1)++refS TT s (ps.drop i) i i []=RL)) (fun _ v7 _=>ps.length - (intOf v7).toNat)
 case atStart=>exact⟨0,[],rfl,Nat.zero_le _,Nat.le_refl _,Lib.hid (Below.refl _ _),Lib.hid ⟨own_nil _ _ _ _,fun r hr=>by cases hr⟩,H0⟩
 case round=>
  clear H0
  obtain⟨i,rows,rfl,hi,hrl,HV,HO,HR⟩:=hrel
  have i0:(0:Int)≤(i:Int):=Int.natCast_nonneg _
  by_cases hlt:i<ps.length
  ·have i1:(i:Int)<(ps.length:Int):=by omega
   have t0:∀y:WC wr,y.w.cell? ⟨W.heap.size,0,none⟩=some (.slice o0 l0.length c0):=WC.cell (cell_bel HV.out (HTc1.out 0 (.slice o0 l0.length c0) rfl))
   have t1:∀y:WC wr,y.w.cell? ⟨W.heap.size,1,none⟩=some (.slice o1 l1.length c1):=WC.cell (cell_bel HV.out (HTc1.out 1 (.slice o1 l1.length c1) rfl))
   have t2:∀y:WC wr,y.w.cell? ⟨W.heap.size,2,none⟩=some (.slice o2 l2.length c2):=WC.cell (cell_bel HV.out (HTc1.out 2 (.slice o2 l2.length c2) rfl))
   have t3:∀y:WC wr,y.w.cell? ⟨W.heap.size,3,none⟩=some (.slice o3 l3.length c3):=WC.cell (cell_bel HV.out (HTc1.out 3 (.slice o3 l3.length c3) rfl))
   have t4:∀y:WC wr,y.w.cell? ⟨W.heap.size,4,none⟩=some (.slice o4 l4.length c4):=WC.cell (cell_bel HV.out (HTc1.out 4 (.slice o4 l4.length c4) rfl))
   have t5:∀y:WC wr,y.w.cell? ⟨W.heap.size,5,none⟩=some (.slice o5 l5.length c5):=WC.cell (cell_bel HV.out (HTc1.out 5 (.slice o5 l5.length c5) rfl))
   have t6:∀y:WC wr,y.w.cell? ⟨W.heap.size,6,none⟩=some (.slice o6 l6.length c6):=WC.cell (cell_bel HV.out (HTc1.out 6 (.slice o6 l6.length c6) rfl))
   have t7:∀y:WC wr,y.w.cell? ⟨W.heap.size,7,none⟩=some (.slice o7 l7.length c7):=WC.cell (cell_bel HV.out (HTc1.out 7 (.slice o7 l7.length c7) rfl))
   obtain⟨g,off,ho,_,q1,_,_⟩:=SpsAt.row HPs.out hlt
   subst ho
   have hof:off=0:=(hoo _ rfl).2.2.1
   subst hof
   clear q1
   have HPw:=Lib.hid (HPs.out.below HV.out)
   have hWw:Hid (Below W0.heap.size W0 wr):=Lib.hid (HB2.out.trans (HV.out.mono HB2.out.size))
   have HMx:Hid (∀(k:Nat),k≤ps.length - i→∀(y:WC wr),Calls Tryz.prog 53 #[.agg #[.slice o0 l0.length c0,.slice o1 l1.length c1,.slice o2 l2.length c2,.slice o3 l3.length c3,.slice o4 l4.length c4,.slice o5 l5.length c5,.slice o6 l6.length c6,.slice o7 l7.length c7],.slice (some ⟨g,i*4,none⟩) k (c - i)] y.w fun e w'=>e=.returned (.bool (mixB TT s ((ps.drop i).take k)))∧∃z:WC wr,w'=z.w):=Lib.hid (fun k hk y=>WC.call (HMk.out y.w (hWw.out.trans (y.h.mono hWw.out.size)) _ _ k (c - i) (by rw[List.length_take,List.length_drop];omega) (by omega) (by have:=sps_sub (HPw.out.below y.h) i k;rw[Nat.zero_add] at this;exact this)))
   obtain⟨y,hy⟩:∃y:WC wr,y.w=wr:=⟨WC.of wr,rfl⟩
   have HR0:Hid (rows.map (fun r:RunV=>r.1)++refS TT s (ps.drop i) i i ((ps.drop i).take (i - i))=RL):=Lib.hid (by rw[Nat.sub_self];exact HR.out)
   go_wp2_with fail
   go_loopw [8] (fun v8 wi=>∃(e:Nat) (y:WC wr),v8=.int .i64 e∧i≤e∧e≤ps.length∧Hid (rows.map (fun r:RunV=>r.1)++refS TT s (ps.drop e) e i ((ps.drop i).take (e - i))=RL)∧wi=y.w) (fun v8 _=>ps.length - (intOf v8).toNat)
   case atStart=>exact⟨i,y,rfl,Nat.le_refl _,hi,HR0,hy.symm⟩
   case round=>
    clear HR0 hy y
    obtain⟨e,y,rfl,hie,hel,HR1,rfl⟩:=hrel
    have e0:(0:Int)≤(e:Int):=Int.natCast_nonneg _
    by_cases helt:e<ps.length
    ·have e1:(e:Int)<(ps.length:Int):=by omega
     have K0:=Lib.hid (HMx.out (e+1 - i) (by omega))
     have k1:((e:Int)+1 - (i:Int))=((e+1 - i:Nat):Int):=by omega
     obtain⟨mb,hmb⟩:∃b,mixB TT s ((ps.drop i).take (e+1 - i))=b:=⟨_,rfl⟩
     rw[hmb] at K0
     have HMb:=Lib.hid hmb
     clear hmb
     have hcc:¬ c=i:=by omega
     cases mb with
     | false=>
      go_upto_region 6 with fail
      refine wp_region_wc (W0:=wr) (by kernel_rfl) (by kernel_rfl) y.h ?_
      repeat (first | go_big_quiet_step (((go_at_call 53;(with_reducible exact K0.out _)))) | quiet_step (((go_at_call 53;(with_reducible exact K0.out _)))))
      refine wpQuiet_nil ?_
      rintro _ ⟨y1,rfl⟩
      have HR2:=Lib.hid (ref_same hie helt HR1.out HMb.out)
      go_wp2_with fail
      exact⟨⟨e+1,y1,by go_num,by omega,by omega,HR2,by first | rfl | trivial⟩,by simp[intOf];omega⟩
     | true=>
      go_upto_region 6 with fail
      refine wp_region_wc (W0:=wr) (by kernel_rfl) (by kernel_rfl) y.h ?_
      repeat (first | go_big_quiet_step (((go_at_call 53;(with_reducible exact K0.out _)))) | quiet_step (((go_at_call 53;(with_reducible exact K0.out _)))))
      refine wpQuiet_nil ?_
      rintro _ ⟨y1,rfl⟩
      by_cases hei:e=i
      ·subst hei
       have HR2:=Lib.hid (ref_one hlt HR.out HMb.out)
       have hown:=own_later HO.out.own y1.h
       have hz:=y1.h.size
       have hzv:=HV.out.size
       obtain⟨hq,hq0,hq1,hq2⟩:=HI.out
       go_wp2_with (at_builtin;refine wpList_append_own _ rfl _ _ 57 rfl W1.heap.size 66 i0_ _ 3 40 Tryz.underlying57 hq hq0 hq1 hq2 rfl (by decide) _ rows.length (rows.flatMap ruC) rfl (hown.alloc _) ⟨y1.w.heap.size,0,none⟩ 1 1 [.int .i64 e,.int .i64 (e+1),.slice none 0 0] rfl rfl (new_cells _ _ (by simp) [.int .i64 e,.int .i64 (e+1),.slice none 0 0] _) (by simp[Value.oneCell']) (by unfold maxLen;omega) (by omega) (by simp at hz ⊢;omega) ?_;intro v' w4 hown' hgrow _)
       have HO4:=Lib.hid (OutAt.snoc (x:=((e,e+1,[]),.slice none 0 0)) (HO.out.later (y1.h.alloc y1.h.size _)) (by simp[ruC]) hown' hgrow (own_nil _ _ _ _))
       have HV4:Hid (Below W1.heap.size W1 w4):=Lib.hid (((HV.out.trans (y1.h.mono HV.out.size)).alloc (by omega) _).grown hgrow (by simp;omega) (fun k e=>by have:=(hown.lt k e).1;omega))
       clear hown' hgrow hown hq hq0 hq1 hq2
       go_wp2_with fail
       exact⟨⟨e+1,rows++[((e,e+1,[]),.slice none 0 0)],by go_num,by omega,by simp;omega,HV4,HO4,Lib.hid (by rw[List.map_append];exact HR2.out)⟩,by simp[intOf];omega⟩
      ·have hii:i<e:=by omega
       have HR2:=Lib.hid (ref_cut hii helt HR1.out HMb.out)
       have KO:Hid (∀y:WC wr,Calls Tryz.prog 17 #[.agg #[.slice o0 l0.length c0,.slice o1 l1.length c1,.slice o2 l2.length c2,.slice o3 l3.length c3,.slice o4 l4.length c4,.slice o5 l5.length c5,.slice o6 l6.length c6,.slice o7 l7.length c7],.slice (some ⟨g,i*4,none⟩) (e - i) (c - i)] y.w (ROfPost y.w (rofL TT s ((ps.drop i).take (e - i)) TT.scripts.length))):=Lib.hid (fun y=>HOk.out y.w (hWw.out.trans (y.h.mono hWw.out.size)) _ ((ps.drop i).take (e - i)) (e - i) (c - i) (by rw[List.length_take,List.length_drop];omega) (by omega) (by have:=sps_sub (HPw.out.below y.h) i (e - i);rw[Nat.zero_add] at this;exact this))
       obtain⟨rf,hrf⟩:∃r,(rofL TT s ((ps.drop i).take (e - i)) TT.scripts.length)=r:=⟨_,rfl⟩
       rw[hrf] at KO HR2
       clear hrf
       have hei2:¬ (e:Int)=(i:Int):=by omega
       have hlt2:i<e:=by omega
       go_upto_region 11 with fail
       refine wp_region_any (by kernel_rfl) ?_
       change wpAny _ _ _ _ _ _ _ (World.drew _)
       obtain⟨y2,hy2⟩:∃y2:WC wr,y2.w=y1.w.drew:=⟨⟨y1.w.drew,y1.h.drew⟩,rfl⟩
       rw[←hy2]
       clear hy2
       refine wpAny_take (i:=0) (v:=u5) rfl (by kernel_rfl) (by kernel_rfl) (by kernel_rfl) (fun _ _ _ h=>h) (Or.inl ⟨by rfl,fun w=>by go_simp⟩) ?_
       refine wpAny_take (i:=1) (v:=.int .i64 i) rfl (by kernel_rfl) (by kernel_rfl) (by kernel_rfl) (fun _ _ _ h=>h) (Or.inl ⟨by rfl,fun w=>by go_simp⟩) ?_
       refine wpAny_take (i:=2) (v:=.int .i64 e) rfl (by kernel_rfl) (by kernel_rfl) (by kernel_rfl) (fun _ _ _ h=>h) (Or.inl ⟨by rfl,fun w=>by go_simp⟩) ?_
       refine wpAny_take (i:=4) (v:=.slice (some ⟨g,0,none⟩) ps.length c) rfl (by kernel_rfl) (by kernel_rfl) (by kernel_rfl) (fun _ _ _ h=>h) (Or.inl ⟨by rfl,fun w=>by go_simp⟩) ?_
       refine wpAny_take (i:=5) (v:=.int .i64 i) rfl (by kernel_rfl) (by kernel_rfl) (by kernel_rfl) (fun _ _ _ h=>h) (Or.inl ⟨by rfl,fun w=>by go_simp⟩) ?_
       refine wpAny_take (i:=6) (v:=.int .i64 e) rfl (by kernel_rfl) (by kernel_rfl) (by kernel_rfl) (fun _ _ _ h=>h) (Or.inl ⟨by rfl,fun w=>by go_simp⟩) ?_
       refine wpAny_take (i:=7) (v:=.slice (some ⟨g,i*4,none⟩) (e - i) (c - i)) rfl (by kernel_rfl) (by kernel_rfl) (by kernel_rfl) (fun _ _ _ h=>h) (Or.inl ⟨by rfl,fun w=>by go_simp;try (intro h;omega)⟩) ?_
       refine wpAny_ready (rs:=[3]) (by kernel_rfl) (by simp) (AllReady.cons rfl (fun K hK=>?_) AllReady.nil)
       go_simp
       refine hK _ _ ?_
       clear hK K
       refine wpAny_tail 8 rfl (by kernel_rfl) ?_
       simp only[List.drop_succ_cons,List.drop_zero]
       go_wp2_with fail
       (with_reducible refine Calls.mono (KO.out y2) ?_)
       rintro e' w5 ⟨oo,cc,rfl,ho5,hB5⟩
       have HO5:=Lib.hid ho5
       have hB25:=y2.h.trans (hB5.mono y2.h.size)
       have HB5:=Lib.hid hB25
       clear KO ho5 hB5
       have hown:=own_later HO.out.own hB25
       have hz:=hB25.size
       have hzv:=HV.out.size
       obtain⟨hq,hq0,hq1,hq2⟩:=HI.out
       clear hB25
       go_wp2_with (at_builtin;refine wpList_append_own _ rfl _ _ 57 rfl W1.heap.size 66 i0_ _ 3 40 Tryz.underlying57 hq hq0 hq1 hq2 rfl (by decide) _ rows.length (rows.flatMap ruC) rfl (hown.alloc _) ⟨w5.heap.size,0,none⟩ 1 1 [.int .i64 i,.int .i64 e,.slice oo rf.length cc] rfl rfl (new_cells _ _ (by simp) [.int .i64 i,.int .i64 e,.slice oo rf.length cc] _) (by simp[Value.oneCell']) (by unfold maxLen;omega) (by omega) (by simp at hz ⊢;omega) ?_;intro v' w4 hown' hgrow _)
       have HO4:=Lib.hid (OutAt.snoc (x:=((i,e,rf),.slice oo rf.length cc)) (HO.out.later (HB5.out.alloc HB5.out.size _)) (by simp[ruC]) hown' hgrow (own_later (own_base HO5.out (Nat.le_trans hzv y2.h.size)) ((Below.refl _ w5).alloc (Nat.le_refl _) _)))
       have HV4:Hid (Below W1.heap.size W1 w4):=Lib.hid (((HV.out.trans (HB5.out.mono HV.out.size)).alloc (by omega) _).grown hgrow (by simp;omega) (fun k e=>by have:=(hown.lt k e).1;omega))
       clear hown' hgrow hown hq hq0 hq1 hq2
       go_wp2_with fail
       exact⟨⟨e,rows++[((i,e,rf),.slice oo rf.length cc)],by go_num,by omega,by simp;omega,HV4,HO4,Lib.hid (by rw[List.map_append];exact HR2.out)⟩,by simp[intOf];omega⟩
    ·have hee:Hid (e=ps.length):=Lib.hid (by omega)
     have hii:i<e:=by omega
     have hcc:¬ c=i:=by omega
     go_upto_region 6 with fail
     refine wp_region_wc (W0:=wr) (by kernel_rfl) (by kernel_rfl) y.h ?_
     repeat (first | go_big_quiet_step (fail) | quiet_step (fail))
     refine wpQuiet_nil ?_
     rintro _ ⟨y1,rfl⟩
     have HR2:=Lib.hid (ref_last hii hee.out HR1.out)
     have KO:Hid (∀y:WC wr,Calls Tryz.prog 17 #[.agg #[.slice o0 l0.length c0,.slice o1 l1.length c1,.slice o2 l2.length c2,.slice o3 l3.length c3,.slice o4 l4.length c4,.slice o5 l5.length c5,.slice o6 l6.length c6,.slice o7 l7.length c7],.slice (some ⟨g,i*4,none⟩) (e - i) (c - i)] y.w (ROfPost y.w (rofL TT s ((ps.drop i).take (e - i)) TT.scripts.length))):=Lib.hid (fun y=>HOk.out y.w (hWw.out.trans (y.h.mono hWw.out.size)) _ ((ps.drop i).take (e - i)) (e - i) (c - i) (by rw[List.length_take,List.length_drop];omega) (by omega) (by have:=sps_sub (HPw.out.below y.h) i (e - i);rw[Nat.zero_add] at this;exact this))
     obtain⟨rf,hrf⟩:∃r,(rofL TT s ((ps.drop i).take (e - i)) TT.scripts.length)=r:=⟨_,rfl⟩
     rw[hrf] at KO HR2
     clear hrf
     have hei2:¬ (e:Int)=(i:Int):=by omega
     have hlt2:i<e:=by omega
     go_upto_region 11 with fail
     refine wp_region_any (by kernel_rfl) ?_
     change wpAny _ _ _ _ _ _ _ (World.drew _)
     obtain⟨y2,hy2⟩:∃y2:WC wr,y2.w=y1.w.drew:=⟨⟨y1.w.drew,y1.h.drew⟩,rfl⟩
     rw[←hy2]
     clear hy2
     refine wpAny_take (i:=0) (v:=u5) rfl (by kernel_rfl) (by kernel_rfl) (by kernel_rfl) (fun _ _ _ h=>h) (Or.inl ⟨by rfl,fun w=>by go_simp⟩) ?_
     refine wpAny_take (i:=1) (v:=.int .i64 i) rfl (by kernel_rfl) (by kernel_rfl) (by kernel_rfl) (fun _ _ _ h=>h) (Or.inl ⟨by rfl,fun w=>by go_simp⟩) ?_
     refine wpAny_take (i:=2) (v:=.int .i64 e) rfl (by kernel_rfl) (by kernel_rfl) (by kernel_rfl) (fun _ _ _ h=>h) (Or.inl ⟨by rfl,fun w=>by go_simp⟩) ?_
     refine wpAny_take (i:=4) (v:=.slice (some ⟨g,0,none⟩) ps.length c) rfl (by kernel_rfl) (by kernel_rfl) (by kernel_rfl) (fun _ _ _ h=>h) (Or.inl ⟨by rfl,fun w=>by go_simp⟩) ?_
     refine wpAny_take (i:=5) (v:=.int .i64 i) rfl (by kernel_rfl) (by kernel_rfl) (by kernel_rfl) (fun _ _ _ h=>h) (Or.inl ⟨by rfl,fun w=>by go_simp⟩) ?_
     refine wpAny_take (i:=6) (v:=.int .i64 e) rfl (by kernel_rfl) (by kernel_rfl) (by kernel_rfl) (fun _ _ _ h=>h) (Or.inl ⟨by rfl,fun w=>by go_simp⟩) ?_
     refine wpAny_take (i:=7) (v:=.slice (some ⟨g,i*4,none⟩) (e - i) (c - i)) rfl (by kernel_rfl) (by kernel_rfl) (by kernel_rfl) (fun _ _ _ h=>h) (Or.inl ⟨by rfl,fun w=>by go_simp;try (intro h;omega)⟩) ?_
     refine wpAny_ready (rs:=[3]) (by kernel_rfl) (by simp) (AllReady.cons rfl (fun K hK=>?_) AllReady.nil)
     go_simp
     refine hK _ _ ?_
     clear hK K
     refine wpAny_tail 8 rfl (by kernel_rfl) ?_
     simp only[List.drop_succ_cons,List.drop_zero]
     go_wp2_with fail
     (with_reducible refine Calls.mono (KO.out y2) ?_)
     rintro e' w5 ⟨oo,cc,rfl,ho5,hB5⟩
     have HO5:=Lib.hid ho5
     have hB25:=y2.h.trans (hB5.mono y2.h.size)
     have HB5:=Lib.hid hB25
     clear KO ho5 hB5
     have hown:=own_later HO.out.own hB25
     have hz:=hB25.size
     have hzv:=HV.out.size
     obtain⟨hq,hq0,hq1,hq2⟩:=HI.out
     clear hB25
     go_wp2_with (at_builtin;refine wpList_append_own _ rfl _ _ 57 rfl W1.heap.size 66 i0_ _ 3 40 Tryz.underlying57 hq hq0 hq1 hq2 rfl (by decide) _ rows.length (rows.flatMap ruC) rfl (hown.alloc _) ⟨w5.heap.size,0,none⟩ 1 1 [.int .i64 i,.int .i64 e,.slice oo rf.length cc] rfl rfl (new_cells _ _ (by simp) [.int .i64 i,.int .i64 e,.slice oo rf.length cc] _) (by simp[Value.oneCell']) (by unfold maxLen;omega) (by omega) (by simp at hz ⊢;omega) ?_;intro v' w4 hown' hgrow _)
     have HO4:=Lib.hid (OutAt.snoc (x:=((i,e,rf),.slice oo rf.length cc)) (HO.out.later (HB5.out.alloc HB5.out.size _)) (by simp[ruC]) hown' hgrow (own_later (own_base HO5.out (Nat.le_trans hzv y2.h.size)) ((Below.refl _ w5).alloc (Nat.le_refl _) _)))
     have HV4:Hid (Below W1.heap.size W1 w4):=Lib.hid (((HV.out.trans (HB5.out.mono HV.out.size)).alloc (by omega) _).grown hgrow (by simp;omega) (fun k e=>by have:=(hown.lt k e).1;omega))
     clear hown' hgrow hown hq hq0 hq1 hq2
     go_wp2_with fail
     exact⟨⟨e,rows++[((i,e,rf),.slice oo rf.length cc)],by go_num,by omega,by simp;omega,HV4,HO4,Lib.hid (by rw[List.map_append];exact HR2.out)⟩,by simp[intOf];omega⟩
  ·obtain rfl:i=ps.length:=by omega
   have hfin:rows.map (fun r:RunV=>r.1)=RL:=by have:=HR.out;rw[List.drop_length,refS,if_neg (Nat.lt_irrefl _),List.append_nil] at this;exact this
   have hsh:∃(o:Option Addr) (c:Nat),u5=.slice o rows.length c:=by
    rcases HO.out.own.2 with ⟨e,h0⟩ | ⟨g,cap,cur,e,_⟩
    ·exact⟨none,0,by rw[e,h0]⟩
    ·exact⟨_,_,e⟩
   obtain⟨o5,c5,rfl⟩:=hsh
   have HFin:=Lib.hid hfin
   clear hfin hlt hi i0
   go_wp2_with fail
   go_ret
   exact⟨o5,c5,rows,rfl,HFin.out,⟨own_base HO.out.own (Nat.le_trans HBW.out.size (Nat.le_refl _)),fun r hr=>own_base (HO.out.lists r hr) HBW.out.size⟩,HBW.out.trans (HV.out.mono HBW.out.size)⟩
end Go.Proofs.YtioehfhdoohdmaaGreatDoor
