/- CutA: CutW, CountW, JoinsU. -/
import Derived.Test.YtioehfhdoohdmaaGreatDoorKindsA
import Derived.Test.YtioehfhdoohdmaaGreatDoorTabA
import Derived.Test.YtioehfhdoohdmaaGreatDoorSpotA
import Derived.Test.YtioehfhdoohdmaaGreatDoorLex
set_option linter.unusedVariables false
set_option linter.unusedSimpArgs false
namespace Go.Proofs.YtioehfhdoohdmaaGreatDoor
open Go.RowKit Go.Shelf
def clampN (s:ByteArray) (n:Int):Nat:=(min (max n 0) (s.size:Int)).toNat
def wideOver (s:ByteArray) (p f:Nat):Prop:=1<(Utf8.decode s f).2∧p<f+(Utf8.decode s f).2
def CutIs (s:ByteArray) (k p:Nat):Prop:=(p=k∧∀f,k≤f+3→f<k→¬ wideOver s k f)∨(p<k∧wideOver s k p)
theorem CutIs.reach {s:ByteArray}{k p:Nat}(h:CutIs s k p) (hk:k≤s.size):p≤s.size∧Reach s p 0:=by
 rcases h with ⟨rfl,h⟩ | ⟨h1,h2⟩
 ·exact⟨hk,reach_none hk h⟩
 ·exact⟨by omega,reach_wide (by omega) h2.1⟩
def CutPost (W:World) (s:ByteArray) (n:Int) (e:Ending) (w':World):Prop:=∃p,CutIs s (clampN s n) p∧p≤s.size∧e=.returned (.tuple #[.string (s.extract 0 p),.string (s.extract p s.size)])∧Below W.heap.size W w'
theorem tabs_later {W W':World}(h:Lib.Utf8Tabs 0 1 W) (hB:Below W.heap.size W W'):Lib.Utf8Tabs 0 1 W':=Utf8Tabs_below h hB
theorem clamp_le (s:ByteArray) (n:Int):clampN s n≤s.size:=by unfold clampN;omega
set_option maxRecDepth 100000 in
set_option maxHeartbeats 4000000 in
theorem cut_any (s:ByteArray) (n:Int) (W:World) (hs:s.size≤4194304) (hz:Lib.Utf8Tabs 0 1 W):Calls Tryz.prog 32 #[.string s,.int .i64 n] W (CutPost W s n):=by
 obtain⟨k,hk⟩:∃k,clampN s n=k:=⟨_,rfl⟩
 have hle:k≤s.size:=by rw[←hk];exact clamp_le s n
 have hk1:(k:Int)=min (max n 0) (s.size:Int):=by rw[←hk];unfold clampN;omega
 unfold CutPost
 rw[hk]
 have HZ:=Lib.hid hz
 have HK:=Lib.hid hk1
 clear hz hk hk1
 go_enter Tryz.func32,Tryz.ntmps32
 go_upto_region 3 with fail
 rw[←HK.out]
 rw[show max ((k:Int) - 4+1) 0=((k - 3:Nat):Int) by omega]
 clear HK
 go_loopw [1,6,7,8] (fun v1 v6 v7 v8 wr=>∃p f:Nat,v1=.int .i64 p∧v6=.int .i64 f∧p≤s.size∧f≤s.size+1∧Hid ((p=k∧f≤k∧∀g,k≤g+3→g<f→¬ wideOver s k g)∨(p<k∧wideOver s k p∧f=p+1))∧Below W.heap.size W wr) (fun v1 v6 v7 v8 _=>(intOf v1).toNat - (intOf v6).toNat)
 case atStart=>exact⟨k,k - 3,rfl,rfl,hle,by omega,Lib.hid (Or.inl ⟨rfl,by omega,fun g h1 h2=>by omega⟩),Below.refl _ _⟩
 case round=>
  obtain⟨p,f,rfl,rfl,hp,hf,HR,hB⟩:=hrel
  by_cases hlt:f<p
  ·have i1:(f:Int)<(p:Int):=by omega
   have hR:=HR.out
   obtain⟨rfl,_,hno⟩:p=k∧f≤k∧∀g,k≤g+3→g<f→¬ wideOver s k g:=by
    rcases hR with h | ⟨_,_,h⟩
    ·exact h
    ·omega
   have HNo:=Lib.hid hno
   have hfs:f<s.size:=by omega
   have hdg:=decodeGo_tail hfs
   have hd:=fun W h=>Tryz.utf8_DecodeRuneInString (s.extract f s.size) W h
   rw[hdg] at hd
   have HD:=Lib.hid hd
   have HBB:=Lib.hid hB
   have HW:Hid (wideOver s p f↔(1<(Utf8.decode s f).2∧p<f+(Utf8.decode s f).2)):=Lib.hid Iff.rfl
   have hw4:=(dec_width s f).2
   have hrb:=dec_rune s f
   generalize (Utf8.decode s f).1=R at *
   generalize (Utf8.decode s f).2=K at *
   have hR0:(0:Int)≤(R:Int):=Int.natCast_nonneg _
   clear hR HR hdg hd hno hB
   go_wp2_with fail
   refine Calls.mono (HD.out _ (tabs_later HZ.out HBB.out)) ?_
   rintro e w1 ⟨rfl,hB1⟩
   have HB1:=Lib.hid (HBB.out.trans (hB1.mono HBB.out.size))
   clear hB1 HD HBB
   by_cases c1:1<K
   ·have d1:(1:Int)<(K:Int):=by omega
    by_cases c2:p<f+K
    ·have d2:(p:Int)<(f:Int)+(K:Int):=by omega
     go_wp2_with fail
     exact⟨⟨f,f+1,rfl,by go_num,by omega,by omega,Lib.hid (Or.inr ⟨hlt,HW.out.2 ⟨c1,c2⟩,rfl⟩),HB1.out⟩,by simp[intOf];omega⟩
    ·have d2:decide ((p:Int)<(f:Int)+(K:Int))=false:=by rw[decide_eq_false_iff_not];omega
     go_wp2_with fail
     exact⟨⟨p,f+1,rfl,by go_num,by omega,by omega,Lib.hid (Or.inl ⟨rfl,by omega,fun g h1 h2 hw=>by
      by_cases hg:g=f
      ·subst hg;exact c2 (HW.out.1 hw).2
      ·exact HNo.out g h1 (by omega) hw⟩),HB1.out⟩,by simp[intOf];omega⟩
   ·have d1:decide ((1:Int)<(K:Int))=false:=by rw[decide_eq_false_iff_not];omega
    go_wp2_with fail
    exact⟨⟨p,f+1,rfl,by go_num,by omega,by omega,Lib.hid (Or.inl ⟨rfl,by omega,fun g h1 h2 hw=>by
     by_cases hg:g=f
     ·subst hg;exact c1 (HW.out.1 hw).1
     ·exact HNo.out g h1 (by omega) hw⟩),HB1.out⟩,by simp[intOf];omega⟩
  ·have i1:decide ((f:Int)<(p:Int))=false:=by rw[decide_eq_false_iff_not];omega
   have HC:Hid (CutIs s k p):=Lib.hid (by
    rcases HR.out with ⟨h1,h2,h3⟩ | ⟨h1,h2,_⟩
    ·exact Or.inl ⟨h1,fun g h4 h5=>h3 g h4 (by omega)⟩
    ·exact Or.inr ⟨h1,h2⟩)
   have HBB:=Lib.hid hB
   clear HR hB
   have hp2:(p:Int)≤(s.size:Int):=by omega
   go_wp2_with fail
   go_quiet (fail)
   go_wp2_with fail
   go_ret2
   exact⟨p,HC.out,hp,rfl,Go.below_drewN HBB.out _⟩
end Go.Proofs.YtioehfhdoohdmaaGreatDoor
namespace Go.Proofs.YtioehfhdoohdmaaGreatDoor
open Go.RowKit Go.Shelf
set_option maxHeartbeats 2000000 in
set_option maxRecDepth 100000 in
theorem count_any (s:ByteArray) (w:World) (hs:s.size≤1048576):Calls Tryz.prog 30 #[.string s] w fun e w'=>e=.returned (.int .i64 (places s).length)∧Below w.heap.size w w':=by
 obtain⟨N,hN⟩:∃N,(places s).length=N:=⟨_,rfl⟩
 rw[hN]
 have H0:Hid (0+(placesFrom s 0).length=N):=Lib.hid (by rw[Nat.zero_add];exact hN)
 clear hN
 go_enter Tryz.func30,Tryz.ntmps30
 go_wp2_with fail
 have hi0:Itr (w.iter s 0) w.heap.size s 0:=Itr.new w s 0
 have hk0:Keep (fun _=>False) w (w.iter s 0):=(Keep.refl _ w).iter _ _
 generalize w.iter s 0=W0 at *
 go_loopg [3] s.size (fun f v3 wr=>∃i c:Nat,v3=.int .i64 c∧i≤s.size∧s.size - i≤f∧c≤i∧Hid (c+(placesFrom s i).length=N)∧Itr wr w.heap.size s i∧Keep (fun _=>False) w wr)
 case atStart=>exact⟨0,0,rfl,by omega,by omega,by omega,H0,hi0,hk0⟩
 case round=>
  clear H0 hi0 hk0
  obtain⟨i,c,rfl,hi,hf,hc,HN,hi1,hk1⟩:=hrel
  by_cases hlt:i<s.size
  ·have hw:=dec_width s i
   have hle:=dec_fits hlt
   have hn:=fun ty=>Lib.run_next_any_at (P:=Tryz.prog) wr _ _ _ ty hi1 hlt
   have HN2:Hid (c+1+(placesFrom s (i+(Utf8.decode s i).2)).length=N):=Lib.hid (by have:=HN.out;rw[places_step hlt,List.length_cons] at this;omega)
   generalize hR:(Utf8.decode s i).1=R at *
   generalize hK:(Utf8.decode s i).2=K at *
   have HR:=Lib.hid hR
   have HK:=Lib.hid hK
   clear hR hK HN
   go_wp2_with fail
   all_goals go_roundg (s.size - (i+K))
   case measure=>omega
   ·exact⟨i+K,c+1,by go_num,by omega,by omega,by omega,HN2,hi1.at _,hk1.iterAt (by omega) _ _⟩
  ·have hn:=fun ty=>Lib.run_next_end_at (P:=Tryz.prog) wr _ _ _ ty hi1 (by omega)
   have HE:Hid (c=N):=Lib.hid (by have:=HN.out;rw[places_end (by omega)] at this;exact this)
   clear HN
   go_wp2_with fail
   go_ret
   exact⟨by rw[←HE.out];rfl,hk1.below fun k hk=>⟨hk,fun h=>h⟩⟩
theorem first_bad {s:ByteArray}(h:0<s.size):(!goodAt s 0)=(decide (((Utf8.decode s 0).1:Nat)=65533) && decide ((Utf8.decode s 0).2=1)):=by
 cases hg:goodAt s 0 with
 | true=>
  have h1:=good_iff.1 hg
  by_cases h2:(Utf8.decode s 0).2=1
  ·have hb:B s 0<128:=by rcases h1 with h1 | h1 <;> omega
   have:(Utf8.decode s 0).1=B s 0:=by rw[dec_ascii hb]
   rw[decide_eq_false (by omega:¬ (Utf8.decode s 0).1=65533)];rfl
  ·rw[decide_eq_false h2,Bool.and_false];rfl
 | false=>rw[bad_dec hg];rfl
set_option maxRecDepth 100000 in
set_option maxHeartbeats 2000000 in
theorem first_any (s:ByteArray) (w:World) (hs:0<s.size) (hz:Lib.Utf8Tabs 0 1 w):Calls Tryz.prog 35 #[.string s] w fun e w'=>e=.returned (.tuple #[.agg #[.int .i32 (Utf8.decode s 0).1,.int .i64 (Utf8.decode s 0).2,.bool (!goodAt s 0)],.bool true])∧Below w.heap.size w w':=by
 have hb:=first_bad hs
 have hl:s.toList.isEmpty=false:=by
  cases e:s.toList with
  | nil=>have:=congrArg List.length e;rw[ByteArray.toList_eq,Array.length_toList] at this;have h2:s.size=s.data.size:=rfl;simp only[List.length_nil] at this;omega
  | cons x t=>rfl
 have hl2:¬ s.toList=[]:=fun e=>by rw[e] at hl;cases hl
 have hdg:Lib.decodeGo s=Utf8.decode s 0:=by have:=decodeGo_tail (s:=s) (p:=0) hs;rwa [show s.extract 0 s.size=s by simp] at this
 have hd:=fun W h=>Tryz.utf8_DecodeRuneInString s W h
 rw[hdg] at hd
 have HD:=Lib.hid hd
 have HSp:=Lib.hid (fun W=>spot_any (Utf8.decode s 0).1 (Utf8.decode s 0).2 (!goodAt s 0) hb W)
 have HZ:=Lib.hid hz
 generalize (Utf8.decode s 0).1=R at *
 generalize (Utf8.decode s 0).2=K at *
 generalize (!goodAt s 0)=bad at *
 clear hb hd hz hdg
 go_enter Tryz.func35,Tryz.ntmps35
 go_wp2_with fail
 refine Calls.mono (HD.out _ (Utf8Tabs_below HZ.out ((Below.refl _ w).alloc (Nat.le_refl _) _))) ?_
 rintro e w1 ⟨rfl,hB1⟩
 have hB0:Below w.heap.size w (w.alloc (.cells #[.int .i32 0,.int .i64 0,.bool false] 77)):=(Below.refl _ w).alloc (Nat.le_refl _) _
 have b0:=(Blk.new' w #[.int .i32 0,.int .i64 0,.bool false] 77).keep (Keep.of_below hB1 (fun _=>False)) (by simp)
 have HB1:=Lib.hid (hB0.trans (hB1.mono hB0.size))
 clear hB1 hB0 HD
 go_wp2_with fail
 refine Calls.mono (HSp.out _) ?_
 rintro e w2 ⟨rfl,rfl⟩
 have b1:=b0.alloc (.cells #[.int .i32 R,.int .i64 K,.bool bad] 77)
 have HB2:=Lib.hid (HB1.out.alloc HB1.out.size (.cells #[.int .i32 R,.int .i64 K,.bool bad] 77))
 generalize w1.alloc (.cells #[.int .i32 R,.int .i64 K,.bool bad] 77)=W2 at *
 have c0:=b1.cell 0
 have c1:=b1.cell 1
 have c2:=b1.cell 2
 have f0:=b1.frozen 0
 have f1:=b1.frozen 1
 have f2:=b1.frozen 2
 dsimp only[List.getElem?_cons_zero,List.getElem?_cons_succ] at c0 c1 c2
 have HB1b:=Lib.hid b1
 clear b0 b1 HB1
 go_wp2_with fail
 have k3:=((HB1b.out.set 0 (.int .i32 R)).set 1 (.int .i64 K)).set 2 (.bool bad)
 have r0:=k3.cell 0
 have r1:=k3.cell 1
 have r2:=k3.cell 2
 simp only[List.set_cons_zero,List.set_cons_succ,List.getElem?_cons_zero,List.getElem?_cons_succ] at r0 r1 r2
 refine bodyPost_ret (v:=.tuple #[.agg #[.int .i32 R,.int .i64 K,.bool bad],.bool true]) (by simp[results,Tryz.results35,go_sem,r0,r1,r2]) rfl ⟨rfl,((HB2.out.setCell (Nat.le_refl _) _).setCell (Nat.le_refl _) _).setCell (Nat.le_refl _) _⟩
end Go.Proofs.YtioehfhdoohdmaaGreatDoor
namespace Go.Proofs.YtioehfhdoohdmaaGreatDoor
open Go.RowKit Go.Shelf
theorem B_append (x t:ByteArray) (i:Nat):B (x++t) i=if i<x.size then B x i else B t (i - x.size):=by
 unfold B
 by_cases h:i<x.size
 ·rw[if_pos h,dif_pos (by rw[ByteArray.size_append];omega),dif_pos h]
  rw[ByteArray.getElem_append_left h]
 ·rw[if_neg h]
  by_cases h2:i<x.size+t.size
  ·rw[dif_pos (by rw[ByteArray.size_append];omega),dif_pos (by omega)]
   rw[ByteArray.getElem_append_right (by omega)]
  ·rw[dif_neg (by rw[ByteArray.size_append];omega),dif_neg (by omega)]
theorem seam_law (s t:ByteArray) (h:∀g,(s.extract (s.size - 3) s.size).size≤g+3→g<(s.extract (s.size - 3) s.size).size→¬ wideOver (s.extract (s.size - 3) s.size++t.extract 0 (min t.size 3)) (s.extract (s.size - 3) s.size).size g):Reach (s++t) s.size 0:=by
 have hz:(s.extract (s.size - 3) s.size).size=s.size - (s.size - 3):=by simp
 have hz2:(t.extract 0 (min t.size 3)).size=min t.size 3:=by simp
 have hzz:(s++t).size=s.size+t.size:=ByteArray.size_append
 refine reach_none (by omega) fun f h1 h2 hw=>?_
 have hw4:=(dec_width (s++t) f).2
 have hfit:=dec_fits (s:=s++t) (i:=f) (by omega)
 have hg:=(wide_lead hw.1).2
 have hs:=good_same (s':=s.extract (s.size - 3) s.size++t.extract 0 (min t.size 3)) (i':=f - (s.size - 3)) hg (by rw[ByteArray.size_append,hz,hz2];omega) (fun j hj=>by
  rw[B_append,B_append,hz]
  by_cases hj2:f - (s.size - 3)+j<s.size - (s.size - 3)
  ·rw[if_pos hj2,if_pos (by omega),B_extract s _ _ _ (by omega) (Nat.le_refl _)]
   congr 1;omega
  ·rw[if_neg hj2,if_neg (by omega),B_extract t _ _ _ (by omega) (by omega)]
   congr 1;omega)
 refine h (f - (s.size - 3)) (by omega) (by omega) ?_
 unfold wideOver
 rw[hs.1,hz]
 exact⟨hw.1,by have:=hw.2;omega⟩
set_option maxRecDepth 100000 in
set_option maxHeartbeats 2000000 in
theorem bound_at (s:ByteArray) (k:Nat) (W:World) (hs:s.size≤4194304) (hk:k≤s.size) (hz:Lib.Utf8Tabs 0 1 W):Calls Tryz.prog 62 #[.string s,.int .i64 k] W fun e w'=>∃b:Bool,e=.returned (.bool b)∧(b=true→∀f,k≤f+3→f<k→¬ wideOver s k f)∧Below W.heap.size W w':=by
 have hc:=cut_any s k W hs hz
 have hcl:clampN s k=k:=by unfold clampN;omega
 unfold CutPost at hc
 rw[hcl] at hc
 have HC:=Lib.hid hc
 have i1:¬ ((k:Int)<0):=by omega
 have i2:decide ((k:Int)<0)=false:=by rw[decide_eq_false_iff_not];omega
 have i3:decide ((s.size:Int)<(k:Int))=false:=by rw[decide_eq_false_iff_not];omega
 clear hc hz hcl
 go_enter Tryz.func62,Tryz.ntmps62
 go_wp2_with fail
 refine Calls.mono HC.out ?_
 rintro e w1 ⟨p,hp,hps,rfl,hB⟩
 have HP:=Lib.hid hp
 have HB:=Lib.hid hB
 have hsz:(s.extract 0 p).size=p:=by simp;omega
 clear hp hB HC
 by_cases hpk:p=k
 ·have d:((p:Int) == (k:Int))=true:=by simp[hpk]
  go_wp2_with fail
  try go_ret
  refine⟨_,rfl,fun _=>?_,HB.out⟩
  rcases HP.out with h | h
  ·exact h.2
  ·exact absurd hpk (by omega)
 ·have d:((p:Int) == (k:Int))=false:=by rw[beq_eq_false_iff_ne];omega
  go_wp2_with fail
  try go_ret
  exact⟨false,rfl,fun h=>(by cases h),HB.out⟩
set_option maxRecDepth 100000 in
set_option maxHeartbeats 2000000 in
theorem joins_any (s t:ByteArray) (W:World) (hs:s.size≤1048576) (ht:t.size≤1048576) (hz:Lib.Utf8Tabs 0 1 W):Calls Tryz.prog 36 #[.string s,.string t] W fun e w'=>∃b:Bool,e=.returned (.bool b)∧(b=true→Reach (s++t) s.size 0)∧Below W.heap.size W w':=by
 have hlaw:=Lib.hid (seam_law s t)
 have e1:max ((s.size:Int) - 4+1) 0=((s.size - 3:Nat):Int):=by omega
 have e2:min (t.size:Int) 3=((min t.size 3:Nat):Int):=by omega
 have z1:(s.extract (s.size - 3) s.size).size≤3:=by simp;omega
 have z2:(t.extract 0 (min t.size 3)).size≤3:=by simp;omega
 have hb:=bound_at (s.extract (s.size - 3) s.size++t.extract 0 (min t.size 3)) (s.extract (s.size - 3) s.size).size W (by rw[ByteArray.size_append];omega) (by rw[ByteArray.size_append];omega) hz
 have HB:=Lib.hid hb
 have y1:((s.size - 3:Nat):Int)≤(s.size:Int):=by omega
 have y2:((min t.size 3:Nat):Int)≤(t.size:Int):=by omega
 generalize hM:s.size - 3=M at *
 generalize hN:min t.size 3=N at *
 have HM:=Lib.hid (And.intro hM hN)
 clear hb hz hM hN
 go_enter Tryz.func36,Tryz.ntmps36
 go_wp2_with fail
 have HB2:=HB.out
 rw[show (s.extract M s.size).size=s.size - M by simp] at HB2
 have HB3:=Lib.hid HB2
 clear HB2 HB
 refine Calls.mono HB3.out ?_
 rintro e w1 ⟨b,rfl,hb,hB1⟩
 have HX:=Lib.hid (And.intro hb hB1)
 clear hb hB1 HB3
 go_wp2_with fail
 go_ret
 refine⟨b,rfl,fun h=>hlaw.out ?_,HX.out.2⟩
 rw[show (s.extract M s.size).size=s.size - M by simp]
 exact HX.out.1 h
end Go.Proofs.YtioehfhdoohdmaaGreatDoor
