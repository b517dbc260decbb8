/- CHouseA: CHouse0, CHouse. -/
import Derived.Test.YtioehfhdoohdmaaGreatDoorCTos
set_option linter.unusedVariables false
set_option linter.unusedSimpArgs false
namespace Go.Proofs.YtioehfhdoohdmaaGreatDoor
open Go.RowKit Go.Shelf BigFrame
theorem tlow_any (r:Int) (W:World):Calls Tryz.prog 108 #[.int .i32 r] W fun e w'=>e=.returned (.bool (lowB r))∧W=w':=by
 by_cases h:r<128
 ·have d:decide (r<128)=true:=by simpa using h
  have E:lowB r=true:=by simp[lowB,h]
  go_enter Tryz.func108,Tryz.ntmps108
  go_wp2
  go_ret
  exact⟨by first | rfl | (rw[E];rfl),rfl⟩
 ·have d:decide (r<128)=false:=by simpa using h
  by_cases h2:r=65533
  ·subst h2
   have E:lowB 65533=true:=by decide
   go_enter Tryz.func108,Tryz.ntmps108
   go_wp2
   go_ret
   exact⟨by first | rfl | (rw[E];rfl),rfl⟩
  ·have d2:(r == 65533)=false:=by simpa using h2
   have E:lowB r=false:=by simp[lowB,h,h2]
   go_enter Tryz.func108,Tryz.ntmps108
   go_wp2
   go_ret
   exact⟨by first | rfl | (rw[E];rfl),rfl⟩
set_option maxHeartbeats 2000000 in
theorem tfixed_any (r:Int) (W:World):Calls Tryz.prog 110 #[.int .i32 r] W fun e w'=>e=.returned (.bool (setB r))∧W=w':=by
 by_cases h:r<32
 ·have d:decide (r<32)=true:=by simpa using h
  have E:setB r=true:=by simp[setB,h]
  go_enter Tryz.func110,Tryz.ntmps110
  go_wp2
  go_ret
  exact⟨by first | rfl | (rw[E];rfl),rfl⟩
 ·have d:decide (r<32)=false:=by simpa using h
  by_cases h1:r=45
  ·subst h1
   have E:setB 45=true:=by decide
   go_enter Tryz.func110,Tryz.ntmps110
   go_wp2
   go_ret
   exact⟨by first | rfl | (rw[E];rfl),rfl⟩
  ·have d1:(r == 45)=false:=by simpa using h1
   by_cases h2:r=46
   ·subst h2
    have E:setB 46=true:=by decide
    go_enter Tryz.func110,Tryz.ntmps110
    go_wp2
    go_ret
    exact⟨by first | rfl | (rw[E];rfl),rfl⟩
   ·have d2:(r == 46)=false:=by simpa using h2
    by_cases h3:r=65533
    ·subst h3
     have E:setB 65533=true:=by decide
     go_enter Tryz.func110,Tryz.ntmps110
     go_wp2
     go_ret
     exact⟨by first | rfl | (rw[E];rfl),rfl⟩
    ·have d3:(r == 65533)=false:=by simpa using h3
     have E:setB r=false:=by simp[setB,h,h1,h2,h3]
     go_enter Tryz.func110,Tryz.ntmps110
     go_wp2
     go_ret
     exact⟨by first | rfl | (rw[E];rfl),rfl⟩
theorem idx_runes {s:ByteArray}:∀(n p:Nat) (l:List Int),s.size - p≤n→runesAt s p=some l→decide (0≤Lib.idxFuncFrom (fun x:Nat=>setB (x:Int)) true s n p)=l.any setB:=by
 intro n
 induction n with
 | zero=>
  intro p l h hr
  rw[runesAt_end hr (by omega)];rfl
 | succ n ih=>
  intro p l h hr
  unfold Lib.idxFuncFrom
  by_cases hp:p<s.size
  ·obtain⟨_,t,rfl,ht⟩:=runesAt_step hr hp
   have hw:=dec_width s p
   rw[if_pos hp,List.any_cons]
   cases e:setB ((Utf8.decode s p).1:Int) with
   | true=>rw[if_pos rfl,Bool.true_or];rw[decide_eq_true_iff];omega
   | false=>rw[if_neg (by decide),Bool.false_or];exact ih _ t (by omega) ht
  ·rw[if_neg hp,runesAt_end hr (by omega)];rfl
theorem contains_any (s:ByteArray) (W:World) (hv:(runesO s).isSome=true):Calls Tryz.prog 109 #[.string s,.func (.func 110) #[] #[]] W fun e w'=>e=.returned (.bool (setsB s))∧Below W.heap.size W w':=by
 have h:=Tryz.strings_ContainsFunc_grows 110 #[] (enters_of Tryz.func110 (by kernel_rfl) rfl) (fun x:Nat=>setB (x:Int)) s W (fun W' x _ _=>(tfixed_any (x:Int) W').mono fun e w' hh=>⟨hh.1,by rw[←hh.2];exact Below.refl _ _⟩)
 have e:decide (0≤Lib.idxFunc (fun x:Nat=>setB (x:Int)) true s)=setsB s:=by unfold Lib.idxFunc setsB;exact idx_runes s.size 0 _ (by omega) (runesAt_start hv)
 rw[e] at h
 exact h
abbrev lettersS:ByteArray:={ data:=#[45,48,49,50,51,52,53,54,55,56,57,97,98,99,100,101,102,103,104,105,106,107,108,109,110,111,112,113,114,115,116,117,118,119,120,121,122] }
abbrev comS:ByteArray:={ data:=#[45,46,48,49,50,51,52,53,54,55,56,57] }
def letP:List Int:=[45,48,49,50,51,52,53,54,55,56,57,97,98,99,100,101,102,103,104,105,106,107,108,109,110,111,112,113,114,115,116,117,118,119,120,121,122]
def comP:List Int:=[45,46,48,49,50,51,52,53,54,55,56,57]
set_option maxRecDepth 100000 in
theorem index_let:∀n:Fin 128,decide (0≤Lib.indexByte lettersS.data.toList n.val.toUInt8)=letB (n.val:Int):=by decide +kernel
theorem containsRune_any (r:Int) (W:World) (h0:0≤r) (h1:r<128):Calls Tryz.prog 111 #[.string lettersS,.int .i32 r] W fun e w'=>e=.returned (.bool (letB r))∧Below W.heap.size W w':=by
 have h:=index_let ⟨r.toNat,by omega⟩
 have e:((r.toNat:Nat):Int)=r:=by omega
 simp only[e] at h
 exact (Tryz.strings_ContainsRune_ascii lettersS r W h0 h1).mono fun e w' hh=>⟨by rw[hh.1,h],by rw[hh.2];exact Below.refl _ _⟩
theorem lets_at:∀p,p<37→∃r:Nat,Utf8.decode lettersS p=(r,1)∧letP[p]?=some (r:Int):=by
 have h:∀p:Fin 37,Utf8.decode lettersS p.val=((letP[p.val]?.getD 0).toNat,1)∧letP[p.val]?=some (((letP[p.val]?.getD 0).toNat:Nat):Int):=by decide +kernel
 exact fun p hp=>⟨_,h ⟨p,hp⟩⟩
theorem com_at:∀p,p<12→∃r:Nat,Utf8.decode comS p=(r,1)∧comP[p]?=some (r:Int):=by
 have h:∀p:Fin 12,Utf8.decode comS p.val=((comP[p.val]?.getD 0).toNat,1)∧comP[p.val]?=some (((comP[p.val]?.getD 0).toNat:Nat):Int):=by decide +kernel
 exact fun p hp=>⟨_,h ⟨p,hp⟩⟩
def comQ (L:List Span) (r:Int) (_:Nat):Option W3:=if !ofB r L then some (5,2,0) else none
def letQ (L:List Span) (r:Int) (_:Nat):Option W3:=if !ofB r L then some (5,8,0) else none
theorem scan_filter {α:Type}(p:α→Bool) (f g:α→Nat→Option W3) (hp:∀x i j,p x=true→f x i=g x j) (hn:∀x i,p x=false→f x i=none):∀(l:List α) (i j:Nat) (k:W3),scan f l i k=scan g (l.filter p) j k:=by
 intro l
 induction l with
 | nil=>intro i j k;rfl
 | cons x t ih=>
  intro i j k
  cases e:p x with
  | true=>
   rw[List.filter_cons_of_pos e]
   have h:=hp x i j e
   cases q:g x j with
   | none=>rw[scan_miss (h.trans q),scan_miss q];exact ih _ _ _
   | some w=>rw[scan_hit (h.trans q),scan_hit q]
  | false=>rw[List.filter_cons_of_neg (by rw[e];decide),scan_miss (hn x i e)];exact ih _ _ _
theorem com_scan (L:List Span) (K:W3):scan (comM L) comR 0 K=scan (comQ L) comP 0 K:=by
 rw[scan_filter (fun r:Int=>r != 47) (comM L) (comQ L) (fun x i j h=>by unfold comM comQ;rw[h,Bool.true_and]) (fun x i h=>by unfold comM;rw[h];rfl) comR 0 0 K,show comR.filter (fun r:Int=>r != 47)=comP by decide +kernel]
theorem let_scan (L:List Span) (K:W3):scan (alM L) letR 0 K=scan (letQ L) letP 0 K:=by
 rw[scan_filter letB (alM L) (letQ L) (fun x i j h=>by unfold alM letQ;rw[h,Bool.true_and]) (fun x i h=>by unfold alM;rw[h];rfl) letR 0 0 K,show letR.filter letB=letP by decide +kernel]
end Go.Proofs.YtioehfhdoohdmaaGreatDoor
namespace Go.Proofs.YtioehfhdoohdmaaGreatDoor
open Go.RowKit Go.Shelf BigFrame
theorem house_eq (T:Tab):houseW T=scan (comQ T.common) comP 0 (scan hMark T.marks 0 (scan hPair T.pairs 0 (scan hFold T.folds 0 (scan hLook T.looks 0 (scan hDrop T.drops 0 (scan hAllow T.allowed 0 (scan (letQ T.allowed) letP 0 (0,0,0)))))))):=by
 have n5:∀ {x:Int×Int×Int},x.1=5→x.1≠0:=fun h=>by rw[h];decide
 unfold houseW rowsW
 rw[let_scan]
 generalize scan hDrop T.drops 0 (scan hAllow T.allowed 0 (scan (letQ T.allowed) letP 0 (0,0,0)))=K
 have h1:∀x i w,comM T.common x i=some w→w.1≠0:=fun x i w h=>by unfold comM at h;split at h <;> cases h;exact n5 rfl
 have h2:∀x i w,hMark x i=some w→w.1≠0:=fun x i w h=>by unfold hMark at h;split at h <;> cases h;exact n5 rfl
 have h3:∀x i w,hPair x i=some w→w.1≠0:=fun x i w h=>by unfold hPair at h;split at h <;> cases h;exact n5 rfl
 have h4:∀x i w,hFold x i=some w→w.1≠0:=fun x i w h=>by
  unfold hFold at h
  split at h
  ·cases h;exact n5 rfl
  ·split at h <;> cases h;exact n5 rfl
 have h5:∀x i w,hLook x i=some w→w.1≠0:=fun x i w h=>by
  unfold hLook at h
  split at h
  ·cases h;exact n5 rfl
  ·split at h <;> cases h;exact n5 rfl
 have push:∀ {α:Type} (f:α→Nat→Option W3) (hf:∀x i w,f x i=some w→w.1≠0) (l:List α) (i:Nat) (A:W3),orK (scan f l i A) K=scan f l i (orK A K):=by
  intro α f hf l
  induction l with
  | nil=>intro i A;rfl
  | cons x t ih=>
   intro i A
   cases e:f x i with
   | some w=>rw[scan_hit e,scan_hit e,orK,if_neg (hf x i w e)]
   | none=>rw[scan_miss e,scan_miss e];exact ih _ _
 rw[push _ h1,push _ h2,push _ h3,push _ h4,push _ h5,com_scan]
 rfl
set_option maxRecDepth 100000 in
set_option maxHeartbeats 40000000 in
theorem chouse_any (T:Tab) (a:TAddr) (M:MAddr) (W:World) (h:ChkAt W M T a) (hok1:SpOk T.common) (hok7:SpOk T.allowed) (hn1:T.common.length≤1048576) (hn7:T.allowed.length≤1048576) (hvf:∀x∈T.folds,(runesO x.2).isSome=true) (hvl:∀x∈T.looks,(runesO x.2).isSome=true):Calls Tryz.prog 74 #[.pointer (some ⟨M.bc,0,none⟩)] W fun e w'=>e=.returned (wV (houseW T))∧Below W.heap.size W w':=by
 obtain⟨l0,l1,l2,l3,l4,l5,l6,l7⟩:=T
 obtain⟨o0,o1,o2,o3,o4,o5,o6,o7,c0,c1,c2,c3,c4,c5,c6,c7⟩:=a
 obtain⟨bc,bb,m1,m2,m3,m4,m5⟩:=M
 have hB:Below W.heap.size W (W.alloc (.cells #[.int .i64 0,.int .i64 0,.int .i64 0] 100)):=(Below.refl _ W).alloc (Nat.le_refl _) _
 have bA:=Blk.new' W #[.int .i64 0,.int .i64 0,.int .i64 0] 100
 have hC:=h.below hB
 obtain⟨W0,hW0⟩:∃W0,W.alloc (.cells #[.int .i64 0,.int .i64 0,.int .i64 0] 100)=W0:=⟨_,rfl⟩
 rw[hW0] at hB bA hC
 have HW0:=Lib.hid hW0
 have HB:=Lib.hid hB
 have HA:=Lib.hid bA
 have HZ:Hid (W.heap.size<W0.heap.size):=Lib.hid bA.lt
 have hT:=hC.tab
 have a0:∀y:WC W0,y.w.cell? ⟨W.heap.size,0,none⟩=some (.int .i64 0):=WC.cell (bA.cell 0)
 have f0:∀y:WC W0,y.w.frozen? ⟨W.heap.size,0,none⟩=false:=WC.frozen (bA.cell 0) (bA.frozen 0)
 have a1:∀y:WC W0,y.w.cell? ⟨W.heap.size,1,none⟩=some (.int .i64 0):=WC.cell (bA.cell 1)
 have f1:∀y:WC W0,y.w.frozen? ⟨W.heap.size,1,none⟩=false:=WC.frozen (bA.cell 1) (bA.frozen 1)
 have a2:∀y:WC W0,y.w.cell? ⟨W.heap.size,2,none⟩=some (.int .i64 0):=WC.cell (bA.cell 2)
 have f2:∀y:WC W0,y.w.frozen? ⟨W.heap.size,2,none⟩=false:=WC.frozen (bA.cell 2) (bA.frozen 2)
 have t1:∀y:WC W0,y.w.cell? ⟨bc,1,none⟩=some (.slice o1 l1.length c1):=WC.cell (hC.c 1 (.slice o1 l1.length c1) rfl)
 have m1x:l1.length≤9223372036854775807:=hT.m1
 have HL1:=Lib.hid hT.common
 have t2:∀y:WC W0,y.w.cell? ⟨bc,2,none⟩=some (.slice o2 l2.length c2):=WC.cell (hC.c 2 (.slice o2 l2.length c2) rfl)
 have m2x:l2.length≤9223372036854775807:=hT.m2
 have HL2:=Lib.hid hT.marks
 have t3:∀y:WC W0,y.w.cell? ⟨bc,3,none⟩=some (.slice o3 l3.length c3):=WC.cell (hC.c 3 (.slice o3 l3.length c3) rfl)
 have m3x:l3.length≤9223372036854775807:=hT.m3
 have HL3:=Lib.hid hT.pairs
 have t4:∀y:WC W0,y.w.cell? ⟨bc,4,none⟩=some (.slice o4 l4.length c4):=WC.cell (hC.c 4 (.slice o4 l4.length c4) rfl)
 have m4x:l4.length≤9223372036854775807:=hT.m4
 have HL4:=Lib.hid hT.folds
 have t5:∀y:WC W0,y.w.cell? ⟨bc,5,none⟩=some (.slice o5 l5.length c5):=WC.cell (hC.c 5 (.slice o5 l5.length c5) rfl)
 have m5x:l5.length≤9223372036854775807:=hT.m5
 have HL5:=Lib.hid hT.looks
 have t6:∀y:WC W0,y.w.cell? ⟨bc,6,none⟩=some (.slice o6 l6.length c6):=WC.cell (hC.c 6 (.slice o6 l6.length c6) rfl)
 have m6x:l6.length≤9223372036854775807:=hT.m6
 have HL6:=Lib.hid hT.drops
 have t7:∀y:WC W0,y.w.cell? ⟨bc,7,none⟩=some (.slice o7 l7.length c7):=WC.cell (hC.c 7 (.slice o7 l7.length c7) rfl)
 have m7x:l7.length≤9223372036854775807:=hT.m7
 have HL7:=Lib.hid hT.allowed
 have hL1:=hT.common
 have hL7:=hT.allowed
 have HO1:Hid (∀(r:Int) (U:World),Below W0.heap.size W0 U→Calls Tryz.prog 106 #[.int .i32 r,.slice o1 l1.length c1] U fun e w'=>e=.returned (.bool (ofB r l1))∧Below U.heap.size U w'):=Lib.hid (fun r U hU=>tof_any o1 c1 l1 r U (hL1.below hU) hn1 hok1)
 have HO7:Hid (∀(r:Int) (U:World),Below W0.heap.size W0 U→Calls Tryz.prog 106 #[.int .i32 r,.slice o7 l7.length c7] U fun e w'=>e=.returned (.bool (ofB r l7))∧Below U.heap.size U w'):=Lib.hid (fun r U hU=>tof_any o7 c7 l7 r U (hL7.below hU) hn7 hok7)
 have HLw:Hid (∀(r:Int) (U:World),Below W0.heap.size W0 U→Calls Tryz.prog 108 #[.int .i32 r] U fun e w'=>e=.returned (.bool (lowB r))∧Below U.heap.size U w'):=Lib.hid (fun r U hU=>(tlow_any r U).mono fun e w' hh=>⟨hh.1,by rw[←hh.2];exact Below.refl _ _⟩)
 have HFx:Hid (∀(r:Int) (U:World),Below W0.heap.size W0 U→Calls Tryz.prog 110 #[.int .i32 r] U fun e w'=>e=.returned (.bool (setB r))∧Below U.heap.size U w'):=Lib.hid (fun r U hU=>(tfixed_any r U).mono fun e w' hh=>⟨hh.1,by rw[←hh.2];exact Below.refl _ _⟩)
 have HCf:Hid (∀(s:ByteArray) (hv:(runesO s).isSome=true) (U:World),Below W0.heap.size W0 U→Calls Tryz.prog 109 #[.string s,.func (.func 110) #[] #[]] U fun e w'=>e=.returned (.bool (setsB s))∧Below U.heap.size U w'):=Lib.hid (fun s hv U hU=>contains_any s U hv)
 have HCr:Hid (∀(r:Int) (h0:0≤r) (h1:r<128) (U:World),Below W0.heap.size W0 U→Calls Tryz.prog 111 #[.string lettersS,.int .i32 r] U fun e w'=>e=.returned (.bool (letB r))∧Below U.heap.size U w'):=Lib.hid (fun r h0 h1 U hU=>containsRune_any r U h0 h1)
 have HVf:=Lib.hid hvf
 have HVl:=Lib.hid hvl
 have HOk:=Lib.hid hok7
 clear hvf hvl hok1 hok7 hn1 hn7 hL1 hL7
 have HWr:Hid (∀(a b c:Int) (U:World),Calls Tryz.prog 99 #[.int .i64 a,.int .i64 b,.int .i64 c] U fun e w'=>e=.returned (.agg #[.int .i64 a,.int .i64 b,.int .i64 c])∧Below U.heap.size U w'):=Lib.hid (fun a b c U=>twrong_any a b c U)
 clear hC hT hB h bA hW0
 obtain⟨R,hR⟩:∃R,houseW ⟨l0,l1,l2,l3,l4,l5,l6,l7⟩=R:=⟨_,rfl⟩
 rw[hR]
 try dsimp only at hR
 have HF:=Lib.hid hR
 clear hR
 have HF2:Hid (scan (comQ l1) comP 0 (scan hMark l2 0 (scan hPair l3 0 (scan hFold l4 0 (scan hLook l5 0 (scan hDrop l6 0 (scan hAllow l7 0 (scan (letQ l7) letP 0 (0,0,0))))))))=R):=Lib.hid (by rw[←HF.out,house_eq])
 clear HF
 have HF:=Lib.hid HF2.out
 clear HF2
 obtain⟨fn,hfn,Hres⟩:∃fn,Tryz.f74=fn∧Hid (fn.results=#[.cell 2 100]):=⟨_,rfl,Lib.hid Tryz.results74⟩
 go_enter Tryz.func74,Tryz.ntmps74
 rw[hfn]
 clear hfn
 go_upto_region 1 with fail
 try dsimp only
 rw[HW0.out]
 clear HW0
 obtain⟨y,hy⟩:∃y:WC W0,y.w=W0:=⟨WC.of W0,rfl⟩
 rw[←hy]
 clear hy
 go_wp2_with fail
 rw[show ({ data:=#[45,46,48,49,50,51,52,53,54,55,56,57] }:ByteArray)=comS from rfl]
 have hit:Itr (y.w.iter comS 0) y.w.heap.size comS 0:=Itr.new y.w comS 0
 have hkk:=y.h.size
 obtain⟨y1,hz1⟩:∃y1:WC W0,y1.w=(y.w.iter comS 0):=⟨⟨_,y.h.alloc y.h.size _⟩,rfl⟩
 conv=>arg 5;rw[←hz1]
 rw[←hz1] at hit
 clear hz1
 obtain⟨kk,hkq⟩:∃kk,y.w.heap.size=kk:=⟨_,rfl⟩
 rw[hkq] at hit hkk ⊢
 clear hkq
 go_loopg [] 12 (fun f wr=>∃(p:Nat) (y:WC W0),p≤12∧12 - p≤f∧Hid (scan (comQ l1) (comP.drop p) p (scan hMark l2 0 (scan hPair l3 0 (scan hFold l4 0 (scan hLook l5 0 (scan hDrop l6 0 (scan hAllow l7 0 (scan (letQ l7) letP 0 (0,0,0))))))))=R)∧Itr y.w kk comS p∧wr=y.w)
 case atStart=>exact⟨0,y1,Nat.zero_le _,by omega,HF,hit,rfl⟩
 case round=>
  clear HF hit y1
  obtain⟨p,y,hp,hf,HF,hit,rfl⟩:=hrel
  by_cases hlp:p<12
  ·have hn:=fun ty=>Lib.run_next_any_at (P:=Tryz.prog) y.w _ _ _ ty hit (show p<(comS).size from hlp)
   obtain⟨r,hdec,hPp⟩:=com_at p hlp
   rw[hdec] at hn
   have HF1:Hid (scan (comQ l1) ((r:Int)::comP.drop (p+1)) p (scan hMark l2 0 (scan hPair l3 0 (scan hFold l4 0 (scan hLook l5 0 (scan hDrop l6 0 (scan hAllow l7 0 (scan (letQ l7) letP 0 (0,0,0))))))))=R):=Lib.hid (by rw[←HF.out];congr 1;obtain⟨h1,h2⟩:=List.getElem?_eq_some_iff.1 hPp;rw[List.drop_eq_getElem_cons h1,h2])
   clear HF hPp hdec
   have hit2:=hit.at (p+1)
   go_upto_region 4 with fail
   obtain⟨y2,hz1⟩:∃y2:WC W0,y2.w=(y.w.iterAt kk comS (p+1)):=⟨⟨_,WC.iterAt y hkk comS (p+1)⟩,rfl⟩
   conv=>arg 5;rw[←hz1]
   rw[←hz1] at hit2
   clear hz1
   clear hn hit
   have KO:=Lib.hid (HO1.out (r:Int) y2.w y2.h)
   cases h0:ofB (r:Int) l1 with
   | false=>
    rw[h0] at KO
    have HR:=Lib.hid ((scan_hit (f:=comQ l1) (x:=(r:Int)) (i:=p) (by unfold comQ;rw[h0];rfl)).symm.trans HF1.out)
    clear HF1
    go_wp2_with fail
    (with_reducible refine Calls.mono KO.out ?_)
    rintro e w' ⟨rfl,hBk⟩
    clear KO
    have hit3:=hit2.keep (Keep.of_below hBk (fun _=>False)) (by simp)
    obtain⟨y3,hy3⟩:∃y3:WC W0,y3.w=w':=⟨⟨_,y2.h.trans (hBk.mono y2.h.size)⟩,rfl⟩
    rw[←hy3] at hit3 ⊢
    clear hy3 hBk hit2
    clear hit3
    have KW:Hid (∀z:WC W0,Calls Tryz.prog 99 #[.int .i64 5,.int .i64 2,.int .i64 0] z.w fun e w'=>e=.returned (.agg #[.int .i64 5,.int .i64 2,.int .i64 0])∧∃u:WC W0,w'=u.w):=Lib.hid (fun z=>WC.call (HWr.out 5 2 0 z.w))
    go_wp2_with fail
    (with_reducible refine Calls.mono (KW.out y3) ?_)
    rintro e w' ⟨rfl,zr,rfl⟩
    clear KW
    go_wp2_with fail
    have b3:=(((HA.out.keep (Keep.of_below zr.h (fun _=>False)) (by simp)).set 0 (.int .i64 5)).set 1 (.int .i64 2)).set 2 (.int .i64 0)
    have r0:=b3.cell 0
    have r1:=b3.cell 1
    have r2:=b3.cell 2
    refine bodyPost_ret (v:=.agg #[.int .i64 5,.int .i64 2,.int .i64 0]) (res_wrong Hres.out (by rfl) r0 r1 r2) rfl ?_
    exact⟨by rw[←HR.out];rfl,set3_below (HB.out.trans (zr.h.mono HB.out.size)) (by omega)⟩
   | true=>
    rw[h0] at KO
    have HF2:=Lib.hid ((scan_miss (f:=comQ l1) (x:=(r:Int)) (i:=p) (by unfold comQ;rw[h0];rfl)).symm.trans HF1.out)
    clear HF1
    go_wp2_with fail
    (with_reducible refine Calls.mono KO.out ?_)
    rintro e w' ⟨rfl,hBk⟩
    clear KO
    have hit3:=hit2.keep (Keep.of_below hBk (fun _=>False)) (by simp)
    obtain⟨y3,hy3⟩:∃y3:WC W0,y3.w=w':=⟨⟨_,y2.h.trans (hBk.mono y2.h.size)⟩,rfl⟩
    rw[←hy3] at hit3 ⊢
    clear hy3 hBk hit2
    go_wp2_with fail
    go_roundg (12 - (p+1))
    case measure=>omega
    exact⟨p+1,y3,by omega,by omega,HF2,hit3,rfl⟩
  ·obtain rfl:p=12:=by omega
   have hn:=fun ty=>Lib.run_next_end_at (P:=Tryz.prog) y.w _ _ _ ty hit (Nat.lt_irrefl _)
   have HF2:Hid (scan hMark l2 0 (scan hPair l3 0 (scan hFold l4 0 (scan hLook l5 0 (scan hDrop l6 0 (scan hAllow l7 0 (scan (letQ l7) letP 0 (0,0,0)))))))=R):=Lib.hid HF.out
   clear HF hp hlp hf
   have HF:=Lib.hid HF2.out
   clear HF2
   go_wp2_with fail
   clear hn hit hkk
   go_loopw [39] (fun v39 wr=>∃(i:Nat) (y:WC W0),v39=.int .i64 i∧i≤l2.length∧Hid (scan (hMark) (l2.drop i) i (scan hPair l3 0 (scan hFold l4 0 (scan hLook l5 0 (scan hDrop l6 0 (scan hAllow l7 0 (scan (letQ l7) letP 0 (0,0,0)))))))=R)∧wr=y.w) (fun v39 _=>l2.length - (intOf v39).toNat)
   case atStart=>exact⟨0,y,rfl,Nat.zero_le _,HF,rfl⟩
   case round=>
    clear HF
    obtain⟨i,y,rfl,hi,HF,rfl⟩:=hrel
    have i0:(0:Int)≤(i:Int):=Int.natCast_nonneg _
    by_cases hlt:i<l2.length
    ·have i1:(i:Int)<(l2.length:Int):=by omega
     obtain⟨g,off,ho,hg,c0,c1⟩:=HL2.out i hlt
     subst ho
     have HF1:=Lib.hid (scan_step hlt HF.out)
     generalize l2[i]=x at *
     have e0:=fun y:WC W0=>y.cell c0
     have e1:=fun y:WC W0=>y.cell c1
     clear HF c0 c1
     go_upto_region 9 with fail
     have bX:=Blk.new' y.w #[.int .i32 x.1,.int .i64 x.2] 139
     have HV1:Hid (Below W0.heap.size W0 (y.w.alloc (.cells #[.int .i32 x.1,.int .i64 x.2] 139))):=Lib.hid (y.h.alloc y.h.size _)
     obtain⟨V,hV⟩:∃V,y.w.alloc (.cells #[.int .i32 x.1,.int .i64 x.2] 139)=V:=⟨_,rfl⟩
     rw[hV] at bX HV1 ⊢
     obtain⟨bx,hbx⟩:∃b,y.w.heap.size=b:=⟨_,rfl⟩
     rw[hbx] at bX ⊢
     clear hV hbx
     have x0:∀z:WC V,z.w.cell? ⟨bx,0,none⟩=some (.int .i32 x.1):=WC.cell (bX.cell 0)
     have x1:∀z:WC V,z.w.cell? ⟨bx,1,none⟩=some (.int .i64 x.2):=WC.cell (bX.cell 1)
     have HUp:Hid (∀z:WC V,Below W0.heap.size W0 z.w):=Lib.hid (fun z=>HV1.out.trans (z.h.mono HV1.out.size))
     have a0z:∀z:WC V,z.w.cell? ⟨W.heap.size,0,none⟩=some (.int .i64 0):=fun z=>a0 ⟨z.w,HUp.out z⟩
     have a1z:∀z:WC V,z.w.cell? ⟨W.heap.size,1,none⟩=some (.int .i64 0):=fun z=>a1 ⟨z.w,HUp.out z⟩
     have a2z:∀z:WC V,z.w.cell? ⟨W.heap.size,2,none⟩=some (.int .i64 0):=fun z=>a2 ⟨z.w,HUp.out z⟩
     have f0z:∀z:WC V,z.w.frozen? ⟨W.heap.size,0,none⟩=false:=fun z=>f0 ⟨z.w,HUp.out z⟩
     have f1z:∀z:WC V,z.w.frozen? ⟨W.heap.size,1,none⟩=false:=fun z=>f1 ⟨z.w,HUp.out z⟩
     have f2z:∀z:WC V,z.w.frozen? ⟨W.heap.size,2,none⟩=false:=fun z=>f2 ⟨z.w,HUp.out z⟩
     clear bX HV1
     obtain⟨z,hz⟩:∃z:WC V,z.w=V:=⟨WC.of V,rfl⟩
     conv=>arg 5;rw[←hz]
     clear hz
     have K0:=Lib.hid (fun z:WC V=>HLw.out x.1 z.w (HUp.out z))
     cases h0:lowB x.1 with
     | true=>
      rw[h0] at K0
      have HR:=Lib.hid ((scan_hit (f:=hMark) (by unfold hMark;simp only[h0];rfl)).symm.trans HF1.out)
      clear HF1
      go_wp2_with fail
      (with_reducible refine Calls.mono (K0.out z) ?_)
      rintro e w' ⟨rfl,hBk⟩
      obtain⟨z1,hz1⟩:∃z1:WC V,z1.w=w':=⟨⟨_,z.h.trans (hBk.mono z.h.size)⟩,rfl⟩
      rw[←hz1]
      clear hz1 hBk
      clear K0
      have KW:Hid (∀z:WC V,Calls Tryz.prog 99 #[.int .i64 5,.int .i64 3,.int .i64 i] z.w fun e w'=>e=.returned (.agg #[.int .i64 5,.int .i64 3,.int .i64 i])∧∃u:WC V,w'=u.w):=Lib.hid (fun z=>WC.call (HWr.out 5 3 i z.w))
      go_wp2_with fail
      (with_reducible refine Calls.mono (KW.out z1) ?_)
      rintro e w' ⟨rfl,zr,rfl⟩
      clear KW
      go_wp2_with fail
      have b3:=(((HA.out.keep (Keep.of_below (HUp.out zr) (fun _=>False)) (by simp)).set 0 (.int .i64 5)).set 1 (.int .i64 3)).set 2 (.int .i64 i)
      have r0:=b3.cell 0
      have r1:=b3.cell 1
      have r2:=b3.cell 2
      refine bodyPost_ret (v:=.agg #[.int .i64 5,.int .i64 3,.int .i64 i]) (res_wrong Hres.out (by rfl) r0 r1 r2) rfl ?_
      exact⟨by rw[←HR.out];rfl,set3_below (HB.out.trans ((HUp.out zr).mono HB.out.size)) (by omega)⟩
     | false=>
      rw[h0] at K0
      have HF2:=Lib.hid ((scan_miss (f:=hMark) (by unfold hMark;simp only[h0];rfl)).symm.trans HF1.out)
      clear HF1
      go_wp2_with fail
      (with_reducible refine Calls.mono (K0.out z) ?_)
      rintro e w' ⟨rfl,hBk⟩
      obtain⟨z1,hz1⟩:∃z1:WC V,z1.w=w':=⟨⟨_,z.h.trans (hBk.mono z.h.size)⟩,rfl⟩
      rw[←hz1]
      clear hz1 hBk
      go_wp2_with fail
      exact⟨⟨i+1,⟨z1.w,HUp.out z1⟩,by go_num,by omega,HF2,by first | rfl | trivial⟩,by simp[intOf];omega⟩
    ·obtain rfl:i=l2.length:=by omega
     have HF0:=Lib.hid (scan_end HF.out)
     clear hi hlt i0 HF
     have HF:=Lib.hid HF0.out
     clear HF0
     go_wp2_with fail
     go_loopw [56] (fun v56 wr=>∃(i:Nat) (y:WC W0),v56=.int .i64 i∧i≤l3.length∧Hid (scan (hPair) (l3.drop i) i (scan hFold l4 0 (scan hLook l5 0 (scan hDrop l6 0 (scan hAllow l7 0 (scan (letQ l7) letP 0 (0,0,0))))))=R)∧wr=y.w) (fun v56 _=>l3.length - (intOf v56).toNat)
     case atStart=>exact⟨0,y,rfl,Nat.zero_le _,HF,rfl⟩
     case round=>
      clear HF
      obtain⟨i,y,rfl,hi,HF,rfl⟩:=hrel
      have i0:(0:Int)≤(i:Int):=Int.natCast_nonneg _
      by_cases hlt:i<l3.length
      ·have i1:(i:Int)<(l3.length:Int):=by omega
       obtain⟨g,off,ho,hg,c0,c1,c2⟩:=HL3.out i hlt
       subst ho
       have HF1:=Lib.hid (scan_step hlt HF.out)
       generalize l3[i]=x at *
       have e0:=fun y:WC W0=>y.cell c0
       have e1:=fun y:WC W0=>y.cell c1
       have e2:=fun y:WC W0=>y.cell c2
       clear HF c0 c1 c2
       go_upto_region 15 with fail
       have bX:=Blk.new' y.w #[.int .i32 x.1,.int .i32 x.2.1,.int .i32 x.2.2] 141
       have HV1:Hid (Below W0.heap.size W0 (y.w.alloc (.cells #[.int .i32 x.1,.int .i32 x.2.1,.int .i32 x.2.2] 141))):=Lib.hid (y.h.alloc y.h.size _)
       obtain⟨V,hV⟩:∃V,y.w.alloc (.cells #[.int .i32 x.1,.int .i32 x.2.1,.int .i32 x.2.2] 141)=V:=⟨_,rfl⟩
       rw[hV] at bX HV1 ⊢
       obtain⟨bx,hbx⟩:∃b,y.w.heap.size=b:=⟨_,rfl⟩
       rw[hbx] at bX ⊢
       clear hV hbx
       have x0:∀z:WC V,z.w.cell? ⟨bx,0,none⟩=some (.int .i32 x.1):=WC.cell (bX.cell 0)
       have x1:∀z:WC V,z.w.cell? ⟨bx,1,none⟩=some (.int .i32 x.2.1):=WC.cell (bX.cell 1)
       have x2:∀z:WC V,z.w.cell? ⟨bx,2,none⟩=some (.int .i32 x.2.2):=WC.cell (bX.cell 2)
       have HUp:Hid (∀z:WC V,Below W0.heap.size W0 z.w):=Lib.hid (fun z=>HV1.out.trans (z.h.mono HV1.out.size))
       have a0z:∀z:WC V,z.w.cell? ⟨W.heap.size,0,none⟩=some (.int .i64 0):=fun z=>a0 ⟨z.w,HUp.out z⟩
       have a1z:∀z:WC V,z.w.cell? ⟨W.heap.size,1,none⟩=some (.int .i64 0):=fun z=>a1 ⟨z.w,HUp.out z⟩
       have a2z:∀z:WC V,z.w.cell? ⟨W.heap.size,2,none⟩=some (.int .i64 0):=fun z=>a2 ⟨z.w,HUp.out z⟩
       have f0z:∀z:WC V,z.w.frozen? ⟨W.heap.size,0,none⟩=false:=fun z=>f0 ⟨z.w,HUp.out z⟩
       have f1z:∀z:WC V,z.w.frozen? ⟨W.heap.size,1,none⟩=false:=fun z=>f1 ⟨z.w,HUp.out z⟩
       have f2z:∀z:WC V,z.w.frozen? ⟨W.heap.size,2,none⟩=false:=fun z=>f2 ⟨z.w,HUp.out z⟩
       clear bX HV1
       obtain⟨z,hz⟩:∃z:WC V,z.w=V:=⟨WC.of V,rfl⟩
       conv=>arg 5;rw[←hz]
       clear hz
       have K0:=Lib.hid (fun z:WC V=>HLw.out x.1 z.w (HUp.out z))
       cases h0:lowB x.1 with
       | true=>
        rw[h0] at K0
        have HR:=Lib.hid ((scan_hit (f:=hPair) (by unfold hPair;simp only[h0];rfl)).symm.trans HF1.out)
        clear HF1
        go_wp2_with fail
        (with_reducible refine Calls.mono (K0.out z) ?_)
        rintro e w' ⟨rfl,hBk⟩
        obtain⟨z1,hz1⟩:∃z1:WC V,z1.w=w':=⟨⟨_,z.h.trans (hBk.mono z.h.size)⟩,rfl⟩
        rw[←hz1]
        clear hz1 hBk
        clear K0
        have KW:Hid (∀z:WC V,Calls Tryz.prog 99 #[.int .i64 5,.int .i64 4,.int .i64 i] z.w fun e w'=>e=.returned (.agg #[.int .i64 5,.int .i64 4,.int .i64 i])∧∃u:WC V,w'=u.w):=Lib.hid (fun z=>WC.call (HWr.out 5 4 i z.w))
        go_wp2_with fail
        (with_reducible refine Calls.mono (KW.out z1) ?_)
        rintro e w' ⟨rfl,zr,rfl⟩
        clear KW
        go_wp2_with fail
        have b3:=(((HA.out.keep (Keep.of_below (HUp.out zr) (fun _=>False)) (by simp)).set 0 (.int .i64 5)).set 1 (.int .i64 4)).set 2 (.int .i64 i)
        have r0:=b3.cell 0
        have r1:=b3.cell 1
        have r2:=b3.cell 2
        refine bodyPost_ret (v:=.agg #[.int .i64 5,.int .i64 4,.int .i64 i]) (res_wrong Hres.out (by rfl) r0 r1 r2) rfl ?_
        exact⟨by rw[←HR.out];rfl,set3_below (HB.out.trans ((HUp.out zr).mono HB.out.size)) (by omega)⟩
       | false=>
        rw[h0] at K0
        have HF2:=Lib.hid ((scan_miss (f:=hPair) (by unfold hPair;simp only[h0];rfl)).symm.trans HF1.out)
        clear HF1
        go_wp2_with fail
        (with_reducible refine Calls.mono (K0.out z) ?_)
        rintro e w' ⟨rfl,hBk⟩
        obtain⟨z1,hz1⟩:∃z1:WC V,z1.w=w':=⟨⟨_,z.h.trans (hBk.mono z.h.size)⟩,rfl⟩
        rw[←hz1]
        clear hz1 hBk
        go_wp2_with fail
        exact⟨⟨i+1,⟨z1.w,HUp.out z1⟩,by go_num,by omega,HF2,by first | rfl | trivial⟩,by simp[intOf];omega⟩
      ·obtain rfl:i=l3.length:=by omega
       have HF0:=Lib.hid (scan_end HF.out)
       clear hi hlt i0 HF
       have HF:=Lib.hid HF0.out
       clear HF0
       go_wp2_with fail
       go_loopw [73] (fun v73 wr=>∃(i:Nat) (y:WC W0),v73=.int .i64 i∧i≤l4.length∧Hid (scan (hFold) (l4.drop i) i (scan hLook l5 0 (scan hDrop l6 0 (scan hAllow l7 0 (scan (letQ l7) letP 0 (0,0,0)))))=R)∧wr=y.w) (fun v73 _=>l4.length - (intOf v73).toNat)
       case atStart=>exact⟨0,y,rfl,Nat.zero_le _,HF,rfl⟩
       case round=>
        clear HF
        obtain⟨i,y,rfl,hi,HF,rfl⟩:=hrel
        have i0:(0:Int)≤(i:Int):=Int.natCast_nonneg _
        by_cases hlt:i<l4.length
        ·have i1:(i:Int)<(l4.length:Int):=by omega
         obtain⟨g,off,ho,hg,c0,c1,cz⟩:=HL4.out i hlt
         subst ho
         have HF1:=Lib.hid (scan_step hlt HF.out)
         have hxv:=HVf.out l4[i] (List.getElem_mem hlt)
         generalize l4[i]=x at *
         have e0:=fun y:WC W0=>y.cell c0
         have e1:=fun y:WC W0=>y.cell c1
         clear HF c0 c1
         clear cz
         go_upto_region 21 with fail
         have bX:=Blk.new' y.w #[.int .i32 x.1,.string x.2] 143
         have HV1:Hid (Below W0.heap.size W0 (y.w.alloc (.cells #[.int .i32 x.1,.string x.2] 143))):=Lib.hid (y.h.alloc y.h.size _)
         obtain⟨V,hV⟩:∃V,y.w.alloc (.cells #[.int .i32 x.1,.string x.2] 143)=V:=⟨_,rfl⟩
         rw[hV] at bX HV1 ⊢
         obtain⟨bx,hbx⟩:∃b,y.w.heap.size=b:=⟨_,rfl⟩
         rw[hbx] at bX ⊢
         clear hV hbx
         have x0:∀z:WC V,z.w.cell? ⟨bx,0,none⟩=some (.int .i32 x.1):=WC.cell (bX.cell 0)
         have x1:∀z:WC V,z.w.cell? ⟨bx,1,none⟩=some (.string x.2):=WC.cell (bX.cell 1)
         have HUp:Hid (∀z:WC V,Below W0.heap.size W0 z.w):=Lib.hid (fun z=>HV1.out.trans (z.h.mono HV1.out.size))
         have a0z:∀z:WC V,z.w.cell? ⟨W.heap.size,0,none⟩=some (.int .i64 0):=fun z=>a0 ⟨z.w,HUp.out z⟩
         have a1z:∀z:WC V,z.w.cell? ⟨W.heap.size,1,none⟩=some (.int .i64 0):=fun z=>a1 ⟨z.w,HUp.out z⟩
         have a2z:∀z:WC V,z.w.cell? ⟨W.heap.size,2,none⟩=some (.int .i64 0):=fun z=>a2 ⟨z.w,HUp.out z⟩
         have f0z:∀z:WC V,z.w.frozen? ⟨W.heap.size,0,none⟩=false:=fun z=>f0 ⟨z.w,HUp.out z⟩
         have f1z:∀z:WC V,z.w.frozen? ⟨W.heap.size,1,none⟩=false:=fun z=>f1 ⟨z.w,HUp.out z⟩
         have f2z:∀z:WC V,z.w.frozen? ⟨W.heap.size,2,none⟩=false:=fun z=>f2 ⟨z.w,HUp.out z⟩
         clear bX HV1
         obtain⟨z,hz⟩:∃z:WC V,z.w=V:=⟨WC.of V,rfl⟩
         conv=>arg 5;rw[←hz]
         clear hz
         have K0:=Lib.hid (fun z:WC V=>HLw.out x.1 z.w (HUp.out z))
         have K1:=Lib.hid (fun z:WC V=>HCf.out x.2 hxv z.w (HUp.out z))
         cases h0:lowB x.1 with
         | false=>
          rw[h0] at K0
          cases h9:setsB x.2 with
          | true=>
           rw[h9] at K1
           have HR:=Lib.hid ((scan_hit (f:=hFold) (by unfold hFold;simp only[h0,h9];rfl)).symm.trans HF1.out)
           clear HF1
           go_wp2_with fail
           (with_reducible refine Calls.mono (K0.out z) ?_)
           rintro e w' ⟨rfl,hBk⟩
           obtain⟨z1,hz1⟩:∃z1:WC V,z1.w=w':=⟨⟨_,z.h.trans (hBk.mono z.h.size)⟩,rfl⟩
           rw[←hz1]
           clear hz1 hBk
           go_wp2_with fail
           (with_reducible refine Calls.mono (K1.out z1) ?_)
           rintro e w' ⟨rfl,hBk⟩
           obtain⟨z2,hz1⟩:∃z1:WC V,z1.w=w':=⟨⟨_,z1.h.trans (hBk.mono z1.h.size)⟩,rfl⟩
           rw[←hz1]
           clear hz1 hBk
           clear K0 K1
           have KW:Hid (∀z:WC V,Calls Tryz.prog 99 #[.int .i64 5,.int .i64 5,.int .i64 i] z.w fun e w'=>e=.returned (.agg #[.int .i64 5,.int .i64 5,.int .i64 i])∧∃u:WC V,w'=u.w):=Lib.hid (fun z=>WC.call (HWr.out 5 5 i z.w))
           go_wp2_with fail
           (with_reducible refine Calls.mono (KW.out z2) ?_)
           rintro e w' ⟨rfl,zr,rfl⟩
           clear KW
           go_wp2_with fail
           have b3:=(((HA.out.keep (Keep.of_below (HUp.out zr) (fun _=>False)) (by simp)).set 0 (.int .i64 5)).set 1 (.int .i64 5)).set 2 (.int .i64 i)
           have r0:=b3.cell 0
           have r1:=b3.cell 1
           have r2:=b3.cell 2
           refine bodyPost_ret (v:=.agg #[.int .i64 5,.int .i64 5,.int .i64 i]) (res_wrong Hres.out (by rfl) r0 r1 r2) rfl ?_
           exact⟨by rw[←HR.out];rfl,set3_below (HB.out.trans ((HUp.out zr).mono HB.out.size)) (by omega)⟩
          | false=>
           rw[h9] at K1
           have HF2:=Lib.hid ((scan_miss (f:=hFold) (by unfold hFold;simp only[h0,h9];rfl)).symm.trans HF1.out)
           clear HF1
           go_wp2_with fail
           (with_reducible refine Calls.mono (K0.out z) ?_)
           rintro e w' ⟨rfl,hBk⟩
           obtain⟨z1,hz1⟩:∃z1:WC V,z1.w=w':=⟨⟨_,z.h.trans (hBk.mono z.h.size)⟩,rfl⟩
           rw[←hz1]
           clear hz1 hBk
           go_wp2_with fail
           (with_reducible refine Calls.mono (K1.out z1) ?_)
           rintro e w' ⟨rfl,hBk⟩
           obtain⟨z2,hz1⟩:∃z1:WC V,z1.w=w':=⟨⟨_,z1.h.trans (hBk.mono z1.h.size)⟩,rfl⟩
           rw[←hz1]
           clear hz1 hBk
           go_wp2_with fail
           exact⟨⟨i+1,⟨z2.w,HUp.out z2⟩,by go_num,by omega,HF2,by first | rfl | trivial⟩,by simp[intOf];omega⟩
         | true=>
          rw[h0] at K0
          cases h1:decide (x.1<65) with
          | true=>
           have HR:=Lib.hid ((scan_hit (f:=hFold) (by unfold hFold;simp only[h0,h1];rfl)).symm.trans HF1.out)
           clear HF1
           go_wp2_with fail
           (with_reducible refine Calls.mono (K0.out z) ?_)
           rintro e w' ⟨rfl,hBk⟩
           obtain⟨z1,hz1⟩:∃z1:WC V,z1.w=w':=⟨⟨_,z.h.trans (hBk.mono z.h.size)⟩,rfl⟩
           rw[←hz1]
           clear hz1 hBk
           clear K0 K1
           have KW:Hid (∀z:WC V,Calls Tryz.prog 99 #[.int .i64 5,.int .i64 5,.int .i64 i] z.w fun e w'=>e=.returned (.agg #[.int .i64 5,.int .i64 5,.int .i64 i])∧∃u:WC V,w'=u.w):=Lib.hid (fun z=>WC.call (HWr.out 5 5 i z.w))
           go_wp2_with fail
           (with_reducible refine Calls.mono (KW.out z1) ?_)
           rintro e w' ⟨rfl,zr,rfl⟩
           clear KW
           go_wp2_with fail
           have b3:=(((HA.out.keep (Keep.of_below (HUp.out zr) (fun _=>False)) (by simp)).set 0 (.int .i64 5)).set 1 (.int .i64 5)).set 2 (.int .i64 i)
           have r0:=b3.cell 0
           have r1:=b3.cell 1
           have r2:=b3.cell 2
           refine bodyPost_ret (v:=.agg #[.int .i64 5,.int .i64 5,.int .i64 i]) (res_wrong Hres.out (by rfl) r0 r1 r2) rfl ?_
           exact⟨by rw[←HR.out];rfl,set3_below (HB.out.trans ((HUp.out zr).mono HB.out.size)) (by omega)⟩
          | false=>
           cases h2:decide (90<x.1) with
           | true=>
            have HR:=Lib.hid ((scan_hit (f:=hFold) (by unfold hFold;simp only[h0,h1,h2];rfl)).symm.trans HF1.out)
            clear HF1
            go_wp2_with fail
            (with_reducible refine Calls.mono (K0.out z) ?_)
            rintro e w' ⟨rfl,hBk⟩
            obtain⟨z1,hz1⟩:∃z1:WC V,z1.w=w':=⟨⟨_,z.h.trans (hBk.mono z.h.size)⟩,rfl⟩
            rw[←hz1]
            clear hz1 hBk
            clear K0 K1
            have KW:Hid (∀z:WC V,Calls Tryz.prog 99 #[.int .i64 5,.int .i64 5,.int .i64 i] z.w fun e w'=>e=.returned (.agg #[.int .i64 5,.int .i64 5,.int .i64 i])∧∃u:WC V,w'=u.w):=Lib.hid (fun z=>WC.call (HWr.out 5 5 i z.w))
            go_wp2_with fail
            (with_reducible refine Calls.mono (KW.out z1) ?_)
            rintro e w' ⟨rfl,zr,rfl⟩
            clear KW
            go_wp2_with fail
            have b3:=(((HA.out.keep (Keep.of_below (HUp.out zr) (fun _=>False)) (by simp)).set 0 (.int .i64 5)).set 1 (.int .i64 5)).set 2 (.int .i64 i)
            have r0:=b3.cell 0
            have r1:=b3.cell 1
            have r2:=b3.cell 2
            refine bodyPost_ret (v:=.agg #[.int .i64 5,.int .i64 5,.int .i64 i]) (res_wrong Hres.out (by rfl) r0 r1 r2) rfl ?_
            exact⟨by rw[←HR.out];rfl,set3_below (HB.out.trans ((HUp.out zr).mono HB.out.size)) (by omega)⟩
           | false=>
            cases h9:setsB x.2 with
            | true=>
             rw[h9] at K1
             have HR:=Lib.hid ((scan_hit (f:=hFold) (by unfold hFold;simp only[h0,h1,h2,h9];rfl)).symm.trans HF1.out)
             clear HF1
             go_wp2_with fail
             (with_reducible refine Calls.mono (K0.out z) ?_)
             rintro e w' ⟨rfl,hBk⟩
             obtain⟨z1,hz1⟩:∃z1:WC V,z1.w=w':=⟨⟨_,z.h.trans (hBk.mono z.h.size)⟩,rfl⟩
             rw[←hz1]
             clear hz1 hBk
             go_wp2_with fail
             (with_reducible refine Calls.mono (K1.out z1) ?_)
             rintro e w' ⟨rfl,hBk⟩
             obtain⟨z2,hz1⟩:∃z1:WC V,z1.w=w':=⟨⟨_,z1.h.trans (hBk.mono z1.h.size)⟩,rfl⟩
             rw[←hz1]
             clear hz1 hBk
             clear K0 K1
             have KW:Hid (∀z:WC V,Calls Tryz.prog 99 #[.int .i64 5,.int .i64 5,.int .i64 i] z.w fun e w'=>e=.returned (.agg #[.int .i64 5,.int .i64 5,.int .i64 i])∧∃u:WC V,w'=u.w):=Lib.hid (fun z=>WC.call (HWr.out 5 5 i z.w))
             go_wp2_with fail
             (with_reducible refine Calls.mono (KW.out z2) ?_)
             rintro e w' ⟨rfl,zr,rfl⟩
             clear KW
             go_wp2_with fail
             have b3:=(((HA.out.keep (Keep.of_below (HUp.out zr) (fun _=>False)) (by simp)).set 0 (.int .i64 5)).set 1 (.int .i64 5)).set 2 (.int .i64 i)
             have r0:=b3.cell 0
             have r1:=b3.cell 1
             have r2:=b3.cell 2
             refine bodyPost_ret (v:=.agg #[.int .i64 5,.int .i64 5,.int .i64 i]) (res_wrong Hres.out (by rfl) r0 r1 r2) rfl ?_
             exact⟨by rw[←HR.out];rfl,set3_below (HB.out.trans ((HUp.out zr).mono HB.out.size)) (by omega)⟩
            | false=>
             rw[h9] at K1
             have HF2:=Lib.hid ((scan_miss (f:=hFold) (by unfold hFold;simp only[h0,h1,h2,h9];rfl)).symm.trans HF1.out)
             clear HF1
             go_wp2_with fail
             (with_reducible refine Calls.mono (K0.out z) ?_)
             rintro e w' ⟨rfl,hBk⟩
             obtain⟨z1,hz1⟩:∃z1:WC V,z1.w=w':=⟨⟨_,z.h.trans (hBk.mono z.h.size)⟩,rfl⟩
             rw[←hz1]
             clear hz1 hBk
             go_wp2_with fail
             (with_reducible refine Calls.mono (K1.out z1) ?_)
             rintro e w' ⟨rfl,hBk⟩
             obtain⟨z2,hz1⟩:∃z1:WC V,z1.w=w':=⟨⟨_,z1.h.trans (hBk.mono z1.h.size)⟩,rfl⟩
             rw[←hz1]
             clear hz1 hBk
             go_wp2_with fail
             exact⟨⟨i+1,⟨z2.w,HUp.out z2⟩,by go_num,by omega,HF2,by first | rfl | trivial⟩,by simp[intOf];omega⟩
        ·obtain rfl:i=l4.length:=by omega
         have HF0:=Lib.hid (scan_end HF.out)
         clear hi hlt i0 HF
         have HF:=Lib.hid HF0.out
         clear HF0
         go_wp2_with fail
         go_loopw [105] (fun v105 wr=>∃(i:Nat) (y:WC W0),v105=.int .i64 i∧i≤l5.length∧Hid (scan (hLook) (l5.drop i) i (scan hDrop l6 0 (scan hAllow l7 0 (scan (letQ l7) letP 0 (0,0,0))))=R)∧wr=y.w) (fun v105 _=>l5.length - (intOf v105).toNat)
         case atStart=>exact⟨0,y,rfl,Nat.zero_le _,HF,rfl⟩
         case round=>
          clear HF
          obtain⟨i,y,rfl,hi,HF,rfl⟩:=hrel
          have i0:(0:Int)≤(i:Int):=Int.natCast_nonneg _
          by_cases hlt:i<l5.length
          ·have i1:(i:Int)<(l5.length:Int):=by omega
           obtain⟨g,off,ho,hg,c0,c1,cz⟩:=HL5.out i hlt
           subst ho
           have HF1:=Lib.hid (scan_step hlt HF.out)
           have hxv:=HVl.out l5[i] (List.getElem_mem hlt)
           generalize l5[i]=x at *
           have e0:=fun y:WC W0=>y.cell c0
           have e1:=fun y:WC W0=>y.cell c1
           clear HF c0 c1
           clear cz
           go_upto_region 27 with fail
           have bX:=Blk.new' y.w #[.int .i32 x.1,.string x.2] 143
           have HV1:Hid (Below W0.heap.size W0 (y.w.alloc (.cells #[.int .i32 x.1,.string x.2] 143))):=Lib.hid (y.h.alloc y.h.size _)
           obtain⟨V,hV⟩:∃V,y.w.alloc (.cells #[.int .i32 x.1,.string x.2] 143)=V:=⟨_,rfl⟩
           rw[hV] at bX HV1 ⊢
           obtain⟨bx,hbx⟩:∃b,y.w.heap.size=b:=⟨_,rfl⟩
           rw[hbx] at bX ⊢
           clear hV hbx
           have x0:∀z:WC V,z.w.cell? ⟨bx,0,none⟩=some (.int .i32 x.1):=WC.cell (bX.cell 0)
           have x1:∀z:WC V,z.w.cell? ⟨bx,1,none⟩=some (.string x.2):=WC.cell (bX.cell 1)
           have HUp:Hid (∀z:WC V,Below W0.heap.size W0 z.w):=Lib.hid (fun z=>HV1.out.trans (z.h.mono HV1.out.size))
           have a0z:∀z:WC V,z.w.cell? ⟨W.heap.size,0,none⟩=some (.int .i64 0):=fun z=>a0 ⟨z.w,HUp.out z⟩
           have a1z:∀z:WC V,z.w.cell? ⟨W.heap.size,1,none⟩=some (.int .i64 0):=fun z=>a1 ⟨z.w,HUp.out z⟩
           have a2z:∀z:WC V,z.w.cell? ⟨W.heap.size,2,none⟩=some (.int .i64 0):=fun z=>a2 ⟨z.w,HUp.out z⟩
           have f0z:∀z:WC V,z.w.frozen? ⟨W.heap.size,0,none⟩=false:=fun z=>f0 ⟨z.w,HUp.out z⟩
           have f1z:∀z:WC V,z.w.frozen? ⟨W.heap.size,1,none⟩=false:=fun z=>f1 ⟨z.w,HUp.out z⟩
           have f2z:∀z:WC V,z.w.frozen? ⟨W.heap.size,2,none⟩=false:=fun z=>f2 ⟨z.w,HUp.out z⟩
           clear bX HV1
           obtain⟨z,hz⟩:∃z:WC V,z.w=V:=⟨WC.of V,rfl⟩
           conv=>arg 5;rw[←hz]
           clear hz
           have K0:=Lib.hid (fun z:WC V=>HFx.out x.1 z.w (HUp.out z))
           have K1:=Lib.hid (fun z:WC V=>HCf.out x.2 hxv z.w (HUp.out z))
           cases h0:setB x.1 with
           | true=>
            rw[h0] at K0
            have HR:=Lib.hid ((scan_hit (f:=hLook) (by unfold hLook;simp only[h0];rfl)).symm.trans HF1.out)
            clear HF1
            go_wp2_with fail
            (with_reducible refine Calls.mono (K0.out z) ?_)
            rintro e w' ⟨rfl,hBk⟩
            obtain⟨z1,hz1⟩:∃z1:WC V,z1.w=w':=⟨⟨_,z.h.trans (hBk.mono z.h.size)⟩,rfl⟩
            rw[←hz1]
            clear hz1 hBk
            clear K0 K1
            have KW:Hid (∀z:WC V,Calls Tryz.prog 99 #[.int .i64 5,.int .i64 6,.int .i64 i] z.w fun e w'=>e=.returned (.agg #[.int .i64 5,.int .i64 6,.int .i64 i])∧∃u:WC V,w'=u.w):=Lib.hid (fun z=>WC.call (HWr.out 5 6 i z.w))
            go_wp2_with fail
            (with_reducible refine Calls.mono (KW.out z1) ?_)
            rintro e w' ⟨rfl,zr,rfl⟩
            clear KW
            go_wp2_with fail
            have b3:=(((HA.out.keep (Keep.of_below (HUp.out zr) (fun _=>False)) (by simp)).set 0 (.int .i64 5)).set 1 (.int .i64 6)).set 2 (.int .i64 i)
            have r0:=b3.cell 0
            have r1:=b3.cell 1
            have r2:=b3.cell 2
            refine bodyPost_ret (v:=.agg #[.int .i64 5,.int .i64 6,.int .i64 i]) (res_wrong Hres.out (by rfl) r0 r1 r2) rfl ?_
            exact⟨by rw[←HR.out];rfl,set3_below (HB.out.trans ((HUp.out zr).mono HB.out.size)) (by omega)⟩
           | false=>
            rw[h0] at K0
            cases h9:setsB x.2 with
            | true=>
             rw[h9] at K1
             have HR:=Lib.hid ((scan_hit (f:=hLook) (by unfold hLook;simp only[h0,h9];rfl)).symm.trans HF1.out)
             clear HF1
             go_wp2_with fail
             (with_reducible refine Calls.mono (K0.out z) ?_)
             rintro e w' ⟨rfl,hBk⟩
             obtain⟨z1,hz1⟩:∃z1:WC V,z1.w=w':=⟨⟨_,z.h.trans (hBk.mono z.h.size)⟩,rfl⟩
             rw[←hz1]
             clear hz1 hBk
             go_wp2_with fail
             (with_reducible refine Calls.mono (K1.out z1) ?_)
             rintro e w' ⟨rfl,hBk⟩
             obtain⟨z2,hz1⟩:∃z1:WC V,z1.w=w':=⟨⟨_,z1.h.trans (hBk.mono z1.h.size)⟩,rfl⟩
             rw[←hz1]
             clear hz1 hBk
             clear K0 K1
             have KW:Hid (∀z:WC V,Calls Tryz.prog 99 #[.int .i64 5,.int .i64 6,.int .i64 i] z.w fun e w'=>e=.returned (.agg #[.int .i64 5,.int .i64 6,.int .i64 i])∧∃u:WC V,w'=u.w):=Lib.hid (fun z=>WC.call (HWr.out 5 6 i z.w))
             go_wp2_with fail
             (with_reducible refine Calls.mono (KW.out z2) ?_)
             rintro e w' ⟨rfl,zr,rfl⟩
             clear KW
             go_wp2_with fail
             have b3:=(((HA.out.keep (Keep.of_below (HUp.out zr) (fun _=>False)) (by simp)).set 0 (.int .i64 5)).set 1 (.int .i64 6)).set 2 (.int .i64 i)
             have r0:=b3.cell 0
             have r1:=b3.cell 1
             have r2:=b3.cell 2
             refine bodyPost_ret (v:=.agg #[.int .i64 5,.int .i64 6,.int .i64 i]) (res_wrong Hres.out (by rfl) r0 r1 r2) rfl ?_
             exact⟨by rw[←HR.out];rfl,set3_below (HB.out.trans ((HUp.out zr).mono HB.out.size)) (by omega)⟩
            | false=>
             rw[h9] at K1
             have HF2:=Lib.hid ((scan_miss (f:=hLook) (by unfold hLook;simp only[h0,h9];rfl)).symm.trans HF1.out)
             clear HF1
             go_wp2_with fail
             (with_reducible refine Calls.mono (K0.out z) ?_)
             rintro e w' ⟨rfl,hBk⟩
             obtain⟨z1,hz1⟩:∃z1:WC V,z1.w=w':=⟨⟨_,z.h.trans (hBk.mono z.h.size)⟩,rfl⟩
             rw[←hz1]
             clear hz1 hBk
             go_wp2_with fail
             (with_reducible refine Calls.mono (K1.out z1) ?_)
             rintro e w' ⟨rfl,hBk⟩
             obtain⟨z2,hz1⟩:∃z1:WC V,z1.w=w':=⟨⟨_,z1.h.trans (hBk.mono z1.h.size)⟩,rfl⟩
             rw[←hz1]
             clear hz1 hBk
             go_wp2_with fail
             exact⟨⟨i+1,⟨z2.w,HUp.out z2⟩,by go_num,by omega,HF2,by first | rfl | trivial⟩,by simp[intOf];omega⟩
          ·obtain rfl:i=l5.length:=by omega
           have HF0:=Lib.hid (scan_end HF.out)
           clear hi hlt i0 HF
           have HF:=Lib.hid HF0.out
           clear HF0
           go_wp2_with fail
           go_loopw [127] (fun v127 wr=>∃(i:Nat) (y:WC W0),v127=.int .i64 i∧i≤l6.length∧Hid (scan (hDrop) (l6.drop i) i (scan hAllow l7 0 (scan (letQ l7) letP 0 (0,0,0)))=R)∧wr=y.w) (fun v127 _=>l6.length - (intOf v127).toNat)
           case atStart=>exact⟨0,y,rfl,Nat.zero_le _,HF,rfl⟩
           case round=>
            clear HF
            obtain⟨i,y,rfl,hi,HF,rfl⟩:=hrel
            have i0:(0:Int)≤(i:Int):=Int.natCast_nonneg _
            by_cases hlt:i<l6.length
            ·have i1:(i:Int)<(l6.length:Int):=by omega
             obtain⟨g,off,ho,hg,c0,c1⟩:=HL6.out i hlt
             subst ho
             have HF1:=Lib.hid (scan_step hlt HF.out)
             generalize l6[i]=x at *
             have e0:=fun y:WC W0=>y.cell c0
             have e1:=fun y:WC W0=>y.cell c1
             clear HF c0 c1
             go_upto_region 33 with fail
             have bX:=Blk.new' y.w #[.int .i32 x.1,.int .i32 x.2] 137
             have HV1:Hid (Below W0.heap.size W0 (y.w.alloc (.cells #[.int .i32 x.1,.int .i32 x.2] 137))):=Lib.hid (y.h.alloc y.h.size _)
             obtain⟨V,hV⟩:∃V,y.w.alloc (.cells #[.int .i32 x.1,.int .i32 x.2] 137)=V:=⟨_,rfl⟩
             rw[hV] at bX HV1 ⊢
             obtain⟨bx,hbx⟩:∃b,y.w.heap.size=b:=⟨_,rfl⟩
             rw[hbx] at bX ⊢
             clear hV hbx
             have x0:∀z:WC V,z.w.cell? ⟨bx,0,none⟩=some (.int .i32 x.1):=WC.cell (bX.cell 0)
             have x1:∀z:WC V,z.w.cell? ⟨bx,1,none⟩=some (.int .i32 x.2):=WC.cell (bX.cell 1)
             have HUp:Hid (∀z:WC V,Below W0.heap.size W0 z.w):=Lib.hid (fun z=>HV1.out.trans (z.h.mono HV1.out.size))
             have a0z:∀z:WC V,z.w.cell? ⟨W.heap.size,0,none⟩=some (.int .i64 0):=fun z=>a0 ⟨z.w,HUp.out z⟩
             have a1z:∀z:WC V,z.w.cell? ⟨W.heap.size,1,none⟩=some (.int .i64 0):=fun z=>a1 ⟨z.w,HUp.out z⟩
             have a2z:∀z:WC V,z.w.cell? ⟨W.heap.size,2,none⟩=some (.int .i64 0):=fun z=>a2 ⟨z.w,HUp.out z⟩
             have f0z:∀z:WC V,z.w.frozen? ⟨W.heap.size,0,none⟩=false:=fun z=>f0 ⟨z.w,HUp.out z⟩
             have f1z:∀z:WC V,z.w.frozen? ⟨W.heap.size,1,none⟩=false:=fun z=>f1 ⟨z.w,HUp.out z⟩
             have f2z:∀z:WC V,z.w.frozen? ⟨W.heap.size,2,none⟩=false:=fun z=>f2 ⟨z.w,HUp.out z⟩
             clear bX HV1
             obtain⟨z,hz⟩:∃z:WC V,z.w=V:=⟨WC.of V,rfl⟩
             conv=>arg 5;rw[←hz]
             clear hz
             cases h0:decide (x.1<128) with
             | true=>
              have HR:=Lib.hid ((scan_hit (f:=hDrop) (by unfold hDrop;simp only[h0];rfl)).symm.trans HF1.out)
              clear HF1
              have KW:Hid (∀z:WC V,Calls Tryz.prog 99 #[.int .i64 5,.int .i64 7,.int .i64 i] z.w fun e w'=>e=.returned (.agg #[.int .i64 5,.int .i64 7,.int .i64 i])∧∃u:WC V,w'=u.w):=Lib.hid (fun z=>WC.call (HWr.out 5 7 i z.w))
              go_wp2_with fail
              (with_reducible refine Calls.mono (KW.out z) ?_)
              rintro e w' ⟨rfl,zr,rfl⟩
              clear KW
              go_wp2_with fail
              have b3:=(((HA.out.keep (Keep.of_below (HUp.out zr) (fun _=>False)) (by simp)).set 0 (.int .i64 5)).set 1 (.int .i64 7)).set 2 (.int .i64 i)
              have r0:=b3.cell 0
              have r1:=b3.cell 1
              have r2:=b3.cell 2
              refine bodyPost_ret (v:=.agg #[.int .i64 5,.int .i64 7,.int .i64 i]) (res_wrong Hres.out (by rfl) r0 r1 r2) rfl ?_
              exact⟨by rw[←HR.out];rfl,set3_below (HB.out.trans ((HUp.out zr).mono HB.out.size)) (by omega)⟩
             | false=>
              cases h1:decide (x.1≤65533) with
              | false=>
               have HF2:=Lib.hid ((scan_miss (f:=hDrop) (by unfold hDrop;simp only[h0,h1,Bool.false_and];rfl)).symm.trans HF1.out)
               clear HF1
               go_wp2_with fail
               exact⟨⟨i+1,⟨z.w,HUp.out z⟩,by go_num,by omega,HF2,by first | rfl | trivial⟩,by simp[intOf];omega⟩
              | true=>
               cases h2:decide (65533≤x.2) with
               | true=>
                have HR:=Lib.hid ((scan_hit (f:=hDrop) (by unfold hDrop;simp only[h0,h1,h2,Bool.and_self];rfl)).symm.trans HF1.out)
                clear HF1
                have KW:Hid (∀z:WC V,Calls Tryz.prog 99 #[.int .i64 5,.int .i64 7,.int .i64 i] z.w fun e w'=>e=.returned (.agg #[.int .i64 5,.int .i64 7,.int .i64 i])∧∃u:WC V,w'=u.w):=Lib.hid (fun z=>WC.call (HWr.out 5 7 i z.w))
                go_wp2_with fail
                (with_reducible refine Calls.mono (KW.out z) ?_)
                rintro e w' ⟨rfl,zr,rfl⟩
                clear KW
                go_wp2_with fail
                have b3:=(((HA.out.keep (Keep.of_below (HUp.out zr) (fun _=>False)) (by simp)).set 0 (.int .i64 5)).set 1 (.int .i64 7)).set 2 (.int .i64 i)
                have r0:=b3.cell 0
                have r1:=b3.cell 1
                have r2:=b3.cell 2
                refine bodyPost_ret (v:=.agg #[.int .i64 5,.int .i64 7,.int .i64 i]) (res_wrong Hres.out (by rfl) r0 r1 r2) rfl ?_
                exact⟨by rw[←HR.out];rfl,set3_below (HB.out.trans ((HUp.out zr).mono HB.out.size)) (by omega)⟩
               | false=>
                have HF2:=Lib.hid ((scan_miss (f:=hDrop) (by unfold hDrop;simp only[h0,h1,h2,Bool.and_false];rfl)).symm.trans HF1.out)
                clear HF1
                go_wp2_with fail
                exact⟨⟨i+1,⟨z.w,HUp.out z⟩,by go_num,by omega,HF2,by first | rfl | trivial⟩,by simp[intOf];omega⟩
            ·obtain rfl:i=l6.length:=by omega
             have HF0:=Lib.hid (scan_end HF.out)
             clear hi hlt i0 HF
             have HF:=Lib.hid HF0.out
             clear HF0
             go_wp2_with fail
             go_loopw [154] (fun v154 wr=>∃(i:Nat) (y:WC W0),v154=.int .i64 i∧i≤l7.length∧Hid (scan (hAllow) (l7.drop i) i (scan (letQ l7) letP 0 (0,0,0))=R)∧wr=y.w) (fun v154 _=>l7.length - (intOf v154).toNat)
             case atStart=>exact⟨0,y,rfl,Nat.zero_le _,HF,rfl⟩
             case round=>
              clear HF
              obtain⟨i,y,rfl,hi,HF,rfl⟩:=hrel
              have i0:(0:Int)≤(i:Int):=Int.natCast_nonneg _
              by_cases hlt:i<l7.length
              ·have i1:(i:Int)<(l7.length:Int):=by omega
               obtain⟨g,off,ho,hg,c0,c1⟩:=HL7.out i hlt
               subst ho
               have HF1:=Lib.hid (scan_step hlt HF.out)
               have hxr:runeB l7[i].1=true:=(spOk_at HOk.out hlt).1
               have hx0:=(runeB_iff _).1 hxr
               clear hxr
               generalize l7[i]=x at *
               have e0:=fun y:WC W0=>y.cell c0
               have e1:=fun y:WC W0=>y.cell c1
               clear HF c0 c1
               go_upto_region 39 with fail
               have bX:=Blk.new' y.w #[.int .i32 x.1,.int .i32 x.2] 137
               have HV1:Hid (Below W0.heap.size W0 (y.w.alloc (.cells #[.int .i32 x.1,.int .i32 x.2] 137))):=Lib.hid (y.h.alloc y.h.size _)
               obtain⟨V,hV⟩:∃V,y.w.alloc (.cells #[.int .i32 x.1,.int .i32 x.2] 137)=V:=⟨_,rfl⟩
               rw[hV] at bX HV1 ⊢
               obtain⟨bx,hbx⟩:∃b,y.w.heap.size=b:=⟨_,rfl⟩
               rw[hbx] at bX ⊢
               clear hV hbx
               have x0:∀z:WC V,z.w.cell? ⟨bx,0,none⟩=some (.int .i32 x.1):=WC.cell (bX.cell 0)
               have x1:∀z:WC V,z.w.cell? ⟨bx,1,none⟩=some (.int .i32 x.2):=WC.cell (bX.cell 1)
               have HUp:Hid (∀z:WC V,Below W0.heap.size W0 z.w):=Lib.hid (fun z=>HV1.out.trans (z.h.mono HV1.out.size))
               have a0z:∀z:WC V,z.w.cell? ⟨W.heap.size,0,none⟩=some (.int .i64 0):=fun z=>a0 ⟨z.w,HUp.out z⟩
               have a1z:∀z:WC V,z.w.cell? ⟨W.heap.size,1,none⟩=some (.int .i64 0):=fun z=>a1 ⟨z.w,HUp.out z⟩
               have a2z:∀z:WC V,z.w.cell? ⟨W.heap.size,2,none⟩=some (.int .i64 0):=fun z=>a2 ⟨z.w,HUp.out z⟩
               have f0z:∀z:WC V,z.w.frozen? ⟨W.heap.size,0,none⟩=false:=fun z=>f0 ⟨z.w,HUp.out z⟩
               have f1z:∀z:WC V,z.w.frozen? ⟨W.heap.size,1,none⟩=false:=fun z=>f1 ⟨z.w,HUp.out z⟩
               have f2z:∀z:WC V,z.w.frozen? ⟨W.heap.size,2,none⟩=false:=fun z=>f2 ⟨z.w,HUp.out z⟩
               clear bX HV1
               obtain⟨z,hz⟩:∃z:WC V,z.w=V:=⟨WC.of V,rfl⟩
               conv=>arg 5;rw[←hz]
               clear hz
               obtain⟨B,hB⟩:∃B,alGo x.2 (128 - x.1).toNat x.1=B:=⟨_,rfl⟩
               have HM:Hid (hAllow x i=if B then some (5,8,(i:Int)) else none):=Lib.hid (by unfold hAllow;rw[hB])
               have HB2:=Lib.hid hB
               clear hB
               have xlo:=hx0.1
               have xhi:=hx0.2.1
               clear hx0
               go_wp2_with fail
               go_loopw [17] (fun v17 wr=>∃(r:Int) (z:WC V),v17=.int .i32 r∧0≤r∧r≤1114112∧Hid (alGo x.2 (128 - r).toNat r=B)∧wr=z.w) (fun v17 _=>(1200000 - (intOf v17)).toNat)
               case atStart=>exact⟨x.1,z,rfl,xlo,by omega,HB2,rfl⟩
               case round=>
                clear HB2
                obtain⟨r,z,rfl,r0,r9,HB2,rfl⟩:=hrel
                by_cases hr:r≤x.2∧r<128
                ·have hd:decide (r≤min x.2 127)=true:=by rw[decide_eq_true_iff];omega
                 have hd2:r≤min x.2 127:=by omega
                 have HBs:Hid ((if letB r then alGo x.2 (128 - (r+1)).toNat (r+1) else true)=B):=Lib.hid (by rw[←HB2.out,show (128 - r).toNat=(128 - (r+1)).toNat+1 by omega,alGo,if_pos hr])
                 clear HB2
                 have KC:=Lib.hid (HCr.out r r0 hr.2 z.w (HUp.out z))
                 have hr1:=hr.1
                 have hr2:=hr.2
                 clear hr
                 cases h0:letB r with
                 | true=>
                  rw[h0] at KC
                  have HB3:Hid (alGo x.2 (128 - (r+1)).toNat (r+1)=B):=Lib.hid (by rw[←HBs.out,h0];rfl)
                  clear HBs h0
                  go_wp2_with fail
                  (with_reducible refine Calls.mono (KC.out) ?_)
                  rintro e w' ⟨rfl,hBk⟩
                  obtain⟨z1,hz1⟩:∃z1:WC V,z1.w=w':=⟨⟨_,z.h.trans (hBk.mono z.h.size)⟩,rfl⟩
                  rw[←hz1]
                  clear hz1 hBk
                  go_wp2_with fail
                  exact⟨⟨r+1,z1,by go_num,by omega,by omega,HB3,rfl⟩,by simp[intOf];omega⟩
                 | false=>
                  rw[h0] at KC
                  have hBt:B=true:=by rw[←HBs.out,h0];rfl
                  have hs:hAllow x i=some (5,8,(i:Int)):=by rw[HM.out,hBt];rfl
                  have HR:=Lib.hid ((scan_hit hs).symm.trans HF1.out)
                  clear HF1 hs HM HBs h0 hBt
                  go_wp2_with fail
                  (with_reducible refine Calls.mono (KC.out) ?_)
                  rintro e w' ⟨rfl,hBk⟩
                  obtain⟨z1,hz1⟩:∃z1:WC V,z1.w=w':=⟨⟨_,z.h.trans (hBk.mono z.h.size)⟩,rfl⟩
                  rw[←hz1]
                  clear hz1 hBk
                  clear KC
                  have KW:Hid (∀z:WC V,Calls Tryz.prog 99 #[.int .i64 5,.int .i64 8,.int .i64 i] z.w fun e w'=>e=.returned (.agg #[.int .i64 5,.int .i64 8,.int .i64 i])∧∃u:WC V,w'=u.w):=Lib.hid (fun z=>WC.call (HWr.out 5 8 i z.w))
                  go_wp2_with fail
                  (with_reducible refine Calls.mono (KW.out z1) ?_)
                  rintro e w' ⟨rfl,zr,rfl⟩
                  clear KW
                  go_wp2_with fail
                  have b3:=(((HA.out.keep (Keep.of_below (HUp.out zr) (fun _=>False)) (by simp)).set 0 (.int .i64 5)).set 1 (.int .i64 8)).set 2 (.int .i64 i)
                  have r0:=b3.cell 0
                  have r1:=b3.cell 1
                  have r2:=b3.cell 2
                  refine bodyPost_ret (v:=.agg #[.int .i64 5,.int .i64 8,.int .i64 i]) (res_wrong Hres.out (by rfl) r0 r1 r2) rfl ?_
                  exact⟨by rw[←HR.out];rfl,set3_below (HB.out.trans ((HUp.out zr).mono HB.out.size)) (by omega)⟩
                ·have hd:decide (r≤min x.2 127)=false:=by rw[decide_eq_false_iff_not];omega
                 have hBf:B=false:=by
                  rw[←HB2.out]
                  cases q:(128 - r).toNat with
                  | zero=>rfl
                  | succ n=>rw[alGo,if_neg hr]
                 have hs:hAllow x i=none:=by rw[HM.out,hBf];rfl
                 have HF2:=Lib.hid ((scan_miss hs).symm.trans HF1.out)
                 clear HF1 hs HM HB2 hr hBf
                 go_wp2_with fail
                 exact⟨⟨i+1,⟨z.w,HUp.out z⟩,by go_num,by omega,HF2,by first | rfl | trivial⟩,by simp[intOf];omega⟩
              ·obtain rfl:i=l7.length:=by omega
               have HF0:=Lib.hid (scan_end HF.out)
               clear hi hlt i0 HF
               have HF:=Lib.hid HF0.out
               clear HF0
               go_wp2_with fail
               rw[show ({ data:=#[45,48,49,50,51,52,53,54,55,56,57,97,98,99,100,101,102,103,104,105,106,107,108,109,110,111,112,113,114,115,116,117,118,119,120,121,122] }:ByteArray)=lettersS from rfl]
               have hit:Itr (y.w.iter lettersS 0) y.w.heap.size lettersS 0:=Itr.new y.w lettersS 0
               have hkk:=y.h.size
               obtain⟨y1,hz1⟩:∃y1:WC W0,y1.w=(y.w.iter lettersS 0):=⟨⟨_,y.h.alloc y.h.size _⟩,rfl⟩
               conv=>arg 5;rw[←hz1]
               rw[←hz1] at hit
               clear hz1
               obtain⟨kk,hkq⟩:∃kk,y.w.heap.size=kk:=⟨_,rfl⟩
               rw[hkq] at hit hkk ⊢
               clear hkq
               go_loopg [] 37 (fun f wr=>∃(p:Nat) (y:WC W0),p≤37∧37 - p≤f∧Hid (scan (letQ l7) (letP.drop p) p ((0,0,0))=R)∧Itr y.w kk lettersS p∧wr=y.w)
               case atStart=>exact⟨0,y1,Nat.zero_le _,by omega,HF,hit,rfl⟩
               case round=>
                clear HF hit y1
                obtain⟨p,y,hp,hf,HF,hit,rfl⟩:=hrel
                by_cases hlp:p<37
                ·have hn:=fun ty=>Lib.run_next_any_at (P:=Tryz.prog) y.w _ _ _ ty hit (show p<(lettersS).size from hlp)
                 obtain⟨r,hdec,hPp⟩:=lets_at p hlp
                 rw[hdec] at hn
                 have HF1:Hid (scan (letQ l7) ((r:Int)::letP.drop (p+1)) p ((0,0,0))=R):=Lib.hid (by rw[←HF.out];congr 1;obtain⟨h1,h2⟩:=List.getElem?_eq_some_iff.1 hPp;rw[List.drop_eq_getElem_cons h1,h2])
                 clear HF hPp hdec
                 have hit2:=hit.at (p+1)
                 go_upto_region 48 with fail
                 obtain⟨y2,hz1⟩:∃y2:WC W0,y2.w=(y.w.iterAt kk lettersS (p+1)):=⟨⟨_,WC.iterAt y hkk lettersS (p+1)⟩,rfl⟩
                 conv=>arg 5;rw[←hz1]
                 rw[←hz1] at hit2
                 clear hz1
                 clear hn hit
                 have KO:=Lib.hid (HO7.out (r:Int) y2.w y2.h)
                 cases h0:ofB (r:Int) l7 with
                 | false=>
                  rw[h0] at KO
                  have HR:=Lib.hid ((scan_hit (f:=letQ l7) (x:=(r:Int)) (i:=p) (by unfold letQ;rw[h0];rfl)).symm.trans HF1.out)
                  clear HF1
                  go_wp2_with fail
                  (with_reducible refine Calls.mono KO.out ?_)
                  rintro e w' ⟨rfl,hBk⟩
                  clear KO
                  have hit3:=hit2.keep (Keep.of_below hBk (fun _=>False)) (by simp)
                  obtain⟨y3,hy3⟩:∃y3:WC W0,y3.w=w':=⟨⟨_,y2.h.trans (hBk.mono y2.h.size)⟩,rfl⟩
                  rw[←hy3] at hit3 ⊢
                  clear hy3 hBk hit2
                  clear hit3
                  have KW:Hid (∀z:WC W0,Calls Tryz.prog 99 #[.int .i64 5,.int .i64 8,.int .i64 0] z.w fun e w'=>e=.returned (.agg #[.int .i64 5,.int .i64 8,.int .i64 0])∧∃u:WC W0,w'=u.w):=Lib.hid (fun z=>WC.call (HWr.out 5 8 0 z.w))
                  go_wp2_with fail
                  (with_reducible refine Calls.mono (KW.out y3) ?_)
                  rintro e w' ⟨rfl,zr,rfl⟩
                  clear KW
                  go_wp2_with fail
                  have b3:=(((HA.out.keep (Keep.of_below zr.h (fun _=>False)) (by simp)).set 0 (.int .i64 5)).set 1 (.int .i64 8)).set 2 (.int .i64 0)
                  have r0:=b3.cell 0
                  have r1:=b3.cell 1
                  have r2:=b3.cell 2
                  refine bodyPost_ret (v:=.agg #[.int .i64 5,.int .i64 8,.int .i64 0]) (res_wrong Hres.out (by rfl) r0 r1 r2) rfl ?_
                  exact⟨by rw[←HR.out];rfl,set3_below (HB.out.trans (zr.h.mono HB.out.size)) (by omega)⟩
                 | true=>
                  rw[h0] at KO
                  have HF2:=Lib.hid ((scan_miss (f:=letQ l7) (x:=(r:Int)) (i:=p) (by unfold letQ;rw[h0];rfl)).symm.trans HF1.out)
                  clear HF1
                  go_wp2_with fail
                  (with_reducible refine Calls.mono KO.out ?_)
                  rintro e w' ⟨rfl,hBk⟩
                  clear KO
                  have hit3:=hit2.keep (Keep.of_below hBk (fun _=>False)) (by simp)
                  obtain⟨y3,hy3⟩:∃y3:WC W0,y3.w=w':=⟨⟨_,y2.h.trans (hBk.mono y2.h.size)⟩,rfl⟩
                  rw[←hy3] at hit3 ⊢
                  clear hy3 hBk hit2
                  go_wp2_with fail
                  go_roundg (37 - (p+1))
                  case measure=>omega
                  exact⟨p+1,y3,by omega,by omega,HF2,hit3,rfl⟩
                ·obtain rfl:p=37:=by omega
                 have hn:=fun ty=>Lib.run_next_end_at (P:=Tryz.prog) y.w _ _ _ ty hit (Nat.lt_irrefl _)
                 have HF2:Hid ((0,0,0)=R):=Lib.hid HF.out
                 clear HF hp hlp hf
                 have HF:=Lib.hid HF2.out
                 clear HF2
                 have HR:=Lib.hid HF.out
                 go_wp2_with fail
                 have b3:=(((HA.out.keep (Keep.of_below y.h (fun _=>False)) (by simp)).set 0 (.int .i64 0)).set 1 (.int .i64 0)).set 2 (.int .i64 0)
                 have r0:=b3.cell 0
                 have r1:=b3.cell 1
                 have r2:=b3.cell 2
                 refine bodyPost_ret (v:=.agg #[.int .i64 0,.int .i64 0,.int .i64 0]) (res_wrong Hres.out (by rfl) r0 r1 r2) rfl ?_
                 exact⟨by rw[←HR.out];rfl,set3_below (HB.out.trans (y.h.mono HB.out.size)) (by omega)⟩
end Go.Proofs.YtioehfhdoohdmaaGreatDoor
