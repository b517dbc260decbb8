/- OfA: OfW, RightW, Keys, NameW, StrW. -/
import Derived.Test.YtioehfhdoohdmaaGreatDoorTabA
import Derived.DeepKeys4
import Derived.Lib.Walk
import Derived.Test.YtioehfhdoohdmaaGreatDoorValid
import Derived.Lib.TrimUEq
set_option linter.unusedVariables false
set_option linter.unusedSimpArgs false
namespace Go.Proofs.YtioehfhdoohdmaaGreatDoor
open Go.RowKit Go.Shelf BigFrame
theorem of1_any (lo hi r:Int) (W:World) (h1:-2147483648≤lo - r) (h2:lo - r≤2147483647):Calls Tryz.prog 142 #[.agg #[.int .i32 lo,.int .i32 hi],.int .i32 r] W fun e w'=>e=.returned (.int .i64 (lo - r))∧Below W.heap.size W w':=by
 have b:=Blk.new' W #[.int .i32 lo,.int .i32 hi] 137
 have hB:Below W.heap.size W (W.alloc (.cells #[.int .i32 lo,.int .i32 hi] 137)):=(Below.refl _ W).alloc (Nat.le_refl _) _
 have c0:=b.cell 0
 simp only[List.getElem?_cons_zero] at c0
 clear b
 go_enter Tryz.func142,Tryz.ntmps142
 go_wp2_with fail
 go_ret
 exact⟨rfl,hB⟩
def BSPost (l:List Span) (r:Int) (W:World) (e:Ending) (w':World):Prop:=∃i:Nat,Cut l r i∧e=.returned (.tuple #[.int .i64 i,.bool (atB l r i)])∧Below W.heap.size W w'
set_option maxRecDepth 100000 in
set_option maxHeartbeats 4000000 in
theorem bs_any (o:Option Addr) (c:Nat) (l:List Span) (r:Int) (W:World) (h:SpansAt W o l) (hm:l.length≤1048576) (hok:SpOk l) (hr:runeB r=true) :
 Calls Tryz.prog 141 #[.slice o l.length c,.int .i32 r,.func (.func 142) #[] #[]] W (BSPost l r W):=by
 have H:=Lib.hid h
 have HOk:=Lib.hid hok
 have hrr:=(runeB_iff r).1 hr
 have HRr:=Lib.hid hrr
 clear h hok hr hrr
 go_enter Tryz.func141,Tryz.ntmps141
 go_wp2_with fail
 obtain⟨y,hy⟩:∃y:WC W,y.w=W:=⟨WC.of W,rfl⟩
 conv=>arg 5;rw[←hy]
 clear hy
 go_loopw [9,10] (fun v9 v10 wr=>∃(i j:Nat) (y:WC W),v9=.int .i64 i∧v10=.int .i64 j∧i≤j∧j≤l.length∧Hid (∀k (hk:k<l.length),k<i→l[k].1<r)∧Hid (∀k (hk:k<l.length),j≤k→r≤l[k].1)∧wr=y.w) (fun v9 v10 _=>(intOf v10).toNat - (intOf v9).toNat)
 case atStart=>exact⟨0,l.length,y,rfl,rfl,Nat.zero_le _,Nat.le_refl _,Lib.hid (fun k _ h=>absurd h (by omega)),Lib.hid (fun k hk h=>absurd h (by omega)),rfl⟩
 case round=>
  clear y
  obtain⟨i,j,y,rfl,rfl,hij,hj,Hlo,Hhi,rfl⟩:=hrel
  have i0:(0:Int)≤(i:Int):=Int.natCast_nonneg _
  have j0:(0:Int)≤(j:Int):=Int.natCast_nonneg _
  have jm:(j:Int)≤1048576:=by omega
  by_cases hlt:i<j
  ·have i1:(i:Int)<(j:Int):=by omega
   go_upto_region 5 with fail
   obtain⟨m,hm⟩:∃m:Nat,(i+j) / 2=m:=⟨_,rfl⟩
   rw[show ((i:Int)+(j:Int)) / 2=(m:Int) by omega]
   have him:i≤m:=by omega
   have hmj:m<j:=by omega
   have hml:m<l.length:=by omega
   clear hm
   have m0:(0:Int)≤(m:Int):=Int.natCast_nonneg _
   have m1:(m:Int)<(l.length:Int):=by omega
   obtain⟨g,off,ho,hg,c0,c1⟩:=H.out m hml
   subst ho
   have hxr:=(runeB_iff l[m].1).1 (spOk_at HOk.out hml).1
   have HL:Hid (l[m].1<r→∀k (hk:k<l.length),k<m+1→l[k].1<r):=Lib.hid (fun e=>cut_lo HOk.out hml Hlo.out e)
   have HH:Hid (r≤l[m].1→∀k (hk:k<l.length),m≤k→r≤l[k].1):=Lib.hid (fun e=>cut_hi HOk.out hml e)
   generalize l[m]=x at *
   have hrr:=HRr.out
   have K:Hid (∀y:WC W,Calls Tryz.prog 142 #[.agg #[.int .i32 x.1,.int .i32 x.2],.int .i32 r] y.w fun e w'=>e=.returned (.int .i64 (x.1 - r))∧∃z:WC W,w'=z.w):=Lib.hid (fun y=>WC.call (of1_any x.1 x.2 r y.w (by omega) (by omega)))
   clear hxr hrr
   have e0:=fun y:WC W=>y.cell c0
   have e1:=fun y:WC W=>y.cell c1
   clear c0 c1
   by_cases hx:x.1<r
   ·have d1:decide (x.1 - r<0)=true:=by rw[decide_eq_true_iff];omega
    have HL2:=Lib.hid (HL.out hx)
    clear HL HH hx
    go_wp2_with fail
    (with_reducible refine Calls.mono (K.out y) ?_)
    rintro e w' ⟨rfl,y1,rfl⟩
    go_wp2_with fail
    exact⟨⟨m+1,j,y1,by go_num,rfl,by omega,hj,HL2,Hhi,by first | rfl | trivial⟩,by simp[intOf];omega⟩
   ·have d1:decide (x.1 - r<0)=false:=by rw[decide_eq_false_iff_not];omega
    have HH2:=Lib.hid (HH.out (by omega))
    clear HL HH hx
    go_wp2_with fail
    (with_reducible refine Calls.mono (K.out y) ?_)
    rintro e w' ⟨rfl,y1,rfl⟩
    go_wp2_with fail
    exact⟨⟨i,m,y1,rfl,rfl,him,by omega,Hlo,HH2,by first | rfl | trivial⟩,by simp[intOf];omega⟩
  ·obtain rfl:i=j:=by omega
   have HC:Hid (Cut l r i):=Lib.hid ⟨hj,Hlo.out,Hhi.out⟩
   clear Hlo Hhi hlt hij
   by_cases hl:i<l.length
   ·have i1:(i:Int)<(l.length:Int):=by omega
    obtain⟨g,off,ho,hg,c0,c1⟩:=H.out i hl
    subst ho
    have hxr:=(runeB_iff l[i].1).1 (spOk_at HOk.out hl).1
    have HA:Hid (atB l r i=(l[i].1 == r)):=Lib.hid (by unfold atB;rw[List.getElem?_eq_getElem hl])
    generalize l[i]=x at *
    have hrr:=HRr.out
    have K:Hid (∀y:WC W,Calls Tryz.prog 142 #[.agg #[.int .i32 x.1,.int .i32 x.2],.int .i32 r] y.w fun e w'=>e=.returned (.int .i64 (x.1 - r))∧∃z:WC W,w'=z.w):=Lib.hid (fun y=>WC.call (of1_any x.1 x.2 r y.w (by omega) (by omega)))
    clear hxr hrr
    have e0:=fun y:WC W=>y.cell c0
    have e1:=fun y:WC W=>y.cell c1
    clear c0 c1
    have hE:(x.1 - r == 0)=(x.1 == r):=by rw[Bool.eq_iff_iff,beq_iff_eq,beq_iff_eq];omega
    have HE:=Lib.hid hE
    clear hE
    go_wp2_with fail
    (with_reducible refine Calls.mono (K.out y) ?_)
    rintro e w' ⟨rfl,y1,rfl⟩
    go_wp2_with fail
    refine bodyPost_ret (v:=.tuple #[.int .i64 i,.bool (x.1 - r == 0)]) (by simp[results,Tryz.results141,go_sem]) rfl ?_
    exact⟨i,HC.out,by rw[HE.out,HA.out],y1.h⟩
   ·have d1:decide ((i:Int)<(l.length:Int))=false:=by rw[decide_eq_false_iff_not];omega
    have HA:Hid (atB l r i=false):=Lib.hid (by unfold atB;rw[List.getElem?_eq_none (by omega)])
    go_wp2_with fail
    refine bodyPost_ret (v:=.tuple #[.int .i64 i,.bool false]) (by simp[results,Tryz.results141,go_sem]) rfl ?_
    exact⟨i,HC.out,by rw[HA.out],y.h⟩
set_option maxRecDepth 100000 in
set_option maxHeartbeats 4000000 in
theorem tof_any (o:Option Addr) (c:Nat) (l:List Span) (r:Int) (W:World) (h:SpansAt W o l) (hm:l.length≤1048576) (hok:SpOk l) :
 Calls Tryz.prog 106 #[.int .i32 r,.slice o l.length c] W fun e w'=>e=.returned (.bool (ofB r l))∧Below W.heap.size W w':=by
 have HV:Hid (∀W:World,Calls Tryz.prog 102 #[.int .i32 r] W fun e w'=>e=.returned (.bool (runeB r))∧W=w'):=Lib.hid (fun W=>(Tryz.utf8_ValidRune r W).mono fun e w' hh=>⟨by rw[hh.1];congr 2;rw[Bool.eq_iff_iff,runeB_iff];simp[Lib.validRune,Utf8.valid];omega,hh.2.symm⟩)
 cases hr:runeB r with
 | false=>
  have HB:=Lib.hid (of_bad (l:=l) hr)
  rw[hr] at HV
  clear h hm hok
  go_enter Tryz.func106,Tryz.ntmps106
  go_wp2_with fail
  (with_reducible refine Calls.mono (HV.out _) ?_)
  rintro e w' ⟨rfl,rfl⟩
  go_wp2_with fail
  go_ret
  exact⟨by rw[HB.out];rfl,Below.refl _ _⟩
 | true=>
  have HBs:=Lib.hid (fun W' (hB:Below W.heap.size W W')=>bs_any o c l r W' (h.below hB) hm hok hr)
  have HC:=Lib.hid (fun i hc=>of_cut hok hr (i:=i) hc)
  have H:=Lib.hid h
  rw[hr] at HV
  clear h hok
  go_enter Tryz.func106,Tryz.ntmps106
  go_wp2_with fail
  (with_reducible refine Calls.mono (HV.out _) ?_)
  rintro e w' ⟨rfl,rfl⟩
  go_wp2_with fail
  refine Calls.mono (HBs.out _ (Below.refl _ _)) ?_
  rintro e w1 ⟨i,hc,rfl,hB⟩
  have hil:=hc.1
  have HO:=Lib.hid (HC.out i hc)
  clear hc HC HBs
  have i0:(0:Int)≤(i:Int):=Int.natCast_nonneg _
  have i1:(i:Int)≤1048576:=by omega
  cases ha:atB l r i with
  | true=>
   go_wp2_with fail
   go_ret
   exact⟨by rw[HO.out,ha];rfl,hB⟩
  | false=>
   by_cases hp:0<i
   ·have d0:decide ((0:Int)<(i:Int))=true:=by rw[decide_eq_true_iff];omega
    have il:i - 1<l.length:=by omega
    obtain⟨g,off,ho,hg,c0,c1⟩:=(H.out.below hB) (i - 1) il
    subst ho
    rw[ha,getD_at il] at HO
    have hpd:decide (0<i)=true:=by simpa using hp
    have HP:=Lib.hid hpd
    have j0:(0:Int)≤(i:Int) - 1:=by omega
    have j1:(i:Int) - 1<(l.length:Int):=by omega
    have j2:((i:Int) - 1).toNat=i - 1:=by omega
    generalize l[i - 1]=x at *
    clear hpd
    cases hx:decide (r≤x.2) with
    | true=>
     go_wp2_with fail
     go_ret
     exact⟨by rw[HO.out,HP.out,hx];rfl,hB⟩
    | false=>
     go_wp2_with fail
     go_ret
     exact⟨by rw[HO.out,HP.out,hx];rfl,hB⟩
   ·have d0:decide ((0:Int)<(i:Int))=false:=by rw[decide_eq_false_iff_not];omega
    have hpd:decide (0<i)=false:=by simpa using hp
    have HP:=Lib.hid hpd
    clear hpd
    go_wp2_with fail
    go_ret
    exact⟨by rw[HO.out,HP.out,ha];rfl,hB⟩
end Go.Proofs.YtioehfhdoohdmaaGreatDoor
namespace Go.Proofs.YtioehfhdoohdmaaGreatDoor
open Go.RowKit Go.Shelf BigFrame
theorem valid_any (r:Int) (W:World):Calls Tryz.prog 102 #[.int .i32 r] W fun e w'=>e=.returned (.bool (runeB r))∧W=w':=
 (Tryz.utf8_ValidRune r W).mono fun e w' hh=>⟨by rw[hh.1];congr 2;rw[Bool.eq_iff_iff,runeB_iff];simp[Lib.validRune,Utf8.valid];omega,hh.2.symm⟩
theorem twrong_any (a b c:Int) (W:World):Calls Tryz.prog 99 #[.int .i64 a,.int .i64 b,.int .i64 c] W fun e w'=>e=.returned (.agg #[.int .i64 a,.int .i64 b,.int .i64 c])∧Below W.heap.size W w':=by
 have hB:Below W.heap.size W (W.alloc (.cells #[.int .i64 a,.int .i64 b,.int .i64 c] 100)):=(Below.refl _ W).alloc (Nat.le_refl _) _
 have bA:=Blk.new' W #[.int .i64 a,.int .i64 b,.int .i64 c] 100
 have r0:=bA.cell 0
 have r1:=bA.cell 1
 have r2:=bA.cell 2
 clear bA
 go_enter Tryz.func99,Tryz.ntmps99
 go_wp2_with fail
 exact bodyPost_ret (v:=.agg #[.int .i64 a,.int .i64 b,.int .i64 c]) (by simp[results,Tryz.results99,go_sem,r0,r1,r2]) rfl ⟨rfl,hB⟩
def wrongE (x:Span):Int:=if !runeB x.1 || !runeB x.2 then 12 else if decide (x.2<x.1) then 11 else 0
theorem swrong_any (x:Span) (W:World):Calls Tryz.prog 139 #[.agg #[.int .i32 x.1,.int .i32 x.2]] W fun e w'=>e=.returned (.int .i64 (wrongE x))∧Below W.heap.size W w':=by
 have b:=Blk.new' W #[.int .i32 x.1,.int .i32 x.2] 137
 have hB:Below W.heap.size W (W.alloc (.cells #[.int .i32 x.1,.int .i32 x.2] 137)):=(Below.refl _ W).alloc (Nat.le_refl _) _
 have c0:=b.cell 0
 have c1:=b.cell 1
 simp only[List.getElem?_cons_zero,List.getElem?_cons_succ] at c0 c1
 have K0:=Lib.hid (fun W=>valid_any x.1 W)
 have K1:=Lib.hid (fun W=>valid_any x.2 W)
 have HE:Hid (wrongE x=if !runeB x.1 || !runeB x.2 then 12 else if decide (x.2<x.1) then 11 else 0):=Lib.hid rfl
 clear b
 generalize wrongE x=E at *
 cases h0:runeB x.1 with
 | false=>
  rw[h0] at K0
  have HE2:Hid (E=12):=Lib.hid (by rw[HE.out,h0];rfl)
  clear HE h0
  go_enter Tryz.func139,Tryz.ntmps139
  go_wp2_with fail
  (with_reducible refine Calls.mono (K0.out _) ?_)
  rintro e w' ⟨rfl,rfl⟩
  go_wp2_with fail
  go_ret
  exact⟨by rw[HE2.out];rfl,hB⟩
 | true=>
  rw[h0] at K0
  cases h1:runeB x.2 with
  | false=>
   rw[h1] at K1
   have HE2:Hid (E=12):=Lib.hid (by rw[HE.out,h0,h1];rfl)
   clear HE h0 h1
   go_enter Tryz.func139,Tryz.ntmps139
   go_wp2_with fail
   (with_reducible refine Calls.mono (K0.out _) ?_)
   rintro e w' ⟨rfl,rfl⟩
   go_wp2_with fail
   (with_reducible refine Calls.mono (K1.out _) ?_)
   rintro e w' ⟨rfl,rfl⟩
   go_wp2_with fail
   go_ret
   exact⟨by rw[HE2.out];rfl,hB⟩
  | true=>
   rw[h1] at K1
   cases h2:decide (x.2<x.1) with
   | true=>
    have HE2:Hid (E=11):=Lib.hid (by rw[HE.out,h0,h1,h2];rfl)
    clear HE h0 h1
    go_enter Tryz.func139,Tryz.ntmps139
    go_wp2_with fail
    (with_reducible refine Calls.mono (K0.out _) ?_)
    rintro e w' ⟨rfl,rfl⟩
    go_wp2_with fail
    (with_reducible refine Calls.mono (K1.out _) ?_)
    rintro e w' ⟨rfl,rfl⟩
    go_wp2_with fail
    go_ret
    exact⟨by rw[HE2.out];rfl,hB⟩
   | false=>
    have HE2:Hid (E=0):=Lib.hid (by rw[HE.out,h0,h1,h2];rfl)
    clear HE h0 h1
    go_enter Tryz.func139,Tryz.ntmps139
    go_wp2_with fail
    (with_reducible refine Calls.mono (K0.out _) ?_)
    rintro e w' ⟨rfl,rfl⟩
    go_wp2_with fail
    (with_reducible refine Calls.mono (K1.out _) ?_)
    rintro e w' ⟨rfl,rfl⟩
    go_wp2_with fail
    go_ret
    exact⟨by rw[HE2.out];rfl,hB⟩
theorem spanE_wrong {l:List Span}{i:Nat}(hi:i<l.length):spanE l i=if wrongE l[i]≠0 then wrongE l[i] else if 0<i∧l[i].1≤(l.getD (i - 1) (0,0)).2 then 13 else 0:=by
 unfold spanE wrongE
 rw[getD_at hi]
 cases runeB l[i].1 <;> cases runeB l[i].2 <;> by_cases c:l[i].2<l[i].1 <;> simp[c]
theorem WC.up {W0:World}(y:WC W0) (z:WC y.w):Below W0.heap.size W0 z.w:=y.h.trans (z.h.mono y.h.size)
set_option maxRecDepth 100000 in
set_option maxHeartbeats 4000000 in
theorem right_any (o:Option Addr) (c:Nat) (l:List Span) (W:World) (h:SpansAt W o l) (hm:l.length≤1048576):Calls Tryz.prog 101 #[.slice o l.length c] W fun e w'=>e=.returned (.tuple #[.int .i64 (spansE l).2,.int .i64 (spansE l).1])∧Below W.heap.size W w':=by
 have H:=Lib.hid h
 clear h
 have lm:(l.length:Int)≤1048576:=by omega
 go_enter Tryz.func101,Tryz.ntmps101
 go_wp2_with fail
 go_loopw [9] (fun v9 wr=>∃(i:Nat) (y:WC W),v9=.int .i64 i∧i≤l.length∧Hid (∀k,k<i→spanE l k=0)∧wr=y.w) (fun v9 _=>l.length - (intOf v9).toNat)
 case atStart=>exact⟨0,WC.of W,rfl,Nat.zero_le _,Lib.hid (fun k h=>absurd h (by omega)),rfl⟩
 case round=>
  obtain⟨i,y,rfl,hi,Hno,rfl⟩:=hrel
  have i0:(0:Int)≤(i:Int):=Int.natCast_nonneg _
  by_cases hlt:i<l.length
  ·have i1:(i:Int)<(l.length:Int):=by omega
   obtain⟨g,off,ho,hg,c0,c1⟩:=H.out i hlt
   subst ho
   have HP:Hid (0<i→W.cell? ⟨g,off+(i - 1)*2+1,none⟩=some (.int .i32 (l.getD (i - 1) (0,0)).2)):=Lib.hid fun h0=>by
    obtain⟨g',off',ho',_,_,d1⟩:=H.out (i - 1) (by omega)
    simp only[Option.some.injEq,Addr.mk.injEq,and_true] at ho'
    obtain⟨rfl,rfl⟩:=ho'
    rw[getD_at (by omega)];exact d1
   have HS:=Lib.hid (spanE_wrong hlt)
   have HY:=Lib.hid (fun e=>firstE_some (f:=spanE l) hlt Hno.out e)
   have HN:Hid (spanE l i=0→∀k,k<i+1→spanE l k=0):=Lib.hid (fun e k hki=>by
    by_cases q:k=i
    ·subst q;exact e
    ·exact Hno.out k (by omega))
   generalize l[i]=x at *
   have e0:=y.cell c0
   have e1:=y.cell c1
   go_upto_region 4 with fail
   have bX:=Blk.new' y.w #[.int .i32 x.1,.int .i32 x.2] 137
   have HV1:Hid (Below W.heap.size W (y.w.alloc (.cells #[.int .i32 x.1,.int .i32 x.2] 137))):=Lib.hid (y.h.alloc y.h.size _)
   obtain⟨V,hV⟩:∃V,y.w.alloc (.cells #[.int .i32 x.1,.int .i32 x.2] 137)=V:=⟨_,rfl⟩
   rw[hV] at bX HV1 ⊢
   clear hV e0 e1
   have x0:∀z:WC V,z.w.cell? ⟨y.w.heap.size,0,none⟩=some (.int .i32 x.1):=WC.cell (bX.cell 0)
   have x1:∀z:WC V,z.w.cell? ⟨y.w.heap.size,1,none⟩=some (.int .i32 x.2):=WC.cell (bX.cell 1)
   obtain⟨z,hz⟩:∃z:WC V,z.w=V:=⟨WC.of V,rfl⟩
   conv=>arg 5;rw[←hz]
   have HUp:Hid (∀z:WC V,Below W.heap.size W z.w):=Lib.hid (fun z=>HV1.out.trans (z.h.mono HV1.out.size))
   have K:Hid (∀z:WC V,Calls Tryz.prog 139 #[.agg #[.int .i32 x.1,.int .i32 x.2]] z.w fun e w'=>e=.returned (.int .i64 (wrongE x))∧∃u:WC V,w'=u.w):=Lib.hid (fun z=>WC.call (swrong_any x z.w))
   have HPx:Hid (0<i→∀z:WC V,z.w.cell? ⟨g,off+(i - 1)*2+1,none⟩=some (.int .i32 (l.getD (i - 1) (0,0)).2)):=Lib.hid (fun h z=>cell_bel (HUp.out z) (HP.out h))
   clear bX hz HP
   generalize wrongE x=E at *
   generalize (l.getD (i - 1) (0,0)).2=ph at *
   by_cases hE:E=0
   ·have d0:(E != 0)=false:=by simpa using hE
    by_cases hp:0<i
    ·have d1:decide ((0:Int)<(i:Int))=true:=by rw[decide_eq_true_iff];omega
     have d1n:decide (0<i)=true:=by rw[decide_eq_true_iff];exact hp
     have xp:=HPx.out hp
     have j0:(0:Int)≤(i:Int) - 1:=by omega
     have j1:(i:Int) - 1<(l.length:Int):=by omega
     have j2:((i:Int) - 1).toNat=i - 1:=by omega
     cases h3:decide (x.1≤ph) with
     | true=>
      have HE2:Hid (spanE l i=13):=Lib.hid (by rw[HS.out,if_neg (by omega),if_pos ⟨hp,of_decide_eq_true h3⟩])
      have HR:=Lib.hid (HY.out (by rw[HE2.out];decide))
      rw[HE2.out] at HR
      clear HS HY HN HE2 hE hp HPx
      go_wp2_with fail
      (with_reducible refine Calls.mono (K.out z) ?_)
      rintro e w' ⟨rfl,z1,rfl⟩
      go_wp2_with fail
      refine wp_region_wc (W0:=V) (by kernel_rfl) (by kernel_rfl) z1.h ?_
      repeat (first | go_big_quiet_step ((fail)) | quiet_step ((fail)))
      refine wpQuiet_nil ?_
      rintro _ ⟨z2,rfl⟩
      go_wp2_with fail
      refine bodyPost_ret (v:=.tuple #[.int .i64 i,.int .i64 13]) (by simp[results,Tryz.results101,go_sem]) rfl ?_
      exact⟨by unfold spansE;rw[HR.out],HUp.out z2⟩
     | false=>
      have HN2:=Lib.hid (HN.out (by rw[HS.out,if_neg (by omega),if_neg (fun q=>of_decide_eq_false h3 q.2)]))
      clear HS HY HN hE hp HPx
      go_wp2_with fail
      (with_reducible refine Calls.mono (K.out z) ?_)
      rintro e w' ⟨rfl,z1,rfl⟩
      go_wp2_with fail
      refine wp_region_wc (W0:=V) (by kernel_rfl) (by kernel_rfl) z1.h ?_
      repeat (first | go_big_quiet_step ((fail)) | quiet_step ((fail)))
      refine wpQuiet_nil ?_
      rintro _ ⟨z2,rfl⟩
      go_wp2_with fail
      exact⟨⟨i+1,⟨z2.w,HUp.out z2⟩,by go_num,by omega,HN2,by first | rfl | trivial⟩,by simp[intOf];omega⟩
    ·have d1:decide ((0:Int)<(i:Int))=false:=by rw[decide_eq_false_iff_not];omega
     have d1n:decide (0<i)=false:=by rw[decide_eq_false_iff_not];exact hp
     have HN2:=Lib.hid (HN.out (by rw[HS.out,if_neg (by omega),if_neg (fun q=>hp q.1)]))
     clear HS HY HN hE hp HPx
     go_wp2_with fail
     (with_reducible refine Calls.mono (K.out z) ?_)
     rintro e w' ⟨rfl,z1,rfl⟩
     go_wp2_with fail
     refine wp_region_wc (W0:=V) (by kernel_rfl) (by kernel_rfl) z1.h ?_
     repeat (first | go_big_quiet_step ((fail)) | quiet_step ((fail)))
     refine wpQuiet_nil ?_
     rintro _ ⟨z2,rfl⟩
     go_wp2_with fail
     exact⟨⟨i+1,⟨z2.w,HUp.out z2⟩,by go_num,by omega,HN2,by first | rfl | trivial⟩,by simp[intOf];omega⟩
   ·have d0:(E != 0)=true:=by simpa using hE
    have HE2:Hid (spanE l i=E):=Lib.hid (by rw[HS.out,if_pos hE])
    have HR:=Lib.hid (HY.out (by rw[HE2.out];exact hE))
    rw[HE2.out] at HR
    clear HS HY HN HE2 hE HPx
    go_wp2_with fail
    (with_reducible refine Calls.mono (K.out z) ?_)
    rintro e w' ⟨rfl,z1,rfl⟩
    go_wp2_with fail
    refine bodyPost_ret (v:=.tuple #[.int .i64 i,.int .i64 E]) (by simp[results,Tryz.results101,go_sem]) rfl ?_
    exact⟨by unfold spansE;rw[HR.out],HUp.out z1⟩
  ·obtain rfl:i=l.length:=by omega
   have HR2:=Lib.hid (firstE_none (f:=spanE l) Hno.out)
   clear hi hlt i0 Hno
   go_wp2_with fail
   refine bodyPost_ret (v:=.tuple #[.int .i64 0,.int .i64 0]) (by simp[results,Tryz.results101,go_sem]) rfl ?_
   exact⟨by unfold spansE;rw[HR2.out],y.h⟩
end Go.Proofs.YtioehfhdoohdmaaGreatDoor
namespace Go.Proofs.YtioehfhdoohdmaaGreatDoor
open Go.RowKit Go.Shelf
open Go.Maps (Keyed)
def I32 (r:Int):Prop:=-2147483648≤r∧r≤2147483647
theorem i32_of {r:Int}(h:runeB r=true):I32 r:=by have:=(runeB_iff r).1 h;unfold I32;omega
theorem wf_i32 {r:Int}(h:I32 r):(Lit.int .i32 r).wf=true:=by
 unfold I32 at h
 simp[Lit.wf,IntKind.min,IntKind.max,IntKind.signed,IntKind.bits];omega
theorem key_rune {r:Int}(h:I32 r):keyOf Tryz.prog 21 (.int .i32 r)=some (.int .i32 r):=by
 unfold keyOf
 rw[Tryz.underlying21]
 unfold mapKey
 rw[Tryz.underlying21]
 simp[wf_i32 h]
theorem key_text {s:ByteArray}(h:s.size≤maxLen):keyOf Tryz.prog 9 (.string s)=some (.string s.data.toList):=by
 unfold keyOf
 rw[Tryz.underlying9]
 unfold mapKey
 rw[Tryz.underlying9]
 simp[h]
theorem keyed_rune:Keyed Tryz.prog 21:=Maps.int_keyed Tryz.underlying21
theorem keyed_text:Keyed Tryz.prog 9:=Maps.string_keyed Tryz.underlying9
set_option maxRecDepth 100000 in
theorem laidOut_all:laidOutB Tryz.prog=true:=by kernel_rfl
theorem keyed_two:Keyed Tryz.prog 171:=Maps.Keyed.of_law (deep_law_laid laidOut_all (m:=2) (by omega) (of_decide_eq_true (by kernel_rfl)) (by kernel_rfl) (by kernel_rfl))
theorem cells_two:Tryz.prog.cellsOf 171=2:=by kernel_rfl
theorem cells_rune:Tryz.prog.cellsOf 21=1:=by kernel_rfl
theorem keyT_two:Tryz.prog.keyType 171=true:=by kernel_rfl
theorem key_two {a b:Int}(ha:I32 a) (hb:I32 b):∃l,keyOf Tryz.prog 171 (.agg #[.int .i32 a,.int .i32 b])=some l:=by
 unfold keyOf
 rw[Tryz.underlying171]
 have hf:(Value.agg #[.int .i32 a,.int .i32 b]).formed Tryz.prog 171=true:=by
  simp[Value.formed,Tryz.underlying171,cells_two]
 obtain⟨n,hn⟩:∃n,Tryz.prog.types.size=n+1:=⟨Tryz.prog.types.size - 1,by have:0 < Tryz.prog.types.size:=of_decide_eq_true (by kernel_rfl);omega⟩
 simp only[keyT_two,hf,Bool.and_self,if_true]
 rw[hn]
 unfold Program.keyLits
 rw[Tryz.underlying171]
 simp only[cells_two,cells_rune]
 unfold Program.keyLits
 simp[Value.cells,Tryz.underlying21,wf_i32 ha,wf_i32 hb,List.range_succ,List.mapM_cons,List.mapM_nil]
end Go.Proofs.YtioehfhdoohdmaaGreatDoor
namespace Go.Proofs.YtioehfhdoohdmaaGreatDoor
open Go.RowKit Go.Shelf BigFrame
theorem dec_big {s:ByteArray}{i:Nat}(h:128≤B s i):128≤(Utf8.decode s i).1:=by
 rcases hc_of s i with ⟨a,b⟩ | ⟨a,b,d⟩ | ⟨a,b,d⟩ | ⟨a,b,d⟩ | ⟨a,b,d,e,f⟩
 ·omega
 ·have q:=lead2 b;rw[d];dsimp only;omega
 ·have q:=lead3 b;rw[d];dsimp only;rcases q.2.2 with z | z | z <;> omega
 ·have q:=lead4 b;rw[d];dsimp only;rcases q.2.2.2.2 with z | z | z <;> omega
 ·rw[f];decide
theorem full_of {s:ByteArray}(h:1≤s.size):s.toList.isEmpty=false:=by
 rw[ByteArray.toList_eq]
 obtain⟨⟨l⟩⟩:=s
 cases l with
 | nil=>simp[ByteArray.size] at h
 | cons a t=>rfl
theorem empty_of {s:ByteArray}(h:¬ 1≤s.size):s=ByteArray.empty:=by
 obtain⟨⟨l⟩⟩:=s
 cases l with
 | nil=>rfl
 | cons a t=>simp[ByteArray.size] at h
set_option maxRecDepth 100000 in
set_option maxHeartbeats 4000000 in
theorem tname_any (s:ByteArray) (W:World) (hs:s.size≤1048576):Calls Tryz.prog 100 #[.string s] W fun e w'=>e=.returned (.bool (snameB s))∧Below W.heap.size W w':=by
 obtain⟨P,hP⟩:∃P,snameB s=P:=⟨_,rfl⟩
 rw[hP]
 have HP:=Lib.hid hP
 clear hP
 go_enter Tryz.func100,Tryz.ntmps100
 go_wp2_with fail
 have hi0:Itr (W.iter s 0) W.heap.size s 0:=Itr.new W s 0
 have hk0:Keep (fun _=>False) W (W.iter s 0):=(Keep.refl _ W).iter _ _
 generalize W.iter s 0=W0 at *
 go_loopg [] s.size (fun f wr=>∃i:Nat,i≤s.size∧s.size - i≤f∧Hid (∀k,k<i→snameC (B s k) k=true)∧Itr wr W.heap.size s i∧Keep (fun _=>False) W wr)
 case atStart=>exact⟨0,Nat.zero_le _,by omega,Lib.hid (fun k h=>absurd h (by omega)),hi0,hk0⟩
 case round=>
  obtain⟨i,hi,hf,Hno,hi1,hk1⟩:=hrel
  by_cases hlt:i<s.size
  ·have hn:=fun ty=>Lib.run_next_any_at (P:=Tryz.prog) wr _ _ _ ty hi1 hlt
   have HF:=Lib.hid (fun e=>sname_false hlt e)
   have HN:Hid (snameC (B s i) i=true→∀k,k<i+1→snameC (B s k) k=true):=Lib.hid (fun e k hki=>by
    by_cases q:k=i
    ·subst q;exact e
    ·exact Hno.out k (by omega))
   have i0:(0:Int)≤(i:Int):=Int.natCast_nonneg _
   have i9:(i:Int)≤1048576:=by omega
   by_cases hb:B s i<128
   ·have hd:=dec_ascii hb
    rw[hd] at hn
    obtain⟨R,hRB⟩:∃R,B s i=R:=⟨_,rfl⟩
    rw[hRB] at hb hn
    clear hd
    have HRB:=Lib.hid hRB
    clear hRB
    by_cases k1:R<97
    ·have d1:decide ((R:Int)<97)=true:=by rw[decide_eq_true_iff];omega
     by_cases k3:i=0
     ·have d3:((i:Int) == 0)=true:=by rw[beq_iff_eq];omega
      have HR:=Lib.hid ((HF.out (by rw[HRB.out];have:=k3;simp[snameC,smallB,digitB];omega)).symm.trans HP.out)
      clear HF HN Hno HP
      go_wp2_with fail
      go_ret
      exact⟨by rw[←HR.out];rfl,(hk1.iterAt (by omega) _ _).below fun k hk=>⟨hk,fun h=>h⟩⟩
     ·have d3:((i:Int) == 0)=false:=by rw[beq_eq_false_iff_ne];omega
      by_cases k4:R=45
      ·have d4:((R:Int) != 45)=false:=by rw[bne_eq_false_iff_eq];omega
       have HN2:=Lib.hid (HN.out (by rw[HRB.out];simp[snameC,k4];omega))
       clear HF HN Hno
       go_wp2_with fail
       go_roundg (s.size - (i+1))
       case measure=>omega
       exact⟨i+1,by omega,by omega,HN2,hi1.at _,hk1.iterAt (by omega) _ _⟩
      ·have d4:((R:Int) != 45)=true:=by rw[bne_iff_ne];omega
       by_cases k5:R<48
       ·have d5:decide ((R:Int)<48)=true:=by rw[decide_eq_true_iff];omega
        have HR:=Lib.hid ((HF.out (by rw[HRB.out];have:=k3;simp[snameC,smallB,digitB];omega)).symm.trans HP.out)
        clear HF HN Hno HP
        go_wp2_with fail
        go_ret
        exact⟨by rw[←HR.out];rfl,(hk1.iterAt (by omega) _ _).below fun k hk=>⟨hk,fun h=>h⟩⟩
       ·have d5:decide ((R:Int)<48)=false:=by rw[decide_eq_false_iff_not];omega
        by_cases k6:57<R
        ·have d6:decide (57<(R:Int))=true:=by rw[decide_eq_true_iff];omega
         have HR:=Lib.hid ((HF.out (by rw[HRB.out];have:=k3;simp[snameC,smallB,digitB];omega)).symm.trans HP.out)
         clear HF HN Hno HP
         go_wp2_with fail
         go_ret
         exact⟨by rw[←HR.out];rfl,(hk1.iterAt (by omega) _ _).below fun k hk=>⟨hk,fun h=>h⟩⟩
        ·have d6:decide (57<(R:Int))=false:=by rw[decide_eq_false_iff_not];omega
         have HN2:=Lib.hid (HN.out (by rw[HRB.out];simp[snameC,smallB,digitB];omega))
         clear HF HN Hno
         go_wp2_with fail
         go_roundg (s.size - (i+1))
         case measure=>omega
         exact⟨i+1,by omega,by omega,HN2,hi1.at _,hk1.iterAt (by omega) _ _⟩
    ·have d1:decide ((R:Int)<97)=false:=by rw[decide_eq_false_iff_not];omega
     by_cases k2:122<R
     ·have d2:decide (122<(R:Int))=true:=by rw[decide_eq_true_iff];omega
      by_cases k3:i=0
      ·have d3:((i:Int) == 0)=true:=by rw[beq_iff_eq];omega
       have HR:=Lib.hid ((HF.out (by rw[HRB.out];have:=k3;simp[snameC,smallB,digitB];omega)).symm.trans HP.out)
       clear HF HN Hno HP
       go_wp2_with fail
       go_ret
       exact⟨by rw[←HR.out];rfl,(hk1.iterAt (by omega) _ _).below fun k hk=>⟨hk,fun h=>h⟩⟩
      ·have d3:((i:Int) == 0)=false:=by rw[beq_eq_false_iff_ne];omega
       have d4:((R:Int) != 45)=true:=by rw[bne_iff_ne];omega
       have d5:decide ((R:Int)<48)=false:=by rw[decide_eq_false_iff_not];omega
       have d6:decide (57<(R:Int))=true:=by rw[decide_eq_true_iff];omega
       have HR:=Lib.hid ((HF.out (by rw[HRB.out];have:=k3;simp[snameC,smallB,digitB];omega)).symm.trans HP.out)
       clear HF HN Hno HP
       go_wp2_with fail
       go_ret
       exact⟨by rw[←HR.out];rfl,(hk1.iterAt (by omega) _ _).below fun k hk=>⟨hk,fun h=>h⟩⟩
     ·have d2:decide (122<(R:Int))=false:=by rw[decide_eq_false_iff_not];omega
      have HN2:=Lib.hid (HN.out (by rw[HRB.out];simp[snameC,smallB];omega))
      clear HF HN Hno
      go_wp2_with fail
      go_roundg (s.size - (i+1))
      case measure=>omega
      exact⟨i+1,by omega,by omega,HN2,hi1.at _,hk1.iterAt (by omega) _ _⟩
   ·have hd:=dec_big (s:=s) (i:=i) (by omega)
    have hw:=dec_width s i
    generalize (Utf8.decode s i).1=R at *
    generalize (Utf8.decode s i).2=K at *
    have hrb:(R:Int) ≥ 128:=by omega
    have d1:decide ((R:Int)<97)=false:=by rw[decide_eq_false_iff_not];omega
    have d2:decide (122<(R:Int))=true:=by rw[decide_eq_true_iff];omega
    by_cases k3:i=0
    ·have d3:((i:Int) == 0)=true:=by rw[beq_iff_eq];omega
     have HR:=Lib.hid ((HF.out (by have:=k3;simp[snameC,smallB,digitB];omega)).symm.trans HP.out)
     clear HF HN Hno HP
     go_wp2_with fail
     go_ret
     exact⟨by rw[←HR.out];rfl,(hk1.iterAt (by omega) _ _).below fun k hk=>⟨hk,fun h=>h⟩⟩
    ·have d3:((i:Int) == 0)=false:=by rw[beq_eq_false_iff_ne];omega
     have d4:((R:Int) != 45)=true:=by rw[bne_iff_ne];omega
     have d5:decide ((R:Int)<48)=false:=by rw[decide_eq_false_iff_not];omega
     have d6:decide (57<(R:Int))=true:=by rw[decide_eq_true_iff];omega
     have HR:=Lib.hid ((HF.out (by have:=k3;simp[snameC,smallB,digitB];omega)).symm.trans HP.out)
     clear HF HN Hno HP
     go_wp2_with fail
     go_ret
     exact⟨by rw[←HR.out];rfl,(hk1.iterAt (by omega) _ _).below fun k hk=>⟨hk,fun h=>h⟩⟩
  ·obtain rfl:i=s.size:=by omega
   have hn:=fun ty=>Lib.run_next_end_at (P:=Tryz.prog) wr _ _ _ ty hi1 (Nat.lt_irrefl _)
   have HE:=Lib.hid ((sname_end Hno.out).symm.trans HP.out)
   clear HP Hno hi hlt
   by_cases k1:1≤s.size
   ·have hne:=full_of k1
    have hne2:¬ s.toList=[]:=by intro e;rw[e] at hne;cases hne
    by_cases k2:s.size≤32
    ·have d2:decide ((s.size:Int)≤32)=true:=by rw[decide_eq_true_iff];omega
     have HE2:Hid (P=true):=Lib.hid (by rw[←HE.out];simp[k1,k2])
     clear HE k1 k2
     go_wp2_with fail
     go_ret
     exact⟨by rw[HE2.out];rfl,hk1.below fun k hk=>⟨hk,fun h=>h⟩⟩
    ·have d2:decide ((s.size:Int)≤32)=false:=by rw[decide_eq_false_iff_not];omega
     have HE2:Hid (P=false):=Lib.hid (by rw[←HE.out];simp[k1,k2])
     clear HE k1 k2
     go_wp2_with fail
     go_ret
     exact⟨by rw[HE2.out];rfl,hk1.below fun k hk=>⟨hk,fun h=>h⟩⟩
   ·have hz:=empty_of k1
    have HE2:Hid (P=false):=Lib.hid (by rw[←HE.out];simp[k1])
    clear HE k1
    subst hz
    go_wp2_with fail
    go_ret
    exact⟨by rw[HE2.out];rfl,hk1.below fun k hk=>⟨hk,fun h=>h⟩⟩
end Go.Proofs.YtioehfhdoohdmaaGreatDoor
namespace Go.Proofs.YtioehfhdoohdmaaGreatDoor
open Go.RowKit Go.Shelf
theorem bad_fffd {s:ByteArray}{i:Nat}(e:goodAt s i=false):(Utf8.decode s i).1=65533:=by
 have h:=false_iff_of e good_iff
 rcases hc_of s i with ⟨a,b⟩ | ⟨a,b,d⟩ | ⟨a,b,d⟩ | ⟨a,b,d⟩ | ⟨a,b,d,e,f⟩
 ·omega
 ·rw[d] at h;dsimp only at h;omega
 ·rw[d] at h;dsimp only at h;omega
 ·rw[d] at h;dsimp only at h;omega
 ·rw[f]
theorem bad_iff {s:ByteArray}{i:Nat}(h:i<s.size):((Utf8.decode s i).1=65533∧(Utf8.decode s i).2=1)↔goodAt s i=false:=by
 constructor
 ·rintro⟨h1,h2⟩
  cases e:goodAt s i with
  | false=>rfl
  | true=>
   rcases good_or.1 e with q | q
   ·exact absurd h2 q
   ·rw[dec_ascii q] at h1;dsimp only at h1;omega
 ·intro e
  exact⟨bad_fffd e,by have:=false_iff_of e good_iff;omega⟩
theorem valid_go {s:ByteArray}:∀(n i:Nat) (acc:List Int),s.size - i≤n→i≤s.size→Lib.validGoD n (s.data.toList.drop i)=(rsGo s n i acc).isSome:=by
 intro n
 induction n with
 | zero=>intro i acc _ _;rfl
 | succ n ih=>
  intro i acc h hi
  have hl:s.data.toList.length=s.size:=by rw[Array.length_toList];rfl
  unfold Lib.validGoD
  by_cases hlt:i<s.size
  ·have hne:s.data.toList.drop i≠[]:=by
    intro e
    have:=congrArg List.length e
    rw[List.length_drop,hl] at this
    simp at this;omega
   rw[if_neg hne,Lib.decodeL_drop,List.drop_drop,rsGo,if_pos hlt]
   by_cases hb:(Utf8.decode s i).1=65533∧(Utf8.decode s i).2=1
   ·rw[if_pos hb,if_neg (by rw[(bad_iff hlt).1 hb];decide)];rfl
   ·have hg:goodAt s i=true:=by
     cases e:goodAt s i with
     | true=>rfl
     | false=>exact absurd ((bad_iff hlt).2 e) hb
    have hw:=dec_width s i
    have hf:=dec_fits hlt
    rw[if_neg hb,if_pos hg,←ih (i+(Utf8.decode s i).2) (acc++[((Utf8.decode s i).1:Int)]) (by omega) (by omega)]
  ·have he:s.data.toList.drop i=[]:=List.drop_eq_nil_of_le (by omega)
   rw[if_pos he,rsGo_end (by omega)];rfl
theorem valid_runes (s:ByteArray):Lib.validD s.data.toList=(runesO s).isSome:=by
 have:=valid_go (s:=s) s.size 0 [] (by omega) (by omega)
 unfold Lib.validD runesO
 rw[←this,List.drop_zero]
 congr 1
theorem count_go {s:ByteArray}:∀(n i:Nat) (acc l:List Int),rsGo s n i acc=some l→l.length=acc.length+Lib.runeCountFrom s n i:=by
 intro n
 induction n with
 | zero=>
  intro i acc l h
  rw[rsGo] at h
  cases h;rfl
 | succ n ih=>
  intro i acc l h
  unfold Lib.runeCountFrom
  rw[rsGo] at h
  split at h
  ·rename_i hlt
   rw[if_pos hlt]
   split at h
   ·have:=ih _ _ _ h
    rw[List.length_append,List.length_singleton] at this
    omega
   ·cases h
  ·rename_i hlt
   rw[if_neg hlt]
   cases h;rfl
theorem count_runes {s:ByteArray}{l:List Int}(h:runesO s=some l):Lib.runeCount s=l.length:=by
 have:=count_go s.size 0 [] l h
 unfold Lib.runeCount
 rw[this];simp
theorem vstr_any (s:ByteArray) (W:World) (hs:s.size≤1048576) (hz:Lib.Utf8Tabs 0 1 W):Calls Tryz.prog 104 #[.string s] W fun e w'=>e=.returned (.bool (runesO s).isSome)∧Below W.heap.size W w':=by
 rw[←valid_runes]
 exact Any.utf8_ValidString Tryz.laysValid s W (by omega) hz
theorem rcnt_any (s:ByteArray) (W:World) (hs:s.size≤1048576):Calls Tryz.prog 103 #[.string s] W fun e w'=>e=.returned (.int .i64 (Lib.runeCount s))∧Below W.heap.size W w':=
 (Tryz.utf8_RuneCountInString s W (by omega)).mono fun e w' hh=>⟨hh.1,by
  obtain⟨pos,rfl⟩:=hh.2
  exact (Below.refl _ W).alloc (Nat.le_refl _) _⟩
theorem tabs_below {W W':World}(h:Lib.Utf8Tabs 0 1 W) (hB:Below W.heap.size W W'):Lib.Utf8Tabs 0 1 W':=Utf8Tabs_below h hB
end Go.Proofs.YtioehfhdoohdmaaGreatDoor
