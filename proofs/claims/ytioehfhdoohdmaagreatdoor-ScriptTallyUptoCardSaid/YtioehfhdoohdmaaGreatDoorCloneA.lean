/- CloneA: Clone, TabNew. -/
import Derived.Test.YtioehfhdoohdmaaGreatDoorTabA
import Derived.Test.YtioehfhdoohdmaaGreatDoorOfA
import Derived.Lib.SliceRun
import Derived.Deep.Upon
import Derived.Deep.AppendSrc
set_option linter.unusedVariables false
set_option linter.unusedSimpArgs false
namespace Go.Proofs.YtioehfhdoohdmaaGreatDoor
open Go.RowKit Go.Shelf BigFrame
def Rd (W:World) (o:Option Addr) (xs:List Value):Prop:=∀j u,xs[j]?=some u→∃g off,o=some ⟨g,off,none⟩∧W.cell? ⟨g,off+j,none⟩=some u
theorem Rd.below {W W':World}{o:Option Addr}{xs:List Value}(h:Rd W o xs) (hB:Below W.heap.size W W'):Rd W' o xs:=fun j u hj=>by
 obtain⟨g,off,e,hc⟩:=h j u hj
 exact⟨g,off,e,cell_bel hB hc⟩
def Copy (W:World) (n:Nat) (xs:List Value) (v:Value) (w':World):Prop:=∃(o:Option Addr) (c:Nat),v=.slice o n c∧n≤c∧c≤maxLen∧Rd w' o xs∧(∀a,o=some a→W.heap.size≤a.block∧a.block<w'.heap.size∧a.off=0∧a.spot=none∧∀j,w'.frozen? ⟨a.block,j,none⟩=false)
theorem add_at (g off j:Nat):(⟨g,off,none⟩:Addr).add j=⟨g,off+j,none⟩:=by unfold Addr.add;split <;> simp_all
theorem own_empty (W:World) (e:TypeId) (size base:Nat) (hb:base≤W.heap.size):(W.alloc (.cells #[] e)).ownsRow base e size (.slice (some ⟨W.heap.size,0,none⟩) 0 0) 0 []:=
 ⟨by simp,Or.inr ⟨W.heap.size,0,#[],rfl,hb,by show (W.heap.push _)[W.heap.size]?=_;simp,Nat.le_refl _,Nat.zero_le _,by simp,by simp⟩⟩
theorem copy_of_own {W w':World}{e:TypeId}{size n:Nat}{v:Value}{xs:List Value}(h:w'.ownsRow W.heap.size e size v n xs):Copy W n xs v w':=by
 obtain⟨hl,h⟩:=h
 rcases h with ⟨rfl,rfl⟩ | ⟨g,cap,cur,rfl,hb,hg,h1,h2,h3,h4⟩
 ·have:xs=[]:=List.eq_nil_of_length_eq_zero (by omega)
  subst this
  exact⟨none,0,rfl,Nat.le_refl _,Nat.zero_le _,(fun j u hj=>by simp at hj),(fun a e=>by cases e)⟩
 ·refine⟨some ⟨g,0,none⟩,cap,rfl,h1,h2,fun j u hj=>⟨g,0,rfl,?_⟩,fun a e=>by cases e;exact⟨hb,lt_of_block hg,rfl,rfl,fun j=>by simp[World.frozen?,hg]⟩⟩
  have hj2:cur.toList[j]?=some u:=by
   rw[←h4] at hj
   have hlt:j<n*size:=by
    rcases Nat.lt_or_ge j (n*size) with q | q
    ·exact q
    ·rw[List.getElem?_eq_none (by rw[List.length_take];omega)] at hj;cases hj
   rwa [List.getElem?_take_of_lt hlt] at hj
  simp only[World.cell?,hg,Nat.zero_add]
  simpa using hj2
theorem info_Script:(Tryz.prog.info? 128).map (fun i=>(i.zero,i.size,i.bytes))=some (some (.agg #[.string ByteArray.empty,.slice none 0 0]),2,40):=by kernel_rfl
set_option maxRecDepth 100000 in
set_option maxHeartbeats 4000000 in
theorem cloneScript_any (o:Option Addr) (n c:Nat) (xs:List Value) (W:World) (hr:Rd W o xs) (hl:xs.length=n*2) (h1:∀u∈xs,u.oneCell'=true) (hn:n≤1048576) (h0:o=none→n=0):Calls Tryz.prog 113 #[.slice o n c] W fun e w'=>∃v,e=.returned v∧Copy W n xs v w'∧Below W.heap.size W w':=by
 have qT:∀(w:World) (a:Option Addr) (n c n' c':Nat),(binOp .eql 22 (.slice a n c) (.slice none n' c')).run Tryz.prog w=.ok (.bool a.isNone) w:=fun w a n c n' c'=>Lib.run_eql_slice_nil w _ _ a n c n' c' Tryz.underlying22
 cases o with
 | none=>
  obtain rfl:=h0 rfl
  have hx:xs=[]:=List.eq_nil_of_length_eq_zero (by omega)
  subst hx
  have hC:Copy W 0 [] (.slice none 0 0) W:=⟨none,0,rfl,Nat.le_refl _,Nat.zero_le _,(fun j u hj=>by simp at hj),(fun a e=>by cases e)⟩
  have HC:=Lib.hid hC
  clear hr hl h1 hC h0
  go_enter Tryz.func113,Tryz.ntmps113
  go_wp2_with fail
  go_ret
  exact⟨_,rfl,HC.out,Below.refl _ _⟩
 | some ad=>
  by_cases hz:n=0
  ·subst hz
   have hx:xs=[]:=List.eq_nil_of_length_eq_zero (by omega)
   subst hx
   have hC:Copy W 0 [] (.slice (some ⟨W.heap.size,0,none⟩) 0 0) (W.alloc (.cells #[] 128)):=copy_of_own (own_empty W 128 2 W.heap.size (Nat.le_refl _))
   have HC:=Lib.hid hC
   have HB:Hid (Below W.heap.size W (W.alloc (.cells #[] 128))):=Lib.hid ((Below.refl _ W).alloc (Nat.le_refl _) _)
   obtain⟨i0,hi,hz0,hz1,hz2⟩:=info_parts info_Script
   have hrun:∀w,(Builtin.append_ #[22,22] 22 #[.slice (some ⟨W.heap.size,0,none⟩) 0 0,.slice (some ad) 0 c]).run Tryz.prog w=.ok (.slice (some ⟨W.heap.size,0,none⟩) 0 0) w:=fun w=>run_append_nothing (P:=Tryz.prog) w _ _ _ _ i0 Tryz.underlying22 hi _ 0 0 (Nat.le_refl _) _ (Src.ofSlice _ Tryz.underlying22 _ 0 c [] (by simp) (fun j u hu=>by simp at hu) (by simp))
   clear hr hl h1 hC h0 hi hz0 hz1 hz2
   go_enter Tryz.func113,Tryz.ntmps113
   go_wp2_with fail
   go_ret
   exact⟨_,rfl,HC.out,HB.out⟩
  ·obtain⟨u0,hu0⟩:∃u,xs[0]?=some u:=⟨_,List.getElem?_eq_getElem (by omega)⟩
   obtain⟨g,off,ho,hg0⟩:=hr 0 u0 hu0
   obtain rfl:=Option.some.inj ho
   have hnews:∀(W':World),Below W.heap.size W W'→∀j u,xs[j]?=some u→W'.cell? ((⟨g,off,none⟩:Addr).add j)=some u:=fun W' hB j u hj=>by
    obtain⟨g2,off2,e2,hc⟩:=hr j u hj
    simp only[Option.some.injEq,Addr.mk.injEq,and_true] at e2
    obtain⟨rfl,rfl⟩:=e2
    rw[add_at];exact cell_bel hB hc
   have HN:=Lib.hid hnews
   have HL:=Lib.hid hl
   have H1:=Lib.hid h1
   have hpos:0<n:=Nat.pos_of_ne_zero hz
   clear hnews hr hl h1 h0 hu0 hg0 hz
   obtain⟨i0,hi,hz0,hz1,hz2⟩:=info_parts info_Script
   have hB1:Below W.heap.size W (W.alloc (.cells #[] 128)):=(Below.refl _ W).alloc (Nat.le_refl _) _
   have hown:(W.alloc (.cells #[] 128)).ownsRow W.heap.size 128 2 (.slice (some ⟨W.heap.size,0,none⟩) 0 0) 0 []:=own_empty W 128 2 W.heap.size (Nat.le_refl _)
   go_enter Tryz.func113,Tryz.ntmps113
   go_wp2_with (at_builtin;refine wpList_append_own _ rfl _ _ 22 rfl W.heap.size 128 i0 _ 2 40 Tryz.underlying22 hi hz0 hz1 hz2 rfl (by decide) _ 0 [] rfl hown ⟨g,off,none⟩ n c xs rfl HL.out (HN.out _ hB1) H1.out (by unfold maxLen;omega) (by omega) (by simp) ?_;intro v' w4 hown' hgrow _)
   rw[Nat.zero_add,List.nil_append] at hown'
   have hB5:=hB1.grown hgrow (by simp) (fun k e=>by have:=(hown.lt k e).1;omega)
   try go_wp2_with fail
   go_ret
   exact⟨_,rfl,copy_of_own hown',hB5⟩
set_option maxRecDepth 100000 in
set_option maxHeartbeats 4000000 in
theorem clipScript2_any (o:Option Addr) (n c:Nat) (W:World) (hc:n≤c) (hm:c≤maxLen):Calls Tryz.prog 112 #[.slice o n c] W fun e w'=>e=.returned (.slice o n n)∧W=w':=by
 have hnm:n≤maxLen:=Nat.le_trans hc hm
 unfold maxLen at hm hnm
 have n0:(0:Int)≤(n:Int):=Int.natCast_nonneg _
 have n1:(n:Int)≤(c:Int):=by omega
 go_enter Tryz.func112,Tryz.ntmps112
 go_wp2_with fail
 go_ret
 exact⟨rfl,rfl⟩
theorem info_Span:(Tryz.prog.info? 137).map (fun i=>(i.zero,i.size,i.bytes))=some (some (.agg #[.int .i32 0,.int .i32 0]),2,8):=by kernel_rfl
set_option maxRecDepth 100000 in
set_option maxHeartbeats 4000000 in
theorem cloneSpan_any (o:Option Addr) (n c:Nat) (xs:List Value) (W:World) (hr:Rd W o xs) (hl:xs.length=n*2) (h1:∀u∈xs,u.oneCell'=true) (hn:n≤1048576) (h0:o=none→n=0):Calls Tryz.prog 115 #[.slice o n c] W fun e w'=>∃v,e=.returned v∧Copy W n xs v w'∧Below W.heap.size W w':=by
 have qT:∀(w:World) (a:Option Addr) (n c n' c':Nat),(binOp .eql 23 (.slice a n c) (.slice none n' c')).run Tryz.prog w=.ok (.bool a.isNone) w:=fun w a n c n' c'=>Lib.run_eql_slice_nil w _ _ a n c n' c' Tryz.underlying23
 cases o with
 | none=>
  obtain rfl:=h0 rfl
  have hx:xs=[]:=List.eq_nil_of_length_eq_zero (by omega)
  subst hx
  have hC:Copy W 0 [] (.slice none 0 0) W:=⟨none,0,rfl,Nat.le_refl _,Nat.zero_le _,(fun j u hj=>by simp at hj),(fun a e=>by cases e)⟩
  have HC:=Lib.hid hC
  clear hr hl h1 hC h0
  go_enter Tryz.func115,Tryz.ntmps115
  go_wp2_with fail
  go_ret
  exact⟨_,rfl,HC.out,Below.refl _ _⟩
 | some ad=>
  by_cases hz:n=0
  ·subst hz
   have hx:xs=[]:=List.eq_nil_of_length_eq_zero (by omega)
   subst hx
   have hC:Copy W 0 [] (.slice (some ⟨W.heap.size,0,none⟩) 0 0) (W.alloc (.cells #[] 137)):=copy_of_own (own_empty W 137 2 W.heap.size (Nat.le_refl _))
   have HC:=Lib.hid hC
   have HB:Hid (Below W.heap.size W (W.alloc (.cells #[] 137))):=Lib.hid ((Below.refl _ W).alloc (Nat.le_refl _) _)
   obtain⟨i0,hi,hz0,hz1,hz2⟩:=info_parts info_Span
   have hrun:∀w,(Builtin.append_ #[23,23] 23 #[.slice (some ⟨W.heap.size,0,none⟩) 0 0,.slice (some ad) 0 c]).run Tryz.prog w=.ok (.slice (some ⟨W.heap.size,0,none⟩) 0 0) w:=fun w=>run_append_nothing (P:=Tryz.prog) w _ _ _ _ i0 Tryz.underlying23 hi _ 0 0 (Nat.le_refl _) _ (Src.ofSlice _ Tryz.underlying23 _ 0 c [] (by simp) (fun j u hu=>by simp at hu) (by simp))
   clear hr hl h1 hC h0 hi hz0 hz1 hz2
   go_enter Tryz.func115,Tryz.ntmps115
   go_wp2_with fail
   go_ret
   exact⟨_,rfl,HC.out,HB.out⟩
  ·obtain⟨u0,hu0⟩:∃u,xs[0]?=some u:=⟨_,List.getElem?_eq_getElem (by omega)⟩
   obtain⟨g,off,ho,hg0⟩:=hr 0 u0 hu0
   obtain rfl:=Option.some.inj ho
   have hnews:∀(W':World),Below W.heap.size W W'→∀j u,xs[j]?=some u→W'.cell? ((⟨g,off,none⟩:Addr).add j)=some u:=fun W' hB j u hj=>by
    obtain⟨g2,off2,e2,hc⟩:=hr j u hj
    simp only[Option.some.injEq,Addr.mk.injEq,and_true] at e2
    obtain⟨rfl,rfl⟩:=e2
    rw[add_at];exact cell_bel hB hc
   have HN:=Lib.hid hnews
   have HL:=Lib.hid hl
   have H1:=Lib.hid h1
   have hpos:0<n:=Nat.pos_of_ne_zero hz
   clear hnews hr hl h1 h0 hu0 hg0 hz
   obtain⟨i0,hi,hz0,hz1,hz2⟩:=info_parts info_Span
   have hB1:Below W.heap.size W (W.alloc (.cells #[] 137)):=(Below.refl _ W).alloc (Nat.le_refl _) _
   have hown:(W.alloc (.cells #[] 137)).ownsRow W.heap.size 137 2 (.slice (some ⟨W.heap.size,0,none⟩) 0 0) 0 []:=own_empty W 137 2 W.heap.size (Nat.le_refl _)
   go_enter Tryz.func115,Tryz.ntmps115
   go_wp2_with (at_builtin;refine wpList_append_own _ rfl _ _ 23 rfl W.heap.size 137 i0 _ 2 8 Tryz.underlying23 hi hz0 hz1 hz2 rfl (by decide) _ 0 [] rfl hown ⟨g,off,none⟩ n c xs rfl HL.out (HN.out _ hB1) H1.out (by unfold maxLen;omega) (by omega) (by simp) ?_;intro v' w4 hown' hgrow _)
   rw[Nat.zero_add,List.nil_append] at hown'
   have hB5:=hB1.grown hgrow (by simp) (fun k e=>by have:=(hown.lt k e).1;omega)
   try go_wp2_with fail
   go_ret
   exact⟨_,rfl,copy_of_own hown',hB5⟩
set_option maxRecDepth 100000 in
set_option maxHeartbeats 4000000 in
theorem clipSpan2_any (o:Option Addr) (n c:Nat) (W:World) (hc:n≤c) (hm:c≤maxLen):Calls Tryz.prog 114 #[.slice o n c] W fun e w'=>e=.returned (.slice o n n)∧W=w':=by
 have hnm:n≤maxLen:=Nat.le_trans hc hm
 unfold maxLen at hm hnm
 have n0:(0:Int)≤(n:Int):=Int.natCast_nonneg _
 have n1:(n:Int)≤(c:Int):=by omega
 go_enter Tryz.func114,Tryz.ntmps114
 go_wp2_with fail
 go_ret
 exact⟨rfl,rfl⟩
theorem info_Mark:(Tryz.prog.info? 139).map (fun i=>(i.zero,i.size,i.bytes))=some (some (.agg #[.int .i32 0,.int .i64 0]),2,16):=by kernel_rfl
set_option maxRecDepth 100000 in
set_option maxHeartbeats 4000000 in
theorem cloneMark_any (o:Option Addr) (n c:Nat) (xs:List Value) (W:World) (hr:Rd W o xs) (hl:xs.length=n*2) (h1:∀u∈xs,u.oneCell'=true) (hn:n≤1048576) (h0:o=none→n=0):Calls Tryz.prog 117 #[.slice o n c] W fun e w'=>∃v,e=.returned v∧Copy W n xs v w'∧Below W.heap.size W w':=by
 have qT:∀(w:World) (a:Option Addr) (n c n' c':Nat),(binOp .eql 24 (.slice a n c) (.slice none n' c')).run Tryz.prog w=.ok (.bool a.isNone) w:=fun w a n c n' c'=>Lib.run_eql_slice_nil w _ _ a n c n' c' Tryz.underlying24
 cases o with
 | none=>
  obtain rfl:=h0 rfl
  have hx:xs=[]:=List.eq_nil_of_length_eq_zero (by omega)
  subst hx
  have hC:Copy W 0 [] (.slice none 0 0) W:=⟨none,0,rfl,Nat.le_refl _,Nat.zero_le _,(fun j u hj=>by simp at hj),(fun a e=>by cases e)⟩
  have HC:=Lib.hid hC
  clear hr hl h1 hC h0
  go_enter Tryz.func117,Tryz.ntmps117
  go_wp2_with fail
  go_ret
  exact⟨_,rfl,HC.out,Below.refl _ _⟩
 | some ad=>
  by_cases hz:n=0
  ·subst hz
   have hx:xs=[]:=List.eq_nil_of_length_eq_zero (by omega)
   subst hx
   have hC:Copy W 0 [] (.slice (some ⟨W.heap.size,0,none⟩) 0 0) (W.alloc (.cells #[] 139)):=copy_of_own (own_empty W 139 2 W.heap.size (Nat.le_refl _))
   have HC:=Lib.hid hC
   have HB:Hid (Below W.heap.size W (W.alloc (.cells #[] 139))):=Lib.hid ((Below.refl _ W).alloc (Nat.le_refl _) _)
   obtain⟨i0,hi,hz0,hz1,hz2⟩:=info_parts info_Mark
   have hrun:∀w,(Builtin.append_ #[24,24] 24 #[.slice (some ⟨W.heap.size,0,none⟩) 0 0,.slice (some ad) 0 c]).run Tryz.prog w=.ok (.slice (some ⟨W.heap.size,0,none⟩) 0 0) w:=fun w=>run_append_nothing (P:=Tryz.prog) w _ _ _ _ i0 Tryz.underlying24 hi _ 0 0 (Nat.le_refl _) _ (Src.ofSlice _ Tryz.underlying24 _ 0 c [] (by simp) (fun j u hu=>by simp at hu) (by simp))
   clear hr hl h1 hC h0 hi hz0 hz1 hz2
   go_enter Tryz.func117,Tryz.ntmps117
   go_wp2_with fail
   go_ret
   exact⟨_,rfl,HC.out,HB.out⟩
  ·obtain⟨u0,hu0⟩:∃u,xs[0]?=some u:=⟨_,List.getElem?_eq_getElem (by omega)⟩
   obtain⟨g,off,ho,hg0⟩:=hr 0 u0 hu0
   obtain rfl:=Option.some.inj ho
   have hnews:∀(W':World),Below W.heap.size W W'→∀j u,xs[j]?=some u→W'.cell? ((⟨g,off,none⟩:Addr).add j)=some u:=fun W' hB j u hj=>by
    obtain⟨g2,off2,e2,hc⟩:=hr j u hj
    simp only[Option.some.injEq,Addr.mk.injEq,and_true] at e2
    obtain⟨rfl,rfl⟩:=e2
    rw[add_at];exact cell_bel hB hc
   have HN:=Lib.hid hnews
   have HL:=Lib.hid hl
   have H1:=Lib.hid h1
   have hpos:0<n:=Nat.pos_of_ne_zero hz
   clear hnews hr hl h1 h0 hu0 hg0 hz
   obtain⟨i0,hi,hz0,hz1,hz2⟩:=info_parts info_Mark
   have hB1:Below W.heap.size W (W.alloc (.cells #[] 139)):=(Below.refl _ W).alloc (Nat.le_refl _) _
   have hown:(W.alloc (.cells #[] 139)).ownsRow W.heap.size 139 2 (.slice (some ⟨W.heap.size,0,none⟩) 0 0) 0 []:=own_empty W 139 2 W.heap.size (Nat.le_refl _)
   go_enter Tryz.func117,Tryz.ntmps117
   go_wp2_with (at_builtin;refine wpList_append_own _ rfl _ _ 24 rfl W.heap.size 139 i0 _ 2 16 Tryz.underlying24 hi hz0 hz1 hz2 rfl (by decide) _ 0 [] rfl hown ⟨g,off,none⟩ n c xs rfl HL.out (HN.out _ hB1) H1.out (by unfold maxLen;omega) (by omega) (by simp) ?_;intro v' w4 hown' hgrow _)
   rw[Nat.zero_add,List.nil_append] at hown'
   have hB5:=hB1.grown hgrow (by simp) (fun k e=>by have:=(hown.lt k e).1;omega)
   try go_wp2_with fail
   go_ret
   exact⟨_,rfl,copy_of_own hown',hB5⟩
set_option maxRecDepth 100000 in
set_option maxHeartbeats 4000000 in
theorem clipMark2_any (o:Option Addr) (n c:Nat) (W:World) (hc:n≤c) (hm:c≤maxLen):Calls Tryz.prog 116 #[.slice o n c] W fun e w'=>e=.returned (.slice o n n)∧W=w':=by
 have hnm:n≤maxLen:=Nat.le_trans hc hm
 unfold maxLen at hm hnm
 have n0:(0:Int)≤(n:Int):=Int.natCast_nonneg _
 have n1:(n:Int)≤(c:Int):=by omega
 go_enter Tryz.func116,Tryz.ntmps116
 go_wp2_with fail
 go_ret
 exact⟨rfl,rfl⟩
theorem info_Pair:(Tryz.prog.info? 141).map (fun i=>(i.zero,i.size,i.bytes))=some (some (.agg #[.int .i32 0,.int .i32 0,.int .i32 0]),3,12):=by kernel_rfl
set_option maxRecDepth 100000 in
set_option maxHeartbeats 4000000 in
theorem clonePair_any (o:Option Addr) (n c:Nat) (xs:List Value) (W:World) (hr:Rd W o xs) (hl:xs.length=n*3) (h1:∀u∈xs,u.oneCell'=true) (hn:n≤1048576) (h0:o=none→n=0):Calls Tryz.prog 119 #[.slice o n c] W fun e w'=>∃v,e=.returned v∧Copy W n xs v w'∧Below W.heap.size W w':=by
 have qT:∀(w:World) (a:Option Addr) (n c n' c':Nat),(binOp .eql 25 (.slice a n c) (.slice none n' c')).run Tryz.prog w=.ok (.bool a.isNone) w:=fun w a n c n' c'=>Lib.run_eql_slice_nil w _ _ a n c n' c' Tryz.underlying25
 cases o with
 | none=>
  obtain rfl:=h0 rfl
  have hx:xs=[]:=List.eq_nil_of_length_eq_zero (by omega)
  subst hx
  have hC:Copy W 0 [] (.slice none 0 0) W:=⟨none,0,rfl,Nat.le_refl _,Nat.zero_le _,(fun j u hj=>by simp at hj),(fun a e=>by cases e)⟩
  have HC:=Lib.hid hC
  clear hr hl h1 hC h0
  go_enter Tryz.func119,Tryz.ntmps119
  go_wp2_with fail
  go_ret
  exact⟨_,rfl,HC.out,Below.refl _ _⟩
 | some ad=>
  by_cases hz:n=0
  ·subst hz
   have hx:xs=[]:=List.eq_nil_of_length_eq_zero (by omega)
   subst hx
   have hC:Copy W 0 [] (.slice (some ⟨W.heap.size,0,none⟩) 0 0) (W.alloc (.cells #[] 141)):=copy_of_own (own_empty W 141 3 W.heap.size (Nat.le_refl _))
   have HC:=Lib.hid hC
   have HB:Hid (Below W.heap.size W (W.alloc (.cells #[] 141))):=Lib.hid ((Below.refl _ W).alloc (Nat.le_refl _) _)
   obtain⟨i0,hi,hz0,hz1,hz2⟩:=info_parts info_Pair
   have hrun:∀w,(Builtin.append_ #[25,25] 25 #[.slice (some ⟨W.heap.size,0,none⟩) 0 0,.slice (some ad) 0 c]).run Tryz.prog w=.ok (.slice (some ⟨W.heap.size,0,none⟩) 0 0) w:=fun w=>run_append_nothing (P:=Tryz.prog) w _ _ _ _ i0 Tryz.underlying25 hi _ 0 0 (Nat.le_refl _) _ (Src.ofSlice _ Tryz.underlying25 _ 0 c [] (by simp) (fun j u hu=>by simp at hu) (by simp))
   clear hr hl h1 hC h0 hi hz0 hz1 hz2
   go_enter Tryz.func119,Tryz.ntmps119
   go_wp2_with fail
   go_ret
   exact⟨_,rfl,HC.out,HB.out⟩
  ·obtain⟨u0,hu0⟩:∃u,xs[0]?=some u:=⟨_,List.getElem?_eq_getElem (by omega)⟩
   obtain⟨g,off,ho,hg0⟩:=hr 0 u0 hu0
   obtain rfl:=Option.some.inj ho
   have hnews:∀(W':World),Below W.heap.size W W'→∀j u,xs[j]?=some u→W'.cell? ((⟨g,off,none⟩:Addr).add j)=some u:=fun W' hB j u hj=>by
    obtain⟨g2,off2,e2,hc⟩:=hr j u hj
    simp only[Option.some.injEq,Addr.mk.injEq,and_true] at e2
    obtain⟨rfl,rfl⟩:=e2
    rw[add_at];exact cell_bel hB hc
   have HN:=Lib.hid hnews
   have HL:=Lib.hid hl
   have H1:=Lib.hid h1
   have hpos:0<n:=Nat.pos_of_ne_zero hz
   clear hnews hr hl h1 h0 hu0 hg0 hz
   obtain⟨i0,hi,hz0,hz1,hz2⟩:=info_parts info_Pair
   have hB1:Below W.heap.size W (W.alloc (.cells #[] 141)):=(Below.refl _ W).alloc (Nat.le_refl _) _
   have hown:(W.alloc (.cells #[] 141)).ownsRow W.heap.size 141 3 (.slice (some ⟨W.heap.size,0,none⟩) 0 0) 0 []:=own_empty W 141 3 W.heap.size (Nat.le_refl _)
   go_enter Tryz.func119,Tryz.ntmps119
   go_wp2_with (at_builtin;refine wpList_append_own _ rfl _ _ 25 rfl W.heap.size 141 i0 _ 3 12 Tryz.underlying25 hi hz0 hz1 hz2 rfl (by decide) _ 0 [] rfl hown ⟨g,off,none⟩ n c xs rfl HL.out (HN.out _ hB1) H1.out (by unfold maxLen;omega) (by omega) (by simp) ?_;intro v' w4 hown' hgrow _)
   rw[Nat.zero_add,List.nil_append] at hown'
   have hB5:=hB1.grown hgrow (by simp) (fun k e=>by have:=(hown.lt k e).1;omega)
   try go_wp2_with fail
   go_ret
   exact⟨_,rfl,copy_of_own hown',hB5⟩
set_option maxRecDepth 100000 in
set_option maxHeartbeats 4000000 in
theorem clipPair2_any (o:Option Addr) (n c:Nat) (W:World) (hc:n≤c) (hm:c≤maxLen):Calls Tryz.prog 118 #[.slice o n c] W fun e w'=>e=.returned (.slice o n n)∧W=w':=by
 have hnm:n≤maxLen:=Nat.le_trans hc hm
 unfold maxLen at hm hnm
 have n0:(0:Int)≤(n:Int):=Int.natCast_nonneg _
 have n1:(n:Int)≤(c:Int):=by omega
 go_enter Tryz.func118,Tryz.ntmps118
 go_wp2_with fail
 go_ret
 exact⟨rfl,rfl⟩
theorem info_Map:(Tryz.prog.info? 143).map (fun i=>(i.zero,i.size,i.bytes))=some (some (.agg #[.int .i32 0,.string ByteArray.empty]),2,24):=by kernel_rfl
set_option maxRecDepth 100000 in
set_option maxHeartbeats 4000000 in
theorem cloneMap_any (o:Option Addr) (n c:Nat) (xs:List Value) (W:World) (hr:Rd W o xs) (hl:xs.length=n*2) (h1:∀u∈xs,u.oneCell'=true) (hn:n≤1048576) (h0:o=none→n=0):Calls Tryz.prog 121 #[.slice o n c] W fun e w'=>∃v,e=.returned v∧Copy W n xs v w'∧Below W.heap.size W w':=by
 have qT:∀(w:World) (a:Option Addr) (n c n' c':Nat),(binOp .eql 26 (.slice a n c) (.slice none n' c')).run Tryz.prog w=.ok (.bool a.isNone) w:=fun w a n c n' c'=>Lib.run_eql_slice_nil w _ _ a n c n' c' Tryz.underlying26
 cases o with
 | none=>
  obtain rfl:=h0 rfl
  have hx:xs=[]:=List.eq_nil_of_length_eq_zero (by omega)
  subst hx
  have hC:Copy W 0 [] (.slice none 0 0) W:=⟨none,0,rfl,Nat.le_refl _,Nat.zero_le _,(fun j u hj=>by simp at hj),(fun a e=>by cases e)⟩
  have HC:=Lib.hid hC
  clear hr hl h1 hC h0
  go_enter Tryz.func121,Tryz.ntmps121
  go_wp2_with fail
  go_ret
  exact⟨_,rfl,HC.out,Below.refl _ _⟩
 | some ad=>
  by_cases hz:n=0
  ·subst hz
   have hx:xs=[]:=List.eq_nil_of_length_eq_zero (by omega)
   subst hx
   have hC:Copy W 0 [] (.slice (some ⟨W.heap.size,0,none⟩) 0 0) (W.alloc (.cells #[] 143)):=copy_of_own (own_empty W 143 2 W.heap.size (Nat.le_refl _))
   have HC:=Lib.hid hC
   have HB:Hid (Below W.heap.size W (W.alloc (.cells #[] 143))):=Lib.hid ((Below.refl _ W).alloc (Nat.le_refl _) _)
   obtain⟨i0,hi,hz0,hz1,hz2⟩:=info_parts info_Map
   have hrun:∀w,(Builtin.append_ #[26,26] 26 #[.slice (some ⟨W.heap.size,0,none⟩) 0 0,.slice (some ad) 0 c]).run Tryz.prog w=.ok (.slice (some ⟨W.heap.size,0,none⟩) 0 0) w:=fun w=>run_append_nothing (P:=Tryz.prog) w _ _ _ _ i0 Tryz.underlying26 hi _ 0 0 (Nat.le_refl _) _ (Src.ofSlice _ Tryz.underlying26 _ 0 c [] (by simp) (fun j u hu=>by simp at hu) (by simp))
   clear hr hl h1 hC h0 hi hz0 hz1 hz2
   go_enter Tryz.func121,Tryz.ntmps121
   go_wp2_with fail
   go_ret
   exact⟨_,rfl,HC.out,HB.out⟩
  ·obtain⟨u0,hu0⟩:∃u,xs[0]?=some u:=⟨_,List.getElem?_eq_getElem (by omega)⟩
   obtain⟨g,off,ho,hg0⟩:=hr 0 u0 hu0
   obtain rfl:=Option.some.inj ho
   have hnews:∀(W':World),Below W.heap.size W W'→∀j u,xs[j]?=some u→W'.cell? ((⟨g,off,none⟩:Addr).add j)=some u:=fun W' hB j u hj=>by
    obtain⟨g2,off2,e2,hc⟩:=hr j u hj
    simp only[Option.some.injEq,Addr.mk.injEq,and_true] at e2
    obtain⟨rfl,rfl⟩:=e2
    rw[add_at];exact cell_bel hB hc
   have HN:=Lib.hid hnews
   have HL:=Lib.hid hl
   have H1:=Lib.hid h1
   have hpos:0<n:=Nat.pos_of_ne_zero hz
   clear hnews hr hl h1 h0 hu0 hg0 hz
   obtain⟨i0,hi,hz0,hz1,hz2⟩:=info_parts info_Map
   have hB1:Below W.heap.size W (W.alloc (.cells #[] 143)):=(Below.refl _ W).alloc (Nat.le_refl _) _
   have hown:(W.alloc (.cells #[] 143)).ownsRow W.heap.size 143 2 (.slice (some ⟨W.heap.size,0,none⟩) 0 0) 0 []:=own_empty W 143 2 W.heap.size (Nat.le_refl _)
   go_enter Tryz.func121,Tryz.ntmps121
   go_wp2_with (at_builtin;refine wpList_append_own _ rfl _ _ 26 rfl W.heap.size 143 i0 _ 2 24 Tryz.underlying26 hi hz0 hz1 hz2 rfl (by decide) _ 0 [] rfl hown ⟨g,off,none⟩ n c xs rfl HL.out (HN.out _ hB1) H1.out (by unfold maxLen;omega) (by omega) (by simp) ?_;intro v' w4 hown' hgrow _)
   rw[Nat.zero_add,List.nil_append] at hown'
   have hB5:=hB1.grown hgrow (by simp) (fun k e=>by have:=(hown.lt k e).1;omega)
   try go_wp2_with fail
   go_ret
   exact⟨_,rfl,copy_of_own hown',hB5⟩
set_option maxRecDepth 100000 in
set_option maxHeartbeats 4000000 in
theorem clipMap2_any (o:Option Addr) (n c:Nat) (W:World) (hc:n≤c) (hm:c≤maxLen):Calls Tryz.prog 120 #[.slice o n c] W fun e w'=>e=.returned (.slice o n n)∧W=w':=by
 have hnm:n≤maxLen:=Nat.le_trans hc hm
 unfold maxLen at hm hnm
 have n0:(0:Int)≤(n:Int):=Int.natCast_nonneg _
 have n1:(n:Int)≤(c:Int):=by omega
 go_enter Tryz.func120,Tryz.ntmps120
 go_wp2_with fail
 go_ret
 exact⟨rfl,rfl⟩
end Go.Proofs.YtioehfhdoohdmaaGreatDoor
namespace Go.Proofs.YtioehfhdoohdmaaGreatDoor
open Go.RowKit Go.Shelf
theorem flat_get {α:Type}(f:α→List Value) (m:Nat) (hm:∀x,(f x).length=m):∀(l:List α) (i k:Nat),k<m→(l.flatMap f)[i*m+k]?=(l[i]?).bind (fun x=>(f x)[k]?)
 | [],i,k,h=>by simp
 | x::t,0,k,h=>by
  rw[List.flatMap_cons,Nat.zero_mul,Nat.zero_add,List.getElem?_append_left (by rw[hm];exact h)];rfl
 | x::t,i+1,k,h=>by
  rw[List.flatMap_cons,List.getElem?_append_right (by rw[hm,Nat.add_mul];omega),hm,show (i+1)*m+k - m=i*m+k by rw[Nat.add_mul];omega,flat_get f m hm t i k h];rfl
theorem flat_len {α:Type}(f:α→List Value) (m:Nat) (hm:∀x,(f x).length=m):∀l:List α,(l.flatMap f).length=l.length*m
 | []=>by simp
 | x::t=>by rw[List.flatMap_cons,List.length_append,hm,flat_len f m hm t,List.length_cons,Nat.add_mul];omega
theorem Rd.of_rows {α:Type}{W:World}{o:Option Addr}{l:List α}{f:α→List Value}{m:Nat}(hm:∀x,(f x).length=m) (h0:0<m) (h:∀i (hi:i<l.length),∃g off,o=some ⟨g,off,none⟩∧∀k v,(f l[i])[k]?=some v→W.cell? ⟨g,off+(i*m+k),none⟩=some v):Rd W o (l.flatMap f):=by
 intro j u hj
 have hd:j / m*m+j % m=j:=by rw[Nat.mul_comm];exact Nat.div_add_mod j m
 have hk:j % m<m:=Nat.mod_lt _ h0
 rw[←hd,flat_get f m hm l _ _ hk] at hj
 cases e:l[j / m]? with
 | none=>rw[e] at hj;exact absurd hj (by simp)
 | some x=>
  rw[e] at hj
  obtain⟨hi,hx⟩:=List.getElem?_eq_some_iff.1 e
  obtain⟨g,off,ho,hc⟩:=h _ hi
  refine⟨g,off,ho,?_⟩
  have:=hc _ u (by rw[hx];exact hj)
  rwa [hd] at this
theorem Rd.row {α:Type}{W:World}{o:Option Addr}{l:List α}{f:α→List Value}{m:Nat}(h:Rd W o (l.flatMap f)) (hm:∀x,(f x).length=m) {i:Nat}(hi:i<l.length) {k:Nat}{v:Value}(hv:(f l[i])[k]?=some v):∃g off,o=some ⟨g,off,none⟩∧W.cell? ⟨g,off+(i*m+k),none⟩=some v:=by
 have hk:k<m:=by rw[←hm l[i]];exact (List.getElem?_eq_some_iff.1 hv).1
 exact h (i*m+k) v (by rw[flat_get f m hm l i k hk,List.getElem?_eq_getElem hi];exact hv)
def spV (s:Span):List Value:=[.int .i32 s.1,.int .i32 s.2]
def mkV (m:Int×Int):List Value:=[.int .i32 m.1,.int .i64 m.2]
def prV (p:Int×Int×Int):List Value:=[.int .i32 p.1,.int .i32 p.2.1,.int .i32 p.2.2]
def mpV (m:Int×ByteArray):List Value:=[.int .i32 m.1,.string m.2]
theorem same_at {g off g' off':Nat}(h:(some ⟨g,off,none⟩:Option Addr)=some ⟨g',off',none⟩):g=g'∧off=off':=by
 simp only[Option.some.injEq,Addr.mk.injEq] at h
 exact⟨h.1,h.2.1⟩
theorem SpansAt.rd {W:World}{o:Option Addr}{l:List Span}(h:SpansAt W o l):Rd W o (l.flatMap spV):=
 Rd.of_rows (m:=2) (fun _=>rfl) (by omega) fun i hi=>by
  obtain⟨g,off,ho,_,c0,c1⟩:=h i hi
  refine⟨g,off,ho,fun k v hv=>?_⟩
  match k,hv with
  | 0,hv=>simp only[spV,List.getElem?_cons_zero,Option.some.injEq] at hv;subst hv;exact c0
  | 1,hv=>simp only[spV,List.getElem?_cons_succ,List.getElem?_cons_zero,Option.some.injEq] at hv;subst hv;exact c1
theorem Rd.spans {W:World}{o:Option Addr}{l:List Span}(h:Rd W o (l.flatMap spV)):SpansAt W o l:=fun i hi=>by
 obtain⟨g,off,ho,c0⟩:=h.row (m:=2) (fun _=>rfl) hi (k:=0) rfl
 obtain⟨g',off',ho',c1⟩:=h.row (m:=2) (fun _=>rfl) hi (k:=1) rfl
 obtain⟨rfl,rfl⟩:=same_at (ho.symm.trans ho')
 exact⟨g,off,ho,cell_lt c0,c0,c1⟩
theorem MarksAt.rd {W:World}{o:Option Addr}{l:List (Int×Int)}(h:MarksAt W o l):Rd W o (l.flatMap mkV):=
 Rd.of_rows (m:=2) (fun _=>rfl) (by omega) fun i hi=>by
  obtain⟨g,off,ho,_,c0,c1⟩:=h i hi
  refine⟨g,off,ho,fun k v hv=>?_⟩
  match k,hv with
  | 0,hv=>simp only[mkV,List.getElem?_cons_zero,Option.some.injEq] at hv;subst hv;exact c0
  | 1,hv=>simp only[mkV,List.getElem?_cons_succ,List.getElem?_cons_zero,Option.some.injEq] at hv;subst hv;exact c1
theorem Rd.marks {W:World}{o:Option Addr}{l:List (Int×Int)}(h:Rd W o (l.flatMap mkV)):MarksAt W o l:=fun i hi=>by
 obtain⟨g,off,ho,c0⟩:=h.row (m:=2) (fun _=>rfl) hi (k:=0) rfl
 obtain⟨g',off',ho',c1⟩:=h.row (m:=2) (fun _=>rfl) hi (k:=1) rfl
 obtain⟨rfl,rfl⟩:=same_at (ho.symm.trans ho')
 exact⟨g,off,ho,cell_lt c0,c0,c1⟩
theorem PairsAt.rd {W:World}{o:Option Addr}{l:List (Int×Int×Int)}(h:PairsAt W o l):Rd W o (l.flatMap prV):=
 Rd.of_rows (m:=3) (fun _=>rfl) (by omega) fun i hi=>by
  obtain⟨g,off,ho,_,c0,c1,c2⟩:=h i hi
  refine⟨g,off,ho,fun k v hv=>?_⟩
  match k,hv with
  | 0,hv=>simp only[prV,List.getElem?_cons_zero,Option.some.injEq] at hv;subst hv;exact c0
  | 1,hv=>simp only[prV,List.getElem?_cons_succ,List.getElem?_cons_zero,Option.some.injEq] at hv;subst hv;exact c1
  | 2,hv=>simp only[prV,List.getElem?_cons_succ,List.getElem?_cons_zero,Option.some.injEq] at hv;subst hv;exact c2
theorem Rd.pairs {W:World}{o:Option Addr}{l:List (Int×Int×Int)}(h:Rd W o (l.flatMap prV)):PairsAt W o l:=fun i hi=>by
 obtain⟨g,off,ho,c0⟩:=h.row (m:=3) (fun _=>rfl) hi (k:=0) rfl
 obtain⟨g',off',ho',c1⟩:=h.row (m:=3) (fun _=>rfl) hi (k:=1) rfl
 obtain⟨rfl,rfl⟩:=same_at (ho.symm.trans ho')
 obtain⟨g',off',ho',c2⟩:=h.row (m:=3) (fun _=>rfl) hi (k:=2) rfl
 obtain⟨rfl,rfl⟩:=same_at (ho.symm.trans ho')
 exact⟨g,off,ho,cell_lt c0,c0,c1,c2⟩
theorem MapsAt.rd {W:World}{o:Option Addr}{l:List (Int×ByteArray)}(h:MapsAt W o l):Rd W o (l.flatMap mpV):=
 Rd.of_rows (m:=2) (fun _=>rfl) (by omega) fun i hi=>by
  obtain⟨g,off,ho,_,c0,c1,_⟩:=h i hi
  refine⟨g,off,ho,fun k v hv=>?_⟩
  match k,hv with
  | 0,hv=>simp only[mpV,List.getElem?_cons_zero,Option.some.injEq] at hv;subst hv;exact c0
  | 1,hv=>simp only[mpV,List.getElem?_cons_succ,List.getElem?_cons_zero,Option.some.injEq] at hv;subst hv;exact c1
theorem Rd.maps {W:World}{o:Option Addr}{l:List (Int×ByteArray)}(h:Rd W o (l.flatMap mpV)) (hl:∀x∈l,x.2.size≤maxLen):MapsAt W o l:=fun i hi=>by
 obtain⟨g,off,ho,c0⟩:=h.row (m:=2) (fun _=>rfl) hi (k:=0) rfl
 obtain⟨g',off',ho',c1⟩:=h.row (m:=2) (fun _=>rfl) hi (k:=1) rfl
 obtain⟨rfl,rfl⟩:=same_at (ho.symm.trans ho')
 exact⟨g,off,ho,cell_lt c0,c0,c1,hl _ (List.getElem_mem hi)⟩
theorem MapsAt.small {W:World}{o:Option Addr}{l:List (Int×ByteArray)}(h:MapsAt W o l):∀x∈l,x.2.size≤maxLen:=fun x hx=>by
 obtain⟨i,hi,rfl⟩:=List.mem_iff_getElem.1 hx
 obtain⟨_,_,_,_,_,_,hs⟩:=h i hi
 exact hs
def scV (l:List (ByteArray×List Span)) (p:Nat→Option Addr×Nat) (i:Nat):List Value:=[.string (l.getD i (ByteArray.empty,[])).1,.slice (p i).1 (l.getD i (ByteArray.empty,[])).2.length (p i).2]
theorem ScriptsAt.rd {W:World}{o:Option Addr}{l:List (ByteArray×List Span)}(h:ScriptsAt W o l):∃p:Nat→Option Addr×Nat,Rd W o ((List.range l.length).flatMap (scV l p))∧∀i (hi:i<l.length),SpansAt W (p i).1 l[i].2∧l[i].1.size≤maxLen∧l[i].2.length≤maxLen:=by
 have h1:∀i,∃q:Option Addr×Nat,∀hi:i<l.length,∃g off,o=some ⟨g,off,none⟩∧W.cell? ⟨g,off+i*2,none⟩=some (.string l[i].1)∧W.cell? ⟨g,off+i*2+1,none⟩=some (.slice q.1 l[i].2.length q.2)∧SpansAt W q.1 l[i].2∧l[i].1.size≤maxLen∧l[i].2.length≤maxLen:=fun i=>by
  by_cases hi:i<l.length
  ·obtain⟨g,off,so,sc,ho,_,c0,c1,cs,cz,cy⟩:=h i hi
   exact⟨(so,sc),fun _=>⟨g,off,ho,c0,c1,cs,cz,cy⟩⟩
  ·exact⟨(none,0),fun hh=>absurd hh hi⟩
 refine⟨fun i=>(h1 i).choose,?_,fun i hi=>?_⟩
 ·refine Rd.of_rows (m:=2) (fun _=>rfl) (by omega) fun i hi=>?_
  have hi':i<l.length:=by simpa using hi
  obtain⟨g,off,ho,c0,c1,_⟩:=(h1 i).choose_spec hi'
  have hg:l.getD i (ByteArray.empty,[])=l[i]:=by rw[List.getD_eq_getElem?_getD,List.getElem?_eq_getElem hi'];rfl
  refine⟨g,off,ho,fun k v hv=>?_⟩
  rw[show (List.range l.length)[i]=i by simp] at hv
  match k,hv with
  | 0,hv=>simp only[scV,hg,List.getElem?_cons_zero,Option.some.injEq] at hv;subst hv;exact c0
  | 1,hv=>simp only[scV,hg,List.getElem?_cons_succ,List.getElem?_cons_zero,Option.some.injEq] at hv;subst hv;exact c1
 ·obtain⟨g,off,ho,c0,c1,h2⟩:=(h1 i).choose_spec hi
  exact h2
theorem Rd.scripts {W:World}{o:Option Addr}{l:List (ByteArray×List Span)}{p:Nat→Option Addr×Nat}(h:Rd W o ((List.range l.length).flatMap (scV l p))) (hp:∀i (hi:i<l.length),SpansAt W (p i).1 l[i].2∧l[i].1.size≤maxLen∧l[i].2.length≤maxLen):ScriptsAt W o l:=fun i hi=>by
 have hi':i<(List.range l.length).length:=by simpa using hi
 have hg:l.getD i (ByteArray.empty,[])=l[i]:=by rw[List.getD_eq_getElem?_getD,List.getElem?_eq_getElem hi];rfl
 obtain⟨g,off,ho,c0⟩:=h.row (m:=2) (fun _=>rfl) hi' (k:=0) rfl
 obtain⟨g',off',ho',c1⟩:=h.row (m:=2) (fun _=>rfl) hi' (k:=1) rfl
 obtain⟨rfl,rfl⟩:=same_at (ho.symm.trans ho')
 rw[show (List.range l.length)[i]=i by simp,hg] at c0 c1
 obtain⟨h1,h2,h3⟩:=hp i hi
 exact⟨g,off,_,_,ho,cell_lt c0,c0,c1,h1,h2,h3⟩
theorem cell_set_ne {W:World}{p q:Addr}{u v x:Value}(hp:W.cell? p=some x) (hq:W.cell? q=some v) (hn:x≠v):(W.setCell q u).cell? p=some x:=by
 have:p≠q:=fun e=>by subst e;rw[hp] at hq;exact hn (Option.some.inj hq)
 exact (World.cell?_setCell_other _ _ _ _ (fun e=>this e.symm)).trans hp
theorem SpansAt.set {W:World}{o q':Option Addr}{l:List Span}(h:SpansAt W o l) {q:Addr}{n c:Nat}(hq:W.cell? q=some (.slice q' n c)) (u:Value):SpansAt (W.setCell q u) o l:=fun i hi=>by
 obtain⟨g,off,ho,hg,c0,c1⟩:=h i hi
 have d0:=cell_set_ne (u:=u) c0 hq (by simp)
 have d1:=cell_set_ne (u:=u) c1 hq (by simp)
 exact⟨g,off,ho,cell_lt d0,d0,d1⟩
def NewAt (base:Nat) (o:Option Addr):Prop:=∀a,o=some a→base≤a.block
def ScriptsNew (base:Nat) (W:World) (o:Option Addr) (l:List (ByteArray×List Span)) (n:Nat):Prop:=NewAt base o∧∀i (hi:i<l.length),i<n→∃g off so sc,o=some ⟨g,off,none⟩∧W.cell? ⟨g,off+i*2+1,none⟩=some (.slice so l[i].2.length sc)∧NewAt base so
structure TabNew (base:Nat) (W:World) (T:Tab) (a:TAddr):Prop where
 n0:ScriptsNew base W a.o0 T.scripts T.scripts.length
 n1:NewAt base a.o1
 n2:NewAt base a.o2
 n3:NewAt base a.o3
 n4:NewAt base a.o4
 n5:NewAt base a.o5
 n6:NewAt base a.o6
 n7:NewAt base a.o7
def CpPost (W:World) (n:Nat) (At:World→Option Addr→Prop) (e:Ending) (w':World):Prop:=∃(p:Option Addr) (d:Nat),e=.returned (.slice p n d)∧Hid (n≤d∧d≤maxLen∧Below W.heap.size W w'∧At w' p∧NewAt W.heap.size p∧(∀a,p=some a→a.block<w'.heap.size∧a.off=0∧a.spot=none∧∀j,w'.frozen? ⟨a.block,j,none⟩=false))
theorem cp_of {W w':World}{n:Nat}{xs:List Value}{e:Ending}{At:World→Option Addr→Prop}(hAt:∀p,Rd w' p xs→At w' p) (h:∃v,e=.returned v∧Copy W n xs v w'∧Below W.heap.size W w'):CpPost W n At e w':=by
 obtain⟨v,rfl,⟨p,d,rfl,h1,h2,h3,h4⟩,hB⟩:=h
 exact⟨p,d,rfl,Lib.hid ⟨h1,h2,hB,hAt p h3,fun a ha=>(h4 a ha).1,fun a ha=>(h4 a ha).2⟩⟩
theorem copySpan_any (o:Option Addr) (c:Nat) (l:List Span) (W:World) (h:SpansAt W o l) (hn:l.length≤1048576):Calls Tryz.prog 115 #[.slice o l.length c] W (CpPost W l.length (fun w p=>SpansAt w p l)):=
 (cloneSpan_any o l.length c (l.flatMap spV) W h.rd (flat_len spV 2 (fun _=>rfl) l) (fun u hu=>by obtain⟨x,_,hx⟩:=List.mem_flatMap.1 hu;simp only[spV,List.mem_cons,List.not_mem_nil,or_false] at hx;rcases hx with rfl | rfl <;> rfl) hn (fun e=>by
  cases l with
  | nil=>rfl
  | cons x t=>obtain⟨g,off,ho,_⟩:=h 0 (by simp);rw[ho] at e;cases e)).mono fun e w' hh=>cp_of (fun p hp=>hp.spans) hh
theorem copyMark_any (o:Option Addr) (c:Nat) (l:List (Int×Int)) (W:World) (h:MarksAt W o l) (hn:l.length≤1048576):Calls Tryz.prog 117 #[.slice o l.length c] W (CpPost W l.length (fun w p=>MarksAt w p l)):=
 (cloneMark_any o l.length c (l.flatMap mkV) W h.rd (flat_len mkV 2 (fun _=>rfl) l) (fun u hu=>by obtain⟨x,_,hx⟩:=List.mem_flatMap.1 hu;simp only[mkV,List.mem_cons,List.not_mem_nil,or_false] at hx;rcases hx with rfl | rfl <;> rfl) hn (fun e=>by
  cases l with
  | nil=>rfl
  | cons x t=>obtain⟨g,off,ho,_⟩:=h 0 (by simp);rw[ho] at e;cases e)).mono fun e w' hh=>cp_of (fun p hp=>hp.marks) hh
theorem copyPair_any (o:Option Addr) (c:Nat) (l:List (Int×Int×Int)) (W:World) (h:PairsAt W o l) (hn:l.length≤1048576):Calls Tryz.prog 119 #[.slice o l.length c] W (CpPost W l.length (fun w p=>PairsAt w p l)):=
 (clonePair_any o l.length c (l.flatMap prV) W h.rd (flat_len prV 3 (fun _=>rfl) l) (fun u hu=>by obtain⟨x,_,hx⟩:=List.mem_flatMap.1 hu;simp only[prV,List.mem_cons,List.not_mem_nil,or_false] at hx;rcases hx with rfl | rfl | rfl <;> rfl) hn (fun e=>by
  cases l with
  | nil=>rfl
  | cons x t=>obtain⟨g,off,ho,_⟩:=h 0 (by simp);rw[ho] at e;cases e)).mono fun e w' hh=>cp_of (fun p hp=>hp.pairs) hh
theorem copyMap_any (o:Option Addr) (c:Nat) (l:List (Int×ByteArray)) (W:World) (h:MapsAt W o l) (hn:l.length≤1048576):Calls Tryz.prog 121 #[.slice o l.length c] W (CpPost W l.length (fun w p=>MapsAt w p l)):=
 (cloneMap_any o l.length c (l.flatMap mpV) W h.rd (flat_len mpV 2 (fun _=>rfl) l) (fun u hu=>by obtain⟨x,_,hx⟩:=List.mem_flatMap.1 hu;simp only[mpV,List.mem_cons,List.not_mem_nil,or_false] at hx;rcases hx with rfl | rfl <;> rfl) hn (fun e=>by
  cases l with
  | nil=>rfl
  | cons x t=>obtain⟨g,off,ho,_⟩:=h 0 (by simp);rw[ho] at e;cases e)).mono fun e w' hh=>cp_of (fun p hp=>hp.maps h.small) hh
theorem copyScript_any (o:Option Addr) (c:Nat) (l:List (ByteArray×List Span)) (W:World) (h:ScriptsAt W o l) (hn:l.length≤1048576):Calls Tryz.prog 113 #[.slice o l.length c] W (CpPost W l.length (fun w p=>ScriptsAt w p l)):=by
 obtain⟨q,hr,hq⟩:=h.rd
 refine (cloneScript_any o l.length c ((List.range l.length).flatMap (scV l q)) W hr (by rw[flat_len (scV l q) 2 (fun _=>rfl),List.length_range]) (fun u hu=>by obtain⟨x,_,hx⟩:=List.mem_flatMap.1 hu;simp only[scV,List.mem_cons,List.not_mem_nil,or_false] at hx;rcases hx with rfl | rfl <;> rfl) hn (fun e=>by
  cases l with
  | nil=>rfl
  | cons x t=>obtain⟨g,off,_,_,ho,_⟩:=h 0 (by simp);rw[ho] at e;cases e)).mono fun e w' hh=>?_
 have hB:Below W.heap.size W w':=by obtain⟨_,_,_,hB⟩:=hh;exact hB
 exact cp_of (fun p hp=>hp.scripts (fun i hi=>⟨(hq i hi).1.below hB,(hq i hi).2⟩)) hh
structure CSt (base:Nat) (w1:World) (p:Option Addr) (l:List (ByteArray×List Span)) (i:Nat) (wr:World):Prop where
 at_:ScriptsAt wr p l
 new:ScriptsNew base wr p l i
 keep:Keep (fun k=>∃a,p=some a∧k=a.block) w1 wr
 fr:∀a,p=some a→a.spot=none∧∀j,wr.frozen? ⟨a.block,j,none⟩=false
theorem CSt.next {base:Nat}{w1 wr w2:World}{p:Option Addr}{l:List (ByteArray×List Span)}{i:Nat}(h:CSt base w1 p l i wr) (hi:i<l.length) {g off sc:Nat}{so q:Option Addr}(hp:p=some ⟨g,off,none⟩) (hc:wr.cell? ⟨g,off+i*2+1,none⟩=some (.slice so l[i].2.length sc))
 (hB:Below wr.heap.size wr w2) (hq:SpansAt w2 q l[i].2) (hn:NewAt base q):CSt base w1 p l (i+1) (w2.setCell ⟨g,off+i*2+1,none⟩ (.slice q l[i].2.length l[i].2.length)):=by
 have hc2:=cell_bel hB hc
 have hne:∀j,j≠i→(⟨g,off+i*2+1,none⟩:Addr)≠⟨g,off+j*2+1,none⟩:=fun j hj e=>by simp only[Addr.mk.injEq] at e;omega
 have hlt:g<w2.heap.size:=cell_lt hc2
 refine⟨fun j hj=>?_,⟨h.new.1,fun j hj hlt=>?_⟩,?_,fun a ha=>⟨(h.fr a ha).1,fun j=>?_⟩⟩
 ·obtain⟨g',off',so',sc',ho,hg,c0,c1,cs,cz,cy⟩:=h.at_ j hj
  obtain⟨rfl,rfl⟩:=same_at (hp.symm.trans ho)
  have d0:=cell_set_ne (u:=.slice q l[i].2.length l[i].2.length) (cell_bel hB c0) hc2 (by simp)
  by_cases e:j=i
  ·subst e
   exact⟨g,off,q,_,hp,cell_lt d0,d0,World.cell?_setCell_same _ _ _ hc2,hq.set hc2 _,cz,cy⟩
  ·exact⟨g,off,so',sc',hp,cell_lt d0,d0,(World.cell?_setCell_other _ _ _ _ (hne j e)).trans (cell_bel hB c1),(cs.below hB).set hc2 _,cz,cy⟩
 ·by_cases e:j=i
  ·subst e
   exact⟨g,off,q,_,hp,World.cell?_setCell_same _ _ _ hc2,hn⟩
  ·obtain⟨g',off',so',sc',ho,c1,hh⟩:=h.new.2 j hj (by omega)
   obtain⟨rfl,rfl⟩:=same_at (hp.symm.trans ho)
   exact⟨g,off,so',sc',hp,(World.cell?_setCell_other _ _ _ _ (hne j e)).trans (cell_bel hB c1),hh⟩
 ·exact (h.keep.trans (Keep.of_below hB _)).setCell (p:=⟨g,off+i*2+1,none⟩) (fun _=>⟨_,hp,rfl⟩) _
 ·rw[World.frozen?_setCell]
  have e:=hp.symm.trans ha
  have e2:(⟨g,off,none⟩:Addr)=a:=Option.some.inj e
  subst e2
  exact (hB.frozen (p:=⟨g,j,none⟩) (by have:=cell_lt hc;exact this)).trans ((h.fr _ hp).2 j)
theorem keep_set8 {S:Nat→Prop}{W z:World}{b:Nat}{u0 u1 u2 u3 u4 u5 u6 u7:Value}(h:Keep S W z) (hb:b<W.heap.size→S b):Keep S W ((((((((z.setCell ⟨b,0,none⟩ u0).setCell ⟨b,1,none⟩ u1).setCell ⟨b,2,none⟩ u2).setCell ⟨b,3,none⟩ u3).setCell ⟨b,4,none⟩ u4).setCell ⟨b,5,none⟩ u5).setCell ⟨b,6,none⟩ u6).setCell ⟨b,7,none⟩ u7):=((((((((h.setCell (p:=⟨b,0,none⟩) hb u0).setCell (p:=⟨b,1,none⟩) hb u1).setCell (p:=⟨b,2,none⟩) hb u2).setCell (p:=⟨b,3,none⟩) hb u3).setCell (p:=⟨b,4,none⟩) hb u4).setCell (p:=⟨b,5,none⟩) hb u5).setCell (p:=⟨b,6,none⟩) hb u6).setCell (p:=⟨b,7,none⟩) hb u7)
theorem new_ne {base b:Nat}{o:Option Addr}(h:NewAt base o) (hb:b<base) {g off:Nat}(ho:o=some ⟨g,off,none⟩):g≠b:=by
 have:=h _ ho
 simp only at this
 omega
theorem NewAt.mono {base base':Nat}{o:Option Addr}(h:NewAt base o) (hb:base'≤base):NewAt base' o:=fun a ha=>Nat.le_trans hb (h a ha)
theorem SpansAt.of_keep {z z':World}{b base:Nat}{o:Option Addr}{l:List Span}(h:SpansAt z o l) (hn:NewAt base o) (hb:b<base) (k:Keep (fun i=>i=b) z z'):SpansAt z' o l:=fun i hi=>by
 obtain⟨g,off,ho,hg,c0,c1⟩:=h i hi
 have hne:=new_ne hn hb ho
 have d0:=(k.cell (p:=⟨g,off+i*2,none⟩) hg hne).trans c0
 have d1:=(k.cell (p:=⟨g,off+i*2+1,none⟩) hg hne).trans c1
 exact⟨g,off,ho,cell_lt d0,d0,d1⟩
theorem MarksAt.of_keep {z z':World}{b base:Nat}{o:Option Addr}{l:List (Int×Int)}(h:MarksAt z o l) (hn:NewAt base o) (hb:b<base) (k:Keep (fun i=>i=b) z z'):MarksAt z' o l:=fun i hi=>by
 obtain⟨g,off,ho,hg,c0,c1⟩:=h i hi
 have hne:=new_ne hn hb ho
 have d0:=(k.cell (p:=⟨g,off+i*2,none⟩) hg hne).trans c0
 have d1:=(k.cell (p:=⟨g,off+i*2+1,none⟩) hg hne).trans c1
 exact⟨g,off,ho,cell_lt d0,d0,d1⟩
theorem PairsAt.of_keep {z z':World}{b base:Nat}{o:Option Addr}{l:List (Int×Int×Int)}(h:PairsAt z o l) (hn:NewAt base o) (hb:b<base) (k:Keep (fun i=>i=b) z z'):PairsAt z' o l:=fun i hi=>by
 obtain⟨g,off,ho,hg,c0,c1,c2⟩:=h i hi
 have hne:=new_ne hn hb ho
 have d0:=(k.cell (p:=⟨g,off+i*3,none⟩) hg hne).trans c0
 have d1:=(k.cell (p:=⟨g,off+i*3+1,none⟩) hg hne).trans c1
 have d2:=(k.cell (p:=⟨g,off+i*3+2,none⟩) hg hne).trans c2
 exact⟨g,off,ho,cell_lt d0,d0,d1,d2⟩
theorem MapsAt.of_keep {z z':World}{b base:Nat}{o:Option Addr}{l:List (Int×ByteArray)}(h:MapsAt z o l) (hn:NewAt base o) (hb:b<base) (k:Keep (fun i=>i=b) z z'):MapsAt z' o l:=fun i hi=>by
 obtain⟨g,off,ho,hg,c0,c1,hz⟩:=h i hi
 have hne:=new_ne hn hb ho
 have d0:=(k.cell (p:=⟨g,off+i*2,none⟩) hg hne).trans c0
 have d1:=(k.cell (p:=⟨g,off+i*2+1,none⟩) hg hne).trans c1
 exact⟨g,off,ho,cell_lt d0,d0,d1,hz⟩
theorem ScriptsAt.of_keep {z z':World}{b base:Nat}{o:Option Addr}{l:List (ByteArray×List Span)}(h:ScriptsAt z o l) (hn:ScriptsNew base z o l l.length) (hb:b<base) (k:Keep (fun i=>i=b) z z'):ScriptsAt z' o l∧ScriptsNew base z' o l l.length:=by
 refine⟨fun i hi=>?_,hn.1,fun i hi hlt=>?_⟩
 ·obtain⟨g,off,so,sc,ho,hg,c0,c1,cs,cz,cy⟩:=h i hi
  have hne:=new_ne hn.1 hb ho
  obtain⟨g',off',so',sc',ho',e1,hnew⟩:=hn.2 i hi hi
  obtain⟨rfl,rfl⟩:=same_at (ho.symm.trans ho')
  have e:so=so':=by rw[c1] at e1;simp only[Option.some.injEq,Value.slice.injEq] at e1;exact e1.1
  subst e
  have d0:=(k.cell (p:=⟨g,off+i*2,none⟩) hg hne).trans c0
  have d1:=(k.cell (p:=⟨g,off+i*2+1,none⟩) hg hne).trans c1
  exact⟨g,off,so,sc,ho,cell_lt d0,d0,d1,cs.of_keep hnew hb k,cz,cy⟩
 ·obtain⟨g',off',so',sc',ho',e1,hnew⟩:=hn.2 i hi hi
  have hne:=new_ne hn.1 hb ho'
  exact⟨g',off',so',sc',ho',(k.cell (p:=⟨g',off'+i*2+1,none⟩) (by have:=cell_lt e1;exact this) hne).trans e1,hnew⟩
theorem ScriptsNew.below {base n:Nat}{W W':World}{o:Option Addr}{l:List (ByteArray×List Span)}(h:ScriptsNew base W o l n) (hB:Below W.heap.size W W'):ScriptsNew base W' o l n:=⟨h.1,fun i hi hlt=>by
 obtain⟨g,off,so,sc,ho,c1,hn⟩:=h.2 i hi hlt
 exact⟨g,off,so,sc,ho,cell_bel hB c1,hn⟩⟩
theorem ScriptsNew.mono {base base' n:Nat}{W:World}{o:Option Addr}{l:List (ByteArray×List Span)}(h:ScriptsNew base W o l n) (hb:base'≤base):ScriptsNew base' W o l n:=⟨h.1.mono hb,fun i hi hlt=>by
 obtain⟨g,off,so,sc,ho,c1,hn⟩:=h.2 i hi hlt
 exact⟨g,off,so,sc,ho,c1,hn.mono hb⟩⟩
theorem TabAt.of_keep {z z':World}{b base:Nat}{T:Tab}{a:TAddr}(h:TabAt z T a) (n:TabNew base z T a) (hb:b<base) (k:Keep (fun i=>i=b) z z'):TabAt z' T a∧TabNew base z' T a:=by
 obtain⟨s1,s2⟩:=h.scripts.of_keep n.n0 hb k
 exact⟨⟨s1,h.common.of_keep n.n1 hb k,h.marks.of_keep n.n2 hb k,h.pairs.of_keep n.n3 hb k,h.folds.of_keep n.n4 hb k,h.looks.of_keep n.n5 hb k,h.drops.of_keep n.n6 hb k,h.allowed.of_keep n.n7 hb k,h.m0,h.m1,h.m2,h.m3,h.m4,h.m5,h.m6,h.m7⟩,⟨s2,n.n1,n.n2,n.n3,n.n4,n.n5,n.n6,n.n7⟩⟩
theorem TabNew.mono {base base':Nat}{W:World}{T:Tab}{a:TAddr}(n:TabNew base W T a) (hb:base'≤base):TabNew base' W T a:=⟨n.n0.mono hb,n.n1.mono hb,n.n2.mono hb,n.n3.mono hb,n.n4.mono hb,n.n5.mono hb,n.n6.mono hb,n.n7.mono hb⟩
theorem TabNew.below {base:Nat}{W W':World}{T:Tab}{a:TAddr}(n:TabNew base W T a) (hB:Below W.heap.size W W'):TabNew base W' T a:=⟨n.n0.below hB,n.n1,n.n2,n.n3,n.n4,n.n5,n.n6,n.n7⟩
theorem res_tab {fn:Func}{a:Tmp}(h:fn.results=#[.cell a 28]) {tmps:Array Value}{b:Nat}(hb:tmps.getD a undef=.pointer (some ⟨b,0,none⟩)) {W:World}{x0 x1 x2 x3 x4 x5 x6 x7:Value}(r0:W.cell? ⟨b,0,none⟩=some x0) (r1:W.cell? ⟨b,1,none⟩=some x1) (r2:W.cell? ⟨b,2,none⟩=some x2) (r3:W.cell? ⟨b,3,none⟩=some x3) (r4:W.cell? ⟨b,4,none⟩=some x4) (r5:W.cell? ⟨b,5,none⟩=some x5) (r6:W.cell? ⟨b,6,none⟩=some x6) (r7:W.cell? ⟨b,7,none⟩=some x7) :
 (results fn tmps).run Tryz.prog W=.ok (.agg #[x0,x1,x2,x3,x4,x5,x6,x7]) W:=by
 have hb2:tmps[a]?.getD undef=.pointer (some ⟨b,0,none⟩):=by rw[←hb];simp
 simp[results,h,hb2,go_sem,r0,r1,r2,r3,r4,r5,r6,r7]
end Go.Proofs.YtioehfhdoohdmaaGreatDoor
