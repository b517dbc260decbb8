/- MeetA: Meet, SameI. -/
import Derived.Sort.OwnSortedInts
import Derived.Shelf.SlicesE.DeleteFunc
import Derived.Test.YtioehfhdoohdmaaGreatDoorDf
import Derived.Test.YtioehfhdoohdmaaGreatDoorCloneA
set_option linter.unusedVariables false
set_option linter.unusedSimpArgs false
namespace Go.Proofs.YtioehfhdoohdmaaGreatDoor
open Go.RowKit Go.Shelf Go.Sort
abbrev iV (l:List Int):List Value:=l.map (Value.int .i64)
theorem own_take {W:World}{base:Nat}{e:TypeId}{o:Option Addr}{n c k:Nat}{xs:List Value}(h:W.ownsRow base e 1 (.slice o n c) n xs) (hk:k≤n) (hn:o≠none):W.ownsRow base e 1 (.slice o k c) k (xs.take k):=by
 obtain⟨hl,h⟩:=h
 rcases h with ⟨hv,_⟩ | ⟨g,cap,cur,hv,h0,hg,h1,h2,h3,h4⟩
 ·simp only[Value.slice.injEq] at hv;exact absurd hv.1 hn
 ·simp only[Value.slice.injEq] at hv
  obtain⟨rfl,_,rfl⟩:=hv
  refine⟨by rw[List.length_take,hl];omega,Or.inr ⟨g,c,cur,rfl,h0,hg,by omega,h2,h3,?_⟩⟩
  rw[←h4,List.take_take]
  congr 1
  omega
theorem iV_at {W:World}{o:Option Addr}{l:List Int}(h:Rd W o (iV l)) {g off:Nat}(ho:o=some ⟨g,off,none⟩):∀j,j<l.length→W.cell? ⟨g,off+j,none⟩=some (.int .i64 (l.getD j 0)):=fun j hj=>by
 obtain⟨g',off',ho',hc⟩:=h j (.int .i64 (l.getD j 0)) (by rw[List.getElem?_map,List.getElem?_eq_getElem hj];simp[List.getD_eq_getElem?_getD,List.getElem?_eq_getElem hj])
 obtain⟨rfl,rfl⟩:=same_at (ho.symm.trans ho')
 exact hc
theorem iV_some {W:World}{o:Option Addr}{l:List Int}(h:Rd W o (iV l)) (hl:l≠[]):∃g off,o=some ⟨g,off,none⟩:=by
 cases l with
 | nil=>exact absurd rfl hl
 | cons x t=>obtain⟨g,off,ho,_⟩:=h 0 (.int .i64 x) rfl;exact⟨g,off,ho⟩
theorem containsI_any (o:Option Addr) (c:Nat) (l:List Int) (x:Int) (W:World) (h:Rd W o (iV l)) (hn:l.length≤1048576):Calls Tryz.prog 54 #[.slice o l.length c,.int .i64 x] W fun e w'=>e=.returned (.bool (l.contains x))∧W=w':=by
 by_cases hl:l=[]
 ·subst hl
  exact (Tryz.slices_Contains_int_empty o c x W).mono fun e w' hh=>⟨hh.1,hh.2.symm⟩
 ·obtain⟨g,off,rfl⟩:=iV_some h hl
  refine (Tryz.slices_Contains_int g off l.length c l x W (Nat.le_refl _) (by omega) (iV_at h rfl)).mono fun e w' hh=>⟨?_,hh.2.symm⟩
  rw[hh.1,List.take_length]
theorem cloneI_any (o:Option Addr) (c:Nat) (l:List Int) (W:World) (h:Rd W o (iV l)) (hn:l.length≤1048576) (ho:o≠none) (hs:∀a,o=some a→a.spot=none):Calls Tryz.prog 59 #[.slice o l.length c] W fun e w'=>∃g cap,e=.returned (.slice (some ⟨g,0,none⟩) l.length cap)∧w'.ownsRow W.heap.size 3 1 (.slice (some ⟨g,0,none⟩) l.length cap) l.length (iV l)∧Below W.heap.size W w':=by
 have form:∀(w':World) (v:Value),v≠.slice none 0 0→w'.ownsRow W.heap.size 3 1 v l.length (iV l)→∃g cap,v=.slice (some ⟨g,0,none⟩) l.length cap:=fun w' v hv hw=>by
  rcases hw.2 with ⟨e,_⟩ | ⟨g,cap,cur,e,_⟩
  ·exact absurd e hv
  ·exact⟨g,cap,e⟩
 by_cases hl:l=[]
 ·subst hl
  cases o with
  | none=>exact absurd rfl ho
  | some a=>
   refine (Tryz.slices_Clone_int_zero a c W).mono fun e w' hh=>?_
   obtain⟨v,rfl,h1,h2,h3⟩:=hh
   obtain⟨g,cap,rfl⟩:=form w' v h2 h1
   exact⟨g,cap,rfl,h1,h3⟩
 ·obtain⟨g,off,rfl⟩:=iV_some h hl
  refine (Tryz.slices_Clone_int g off l.length c l W (Nat.le_refl _) (by omega) (iV_at h rfl)).mono fun e w' hh=>?_
  obtain⟨v,rfl,h1,h2,h3⟩:=hh
  rw[List.take_length] at h1
  obtain⟨g,cap,rfl⟩:=form w' v h2 h1
  exact⟨g,cap,rfl,h1,h3⟩
theorem meet1_gives (p:Option Addr) (d:Nat) (m:List Int) (bx:Nat) (x:Int) (W:World) (hb:W.cell? ⟨bx,0,none⟩=some (.slice p m.length d)) (hm:Rd W p (iV m)) (hn:m.length≤1048576):FnGives Tryz.prog 91 #[.pointer (some ⟨bx,0,none⟩)] #[.int .i64 x] (.bool (!m.contains x)) W:=by
 show Calls Tryz.prog 91 #[.int .i64 x,.pointer (some ⟨bx,0,none⟩)] W _
 obtain⟨B,hB⟩:∃B,m.contains x=B:=⟨_,rfl⟩
 have hc:=containsI_any p d m x W hm hn
 rw[hB] at hc ⊢
 have HC:=Lib.hid hc
 clear hm hc hB
 go_enter Tryz.func91,Tryz.ntmps91
 go_wp2_with fail
 (with_reducible refine Calls.mono HC.out ?_)
 rintro e w' ⟨rfl,rfl⟩
 go_wp2_with fail
 go_ret
 exact⟨rfl,0,rfl⟩
theorem Rd.mono {W W':World}{o:Option Addr}{xs:List Value}(h:Rd W o xs) (hc:∀a v,W.cell? a=some v→(∃b,o=some b∧a.block=b.block)→W'.cell? a=some v):Rd W' o xs:=fun j u hj=>by
 obtain⟨g,off,ho,hcell⟩:=h j u hj
 exact⟨g,off,ho,hc _ _ hcell ⟨_,ho,rfl⟩⟩
theorem enter_meet1:∀args w,(callFunc 91 args).run Tryz.prog w=.ok (.enter 91 args) w:=enters_of Tryz.func91 (by kernel_rfl) rfl
def MeetPost (W:World) (r:List Int) (e:Ending) (w':World):Prop:=∃g cap,e=.returned (.slice (some ⟨g,0,none⟩) r.length cap)∧w'.ownsRow W.heap.size 3 1 (.slice (some ⟨g,0,none⟩) r.length cap) r.length (iV r)∧Below W.heap.size W w'
theorem delete_any (l m:List Int) (g cap bx:Nat) (p:Option Addr) (d base:Nat) (W:World) (hown:W.ownsRow base 3 1 (.slice (some ⟨g,0,none⟩) l.length cap) l.length (iV l)) (hb:W.cell? ⟨bx,0,none⟩=some (.slice p m.length d)) (hbx:bx≠g) (hm:Rd W p (iV m)) (hpg:∀a,p=some a→a.block≠g) (hl:l.length≤1048576) (hn:m.length≤1048576) (hbase:base≤g) :
 Calls Tryz.prog 90 #[.slice (some ⟨g,0,none⟩) l.length cap,.func (.func 91) #[] #[.pointer (some ⟨bx,0,none⟩)]] W fun e w'=>e=.returned (.slice (some ⟨g,0,none⟩) (l.filter fun x=>m.contains x).length cap)∧w'.ownsRow base 3 1 (.slice (some ⟨g,0,none⟩) (l.filter fun x=>m.contains x).length cap) (l.filter fun x=>m.contains x).length (iV (l.filter fun x=>m.contains x))∧Keep (fun k=>k=g) W w':=by
 obtain⟨hlen,⟨hv,_⟩ | ⟨g',cap',cur,hv,h0,hg,h1,h2,h3,h4⟩⟩:=hown
 ·simp at hv
 simp only[Value.slice.injEq,Option.some.injEq,Addr.mk.injEq,true_and,and_true] at hv
 obtain⟨rfl,rfl⟩:=hv
 have hH:Holds (Value.int .i64) W g 0 l.toArray:=holds_of_blockI hg (by simpa using h4)
 have hlt:=lt_of_block hg
 have bxlt:=cell_lt hb
 have hp:PredAt Tryz.prog 91 #[.pointer (some ⟨bx,0,none⟩)] (Value.int .i64) (fun x=>!m.contains x) W:=fun W1 x hB=>meet1_gives p d m bx x W1 (cell_bel hB hb) (hm.below hB) hn
 have hcell:∀(n:Nat) (os:Array Obj) (dk:Array Int) (a:Addr) (v:Value),W.cell? a=some v→a.block≠g→(sortWorld (Value.int .i64) W g 0 n dk os).cell? a=some v:=fun n os dk a v hc ha=>by
  unfold sortWorld
  rw[cell?_grow _ _ _ (by show a.block<(putRow _ _ _ _ _).heap.size;rw[size_putRow];exact cell_lt hc),cell?_putRow_other _ _ g 0 _ _ (Or.inl ha)]
  exact hc
 have hpo:PredOver Tryz.prog 91 #[.pointer (some ⟨bx,0,none⟩)] (Value.int .i64) (fun x=>!m.contains x) g 0 l.toArray.size W:=fun n os dk x _=>meet1_gives p d m bx x _ (hcell _ _ _ _ _ hb hbx) (hm.mono (fun a v hc ⟨b,hb3,hb4⟩=>hcell _ _ _ _ _ hc (by rw[hb4];exact hpg b hb3))) hn
 have h:=AnyE.slices_DeleteFunc (P:=Tryz.prog) (ρ:=Tryz.lDf_ren) Tryz.lDf (Value.int .i64) (fun x=>rfl) (fun x=>!m.contains x) 91 #[.pointer (some ⟨bx,0,none⟩)] enter_meet1 0 (fun w=>by kernel_rfl) g 0 cap l.toArray W hp hpo hH (by simp;omega) (by simpa using h1)
 have hsz:l.toArray.size=l.length:=by simp
 simp only[hsz,Bool.not_not] at h
 refine Calls.mono (show Calls Tryz.prog 90 _ W _ from h) ?_
 rintro e w' ⟨rfl,q,rfl⟩
 have hfl:(l.filter fun x=>m.contains x).length≤l.length:=List.length_filter_le _ _
 have hts:((l.filter fun x=>m.contains x)++List.replicate (l.length - (l.filter fun x=>m.contains x).length) 0).length=l.length:=by rw[List.length_append,List.length_replicate];omega
 have ho:=ownsRow_sortedI (os:=#[]) (n:=q) hts h0 hg h1 h2 h3
 rw[grow_empty] at ho
 refine⟨rfl,?_,?_⟩
 ·have ho2:=own_take ho hfl (by simp)
  have e:(iV ((l.filter fun x=>m.contains x)++List.replicate (l.length - (l.filter fun x=>m.contains x).length) 0)).take (l.filter fun x=>m.contains x).length=iV (l.filter fun x=>m.contains x):=by
   rw[iV,List.map_append]
   exact List.take_left' (by rw[List.length_map])
  rw[e] at ho2
  exact ho2
 ·have:=grownBy_sortedI (w:=W) (g:=g) (n:=q) (os:=#[]) ((l.filter fun x=>m.contains x)++List.replicate (l.length - (l.filter fun x=>m.contains x).length) 0).toArray
  rw[grow_empty] at this
  exact Keep.of_grown this (fun k hk=>(Option.some.inj hk).symm)
theorem meet_any (o p:Option Addr) (c d:Nat) (l m:List Int) (W:World) (hl:Rd W o (iV l)) (ho:o≠none) (hs:∀a,o=some a→a.spot=none) (hm:Rd W p (iV m)) (hn:l.length≤1048576) (hn2:m.length≤1048576) (hp:∀a,p=some a→a.block<W.heap.size) :
 Calls Tryz.prog 52 #[.slice o l.length c,.slice p m.length d] W (MeetPost W (l.filter fun x=>m.contains x)):=by
 have hB:Below W.heap.size W (W.alloc (.cells #[.slice p m.length d] 40)):=(Below.refl _ W).alloc (Nat.le_refl _) _
 have hc0:=(Blk.new' W #[.slice p m.length d] 40).cell 0
 have hsz:(W.alloc (.cells #[.slice p m.length d] 40)).heap.size=W.heap.size+1:=by simp
 obtain⟨W1,hW1⟩:∃W1,W.alloc (.cells #[.slice p m.length d] 40)=W1:=⟨_,rfl⟩
 rw[hW1] at hB hc0 hsz
 have HW:=Lib.hid hW1
 have HB:=Lib.hid hB
 have HC:=Lib.hid (cloneI_any o c l W1 (hl.below hB) hn ho hs)
 have HSz:=Lib.hid hsz
 have HD:Hid (∀(w2:World) (g cap:Nat),Below W1.heap.size W1 w2→w2.ownsRow W1.heap.size 3 1 (.slice (some ⟨g,0,none⟩) l.length cap) l.length (iV l)→Calls Tryz.prog 90 #[.slice (some ⟨g,0,none⟩) l.length cap,.func (.func 91) #[] #[.pointer (some ⟨W.heap.size,0,none⟩)]] w2 (MeetPost W (l.filter fun x=>m.contains x))):=Lib.hid fun w2 g cap hb hw=>by
  have hg:W1.heap.size≤g:=by
   rcases hw.2 with ⟨e,_⟩ | ⟨g',cap',cur,e,h0,_⟩
   ·simp at e
   ·simp only[Value.slice.injEq,Option.some.injEq,Addr.mk.injEq,true_and,and_true] at e
    obtain⟨rfl,rfl⟩:=e
    exact h0
  refine (delete_any l m g cap W.heap.size p d W.heap.size w2 (own_base hw (by omega)) (cell_bel hb hc0) (by omega) ((hm.below hB).below hb) (fun a ha=>by have:=hp a ha;omega) hn hn2 (by omega)).mono fun e w' hh=>?_
  obtain⟨rfl,h1,h2⟩:=hh
  exact⟨g,cap,rfl,h1,(hB.trans (hb.mono hB.size)).trans (h2.below (fun k hk=>⟨by have:=hb.size;omega,by omega⟩))⟩
 clear hW1 hB hc0 hsz hl ho hs hm hp
 generalize (l.filter fun x=>m.contains x)=r at *
 go_enter Tryz.func52,Tryz.ntmps52
 go_wp2_with fail
 rw[HW.out]
 (with_reducible refine Calls.mono HC.out ?_)
 rintro e w2 ⟨g,cap,rfl,hw,hb⟩
 have HD2:=Lib.hid (HD.out w2 g cap hb hw)
 clear hw hb HD HC
 go_wp2_with fail
 (with_reducible refine Calls.mono HD2.out ?_)
 rintro e w' ⟨g',cap',rfl,h⟩
 have H:=Lib.hid h
 clear h HD2
 go_wp2_with fail
 go_ret
 exact⟨g',cap',rfl,H.out⟩
theorem info_int:(Tryz.prog.info? 3).map (fun i=>(i.zero,i.size,i.bytes))=some (some (.int .i64 0),1,8):=by kernel_rfl
set_option maxRecDepth 100000 in
set_option maxHeartbeats 4000000 in
theorem clipInt2_any (o:Option Addr) (n c:Nat) (W:World) (hc:n≤c) (hm:c≤maxLen):Calls Tryz.prog 134 #[.slice o n c] W fun e w'=>e=.returned (.slice o n n)∧W=w':=by
 have hnm:n≤maxLen:=Nat.le_trans hc hm
 unfold maxLen at hm hnm
 have n0:(0:Int)≤(n:Int):=Int.natCast_nonneg _
 have n1:(n:Int)≤(c:Int):=by omega
 go_enter Tryz.func134,Tryz.ntmps134
 go_wp2_with fail
 go_ret
 exact⟨rfl,rfl⟩
end Go.Proofs.YtioehfhdoohdmaaGreatDoor
namespace Go.Proofs.YtioehfhdoohdmaaGreatDoor
open Go.RowKit Go.Shelf
theorem drewN_below (W:World) (n:Nat):Below W.heap.size W (W.drewN n):=⟨rfl,rfl,rfl,Nat.le_refl _,fun _ _=>rfl⟩
theorem Rd.drewN {W:World}{o:Option Addr}{xs:List Value}(h:Rd W o xs) (n:Nat):Rd (W.drewN n) o xs:=h
theorem iV_row {W:World}{o:Option Addr}{l:List Int}(h:Rd W o (iV l)) {i:Nat}(hi:i<l.length):∃g off,o=some ⟨g,off,none⟩∧W.cell? ⟨g,off+i,none⟩=some (.int .i64 l[i]):=by
 obtain⟨g,off,ho,hc⟩:=h i (.int .i64 l[i]) (by rw[List.getElem?_map,List.getElem?_eq_getElem hi];rfl)
 exact⟨g,off,ho,hc⟩
theorem drop_eq_step {l m:List Int}{i:Nat}{R:Bool}(hi:i<l.length) (hm:i<m.length) (H:(l.drop i == m.drop i)=R):((l[i] == m[i]) && (l.drop (i+1) == m.drop (i+1)))=R:=by
 rw[List.drop_eq_getElem_cons hi,List.drop_eq_getElem_cons hm] at H
 rw[←H];rfl
set_option maxRecDepth 100000 in
set_option maxHeartbeats 2000000 in
theorem sameI_any (o p:Option Addr) (c d:Nat) (l m:List Int) (W:World) (hl:Rd W o (iV l)) (hm:Rd W p (iV m)) (zl:l.length≤1048576) (zm:m.length≤1048576) :
 Calls Tryz.prog 16 #[.slice o l.length c,.slice p m.length d] W fun e w'=>e=.returned (.bool (l == m))∧∃k,w'=W.drewN k:=by
 obtain⟨R,hR⟩:∃R,(l == m)=R:=⟨_,rfl⟩
 rw[hR]
 have HR:=Lib.hid hR
 have HL:=Lib.hid hl
 have HM:=Lib.hid hm
 clear hR hl hm
 by_cases hn:l.length=m.length
 ·have hd:((l.length:Int) != (m.length:Int))=false:=by simp[hn]
  have H0:Hid ((l.drop 0 == m.drop 0)=R):=HR
  have HN:=Lib.hid hn
  clear HR
  rw[HN.out] at zl ⊢
  clear hd hn
  go_enter Tryz.func16,Tryz.ntmps16
  go_wp2_with fail
  go_loopw [5] (fun v5 wr=>∃i:Nat,v5=.int .i64 i∧i≤m.length∧Hid ((l.drop i == m.drop i)=R)∧∃k,wr=W.drewN k) (fun v5 _=>m.length - (intOf v5).toNat)
  case atStart=>exact⟨0,rfl,Nat.zero_le _,H0,0,rfl⟩
  case round=>
   clear H0
   obtain⟨i,rfl,hi,HD,k,rfl⟩:=hrel
   have i0:(0:Int)≤(i:Int):=Int.natCast_nonneg _
   by_cases hlt:i<m.length
   ·have i1:(i:Int)<(m.length:Int):=by omega
    have hl':i<l.length:=by rw[HN.out];exact hlt
    obtain⟨g,off,rfl,q1⟩:=iV_row (HL.out.drewN k) hl'
    obtain⟨g',off',rfl,q2⟩:=iV_row (HM.out.drewN k) hlt
    have hs:=drop_eq_step hl' hlt HD.out
    generalize l[i]=x at *
    generalize m[i]=y at *
    by_cases hxy:x=y
    ·subst hxy
     have HD2:Hid ((l.drop (i+1) == m.drop (i+1))=R):=Lib.hid (by rw[←hs];simp)
     simp only[World.cell?_drewN] at q1 q2
     clear hs hl' HD
     go_wp2_with fail
     go_quiet (fail)
     go_wp2_with fail
     exact⟨⟨i+1,by go_num,by omega,HD2,_,by first | rfl | exact World.drewN_drewN _ _ _⟩,by simp[intOf];omega⟩
    ·have hne:(x != y)=true:=by simpa using hxy
     have HE:Hid (R=false):=Lib.hid (by rw[←hs];simp[hxy])
     simp only[World.cell?_drewN] at q1 q2
     clear hs hl' HD
     go_wp2_with fail
     go_quiet (fail)
     go_wp2_with fail
     go_ret
     exact⟨by rw[HE.out] <;> rfl,_,by first | rfl | exact World.drewN_drewN _ _ _⟩
   ·obtain rfl:i=m.length:=by omega
    have HE:Hid (R=true):=Lib.hid (by rw[←HD.out,List.drop_of_length_le (by rw[HN.out];exact Nat.le_refl _),List.drop_of_length_le (Nat.le_refl _)];rfl)
    clear hi hlt i0 HD
    go_wp2_with fail
    go_ret
    exact⟨by rw[HE.out] <;> rfl,k,rfl⟩
 ·have hne:((l.length:Int) != (m.length:Int))=true:=by
   have:¬ ((l.length:Int)=(m.length:Int)):=by omega
   simpa using this
  have HE:Hid (R=false):=Lib.hid (by rw[←HR.out];cases e:(l == m) with | false=>rfl | true=>exact absurd (congrArg List.length (eq_of_beq e)) hn)
  clear HR
  go_enter Tryz.func16,Tryz.ntmps16
  go_wp2_with fail
  go_ret
  exact⟨by rw[HE.out] <;> rfl,0,rfl⟩
end Go.Proofs.YtioehfhdoohdmaaGreatDoor
