/- Of SameI: what only Joins, Pieces and Stops name. -/
import Derived.Test.YtioehfhdoohdmaaGreatDoorMeetA
set_option linter.unusedVariables false
set_option linter.unusedSimpArgs false
namespace Go.Proofs.YtioehfhdoohdmaaGreatDoor
open Go.RowKit Go.Shelf
def inAll (l m:List Int):Bool:=l.all fun n=>m.contains n
theorem drop_all_step {l m:List Int}{i:Nat}{R:Bool}(hi:i<l.length) (H:inAll (l.drop i) m=R):(m.contains l[i] && inAll (l.drop (i+1)) m)=R:=by
 rw[List.drop_eq_getElem_cons hi] at H
 rw[←H];rfl
theorem drop_has_step {m:List Int}{j:Nat}{x:Int}{R:Bool}(hj:j<m.length) (H:(m.drop j).contains x=R):((m[j] == x) || (m.drop (j+1)).contains x)=R:=by
 rw[List.drop_eq_getElem_cons hj,List.contains_cons] at H
 rw[←H,Bool.beq_comm]
set_option maxRecDepth 100000 in
set_option maxHeartbeats 2000000 in
theorem within14_any (o p:Option Addr) (c d:Nat) (l m:List Int) (W:World) (hl:Rd W o (iV l)) (hm:Rd W p (iV m)) (zl:l.length≤1048576) (zm:m.length≤1048576) :
 Calls Tryz.prog 33 #[.slice o l.length c,.slice p m.length d] W fun e w'=>e=.returned (.bool (inAll l m))∧∃k,w'=W.drewN k:=by
 obtain⟨R,hR⟩:∃R,inAll l m=R:=⟨_,rfl⟩
 rw[hR]
 have H0:Hid (inAll (l.drop 0) m=R):=Lib.hid hR
 have HL:=Lib.hid hl
 have HM:=Lib.hid hm
 clear hR hl hm
 go_enter Tryz.func33,Tryz.ntmps33
 go_wp2_with fail
 go_loopw [5] (fun v5 wr=>∃i:Nat,v5=.int .i64 i∧i≤l.length∧Hid (inAll (l.drop i) m=R)∧∃k,wr=W.drewN k) (fun v5 _=>l.length - (intOf v5).toNat)
 case atStart=>exact⟨0,rfl,Nat.zero_le _,H0,0,rfl⟩
 case round=>
  clear H0
  obtain⟨i,rfl,hi,HD,k,rfl⟩:=hrel
  have i0:(0:Int)≤(i:Int):=Int.natCast_nonneg _
  by_cases hlt:i<l.length
  ·have i1:(i:Int)<(l.length:Int):=by omega
   have hs:=Lib.hid (drop_all_step hlt HD.out)
   have hrow:∀k,∃g off,o=some ⟨g,off,none⟩∧(W.drewN k).cell? ⟨g,off+i,none⟩=some (.int .i64 l[i]):=fun k=>iV_row (HL.out.drewN k) hlt
   have hx:Hid ((m.drop 0).contains l[i]=m.contains l[i]):=Lib.hid rfl
   clear HD
   obtain⟨x,hx0⟩:∃x,l[i]=x:=⟨_,rfl⟩
   rw[hx0] at hs hrow hx
   clear hx0
   obtain⟨q,hq⟩:∃q,m.contains x=q:=⟨_,rfl⟩
   rw[hq] at hs hx
   have HRow:=Lib.hid hrow
   clear hq hrow
   go_wp2_with fail
   go_loopw [6] (fun v6 wr=>∃j:Nat,v6=.int .i64 j∧j≤m.length∧Hid ((m.drop j).contains x=q)∧∃k,wr=W.drewN k) (fun v6 _=>m.length - (intOf v6).toNat)
   case atStart=>exact⟨0,rfl,Nat.zero_le _,hx,k,rfl⟩
   case round=>
    clear hx k
    obtain⟨j,rfl,hj,HX,k,rfl⟩:=hrel
    have j0:(0:Int)≤(j:Int):=Int.natCast_nonneg _
    by_cases hjl:j<m.length
    ·have j1:(j:Int)<(m.length:Int):=by omega
     have hjs:=drop_has_step hjl HX.out
     obtain⟨g,off,rfl,q1⟩:=HRow.out k
     obtain⟨g',off',rfl,q2⟩:=iV_row (HM.out.drewN k) hjl
     generalize m[j]=y at *
     simp only[World.cell?_drewN] at q1 q2
     by_cases hxy:y=x
     ·subst hxy
      have HE:Hid (q=true):=Lib.hid (by rw[←hjs];simp)
      have hjm:((j:Int) == (m.length:Int))=false:=by rw[beq_eq_false_iff_ne];omega
      have HR2:Hid (inAll (l.drop (i+1)) m=R):=Lib.hid (by have:=hs.out;rw[HE.out] at this;simpa using this)
      clear hs hjs HX HE
      go_wp2_with fail
      go_quiet (fail)
      go_wp2_with fail
      exact⟨⟨i+1,by go_num,by omega,HR2,_,by first | rfl | exact World.drewN_drewN _ _ _⟩,by simp[intOf];omega⟩
     ·have hne:(y != x)=true:=by simpa using hxy
      have HX2:Hid ((m.drop (j+1)).contains x=q):=Lib.hid (by rw[←hjs];simp[hxy])
      clear hs hjs HX
      go_wp2_with fail
      go_quiet (fail)
      go_wp2_with fail
      exact⟨⟨j+1,by go_num,by omega,HX2,_,by first | rfl | exact World.drewN_drewN _ _ _⟩,by simp[intOf];omega⟩
    ·obtain rfl:j=m.length:=by omega
     have HE:Hid (q=false):=Lib.hid (by rw[←HX.out,List.drop_of_length_le (Nat.le_refl _)];rfl)
     have HR2:Hid (R=false):=Lib.hid (by have:=hs.out;rw[HE.out] at this;simpa using this.symm)
     clear hs HX HE hj hjl
     go_wp2_with fail
     go_quiet (fail)
     go_wp2_with fail
     go_ret
     exact⟨by rw[HR2.out] <;> rfl,_,by first | rfl | exact World.drewN_drewN _ _ _⟩
  ·obtain rfl:i=l.length:=by omega
   have HE:Hid (R=true):=Lib.hid (by rw[←HD.out,List.drop_of_length_le (Nat.le_refl _)];rfl)
   clear hi hlt i0 HD
   go_wp2_with fail
   go_ret
   exact⟨by rw[HE.out] <;> rfl,k,rfl⟩
end Go.Proofs.YtioehfhdoohdmaaGreatDoor
