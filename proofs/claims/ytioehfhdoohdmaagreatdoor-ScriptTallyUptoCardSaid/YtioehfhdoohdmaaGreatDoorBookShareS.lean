/- guisebook.Same and Stays over books of lists (guise/script.Share), walked. Printed by gen_book2.py. -/
import Derived.Test.YtioehfhdoohdmaaGreatDoorBookShare
import Derived.Deep.RegionHeld3
import Derived.WalkSmall
import Derived.BigQuiet
set_option linter.unusedVariables false
set_option linter.unusedSimpArgs false
namespace Go.Proofs.YtioehfhdoohdmaaGreatDoor.bookShare
open Go.RowKit Go.Shelf
theorem Own.drewN {W:World}{o:Option Addr}{c:Nat}{xs:List Cel}(h:Own W o c xs) (n:Nat):Own (W.drewN n) o c xs:=h.keep (fun _ _ _=>rfl)
set_option maxRecDepth 100000 in
set_option maxHeartbeats 2000000 in
theorem same_any (W:World) (o p:Option Addr) (c d:Nat) (xs:List Cel) (h1:Own W o c xs) (h2:Own W p d xs) :
 Calls Tryz.prog 39 #[.slice o xs.length c,.slice p xs.length d] W fun e w'=>e=.returned (.bool true)∧∃m,w'=W.drewN m:=by
 have hle:=h1.le
 have hmx:c≤9223372036854775807:=hle.2
 have hlx:=hle.1
 have H1:=Lib.hid h1
 have H2:=Lib.hid h2
 clear h1 h2 hle
 go_enter Tryz.func39,Tryz.ntmps39
 go_wp2_with fail
 go_loopw [5] (fun v5 wr=>∃i:Nat,v5=.int .i64 i∧i≤xs.length∧∃m,wr=W.drewN m) (fun v5 _=>xs.length - (intOf v5).toNat)
 case atStart=>exact⟨0,rfl,Nat.zero_le _,0,rfl⟩
 case round=>
  obtain⟨i,rfl,hi,m,rfl⟩:=hrel
  have i0:(0:Int)≤(i:Int):=Int.natCast_nonneg _
  by_cases hlt:i<xs.length
  ·have i1:(i:Int)<(xs.length:Int):=by omega
   obtain⟨g,rfl,hg,q1⟩:=(H1.out.drewN m).at_ hlt
   obtain⟨g',rfl,hg',q2⟩:=(H2.out.drewN m).at_ hlt
   have r0:=q1 0 (by omega)
   have r1:=q1 1 (by omega)
   have s0:=q2 0 (by omega)
   have s1:=q2 1 (by omega)
   simp only[cl,List.getElem?_cons_zero,List.getElem?_cons_succ,Nat.add_zero,Nat.mul_one,World.cell?_drewN] at r0 s0 r1 s1
   generalize xs[i]=x at *
   clear q1 q2
   go_wp2_with fail
   go_quiet (fail)
   go_wp2_with fail
   exact⟨⟨i+1,by go_num,by omega,_,rfl⟩,by simp[intOf];omega⟩
  ·obtain rfl:i=xs.length:=by omega
   clear hi hlt i0
   go_wp2_with fail
   go_ret
   exact⟨rfl,m,rfl⟩
end Go.Proofs.YtioehfhdoohdmaaGreatDoor.bookShare
