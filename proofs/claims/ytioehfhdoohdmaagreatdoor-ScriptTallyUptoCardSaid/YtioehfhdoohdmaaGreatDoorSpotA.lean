/- SpotA: SpotsT. -/
import Derived.RangeFuncNested
import Derived.RangeFuncBound
import Derived.RangeFuncCalls
import Derived.RangeFuncLeaves
import Derived.Shelf.Abstract
import Derived.Shelf.RegionOpen
import Derived.OwnWalkIn
import Derived.TacticsInMore
import Derived.LoopNIn
import Derived.LoopIn
import Derived.Test.YtioehfhdoohdmaaGreatDoorTabA
set_option linter.unusedVariables false
set_option linter.unusedSimpArgs false
namespace Go.Proofs.YtioehfhdoohdmaaGreatDoor
open Go.RowKit Go.Shelf
attribute [local go_sem] Oper.semAt_some
abbrev Pl (s:ByteArray):={ i:Nat // i<s.size }
def encS (s:ByteArray) (x:Pl s):Array Value:=#[.int .i64 x.1,.agg #[.int .i32 (Utf8.decode s x.1).1,.int .i64 (Utf8.decode s x.1).2,.bool (!goodAt s x.1)]]
def placesGo (s:ByteArray):Nat→Nat→List (Pl s)
 | 0,_=>[]
 | f+1,i=>if h:i<s.size then ⟨i,h⟩::placesGo s f (i+(Utf8.decode s i).2) else []
theorem places_fuel (s:ByteArray):∀d i f,s.size - i=d→d≤f→placesGo s f i=placesGo s d i:=by
 intro d
 induction d using Nat.strongRecOn with
 | _ d ih=>
  intro i f hd hf
  cases d with
  | zero=>
   cases f with
   | zero=>rfl
   | succ f=>show placesGo s (f+1) i=[];rw[placesGo,dif_neg (by omega)]
  | succ d=>
   obtain⟨f,rfl⟩:∃g,f=g+1:=⟨f - 1,by omega⟩
   have hw:=dec_width s i
   rw[placesGo,placesGo,dif_pos (by omega),dif_pos (by omega)]
   rw[ih (s.size - (i+(Utf8.decode s i).2)) (by omega) _ f rfl (by omega),ih (s.size - (i+(Utf8.decode s i).2)) (by omega) _ d rfl (by omega)]
def placesFrom (s:ByteArray) (i:Nat):List (Pl s):=placesGo s (s.size - i) i
def places (s:ByteArray):List (Pl s):=placesFrom s 0
theorem places_step {s:ByteArray}{i:Nat}(h:i<s.size):placesFrom s i=⟨i,h⟩::placesFrom s (i+(Utf8.decode s i).2):=by
 have hw:=dec_width s i
 rw[placesFrom,show s.size - i=(s.size - i - 1)+1 by omega,placesGo,dif_pos h,places_fuel s (s.size - (i+(Utf8.decode s i).2)) _ (s.size - i - 1) rfl (by omega)]
 rfl
theorem places_end {s:ByteArray}{i:Nat}(h:s.size≤i):placesFrom s i=[]:=by
 rw[placesFrom,show s.size - i=0 by omega];rfl
def KpS (nb:Nat) (s:ByteArray) (A B:World):Prop:=(A.cell? ⟨nb,0,none⟩=some (.string s)→B.cell? ⟨nb,0,none⟩=some (.string s))∧KeepsWalks A B
theorem enc_fffd:(Utf8.encode 65533).data.toList=[239,191,189]:=by decide +kernel
set_option maxRecDepth 100000 in
theorem spot_any (r n:Nat) (bad:Bool) (hb:bad=(decide (r=65533) && decide (n=1))) (w:World) :
 Calls Tryz.prog 61 #[.int .i32 r,.int .i64 n] w fun e w'=>e=.returned (.agg #[.int .i32 r,.int .i64 n,.bool bad])∧w.alloc (.cells #[.int .i32 r,.int .i64 n,.bool bad] 77)=w':=by
 by_cases hr:r=65533
 ·subst hr
  by_cases hn:n=1
  ·subst hn
   obtain rfl:bad=true:=by simpa using hb
   clear hb
   go_enter Tryz.func61,Tryz.ntmps61
   go_wp2
   exact bodyPost_ret (v:=.agg #[.int .i32 65533,.int .i64 1,.bool true]) (by simp[results,Tryz.results61,go_sem]) rfl ⟨rfl,rfl⟩
  ·obtain rfl:bad=false:=by simpa [hn] using hb
   clear hb
   have hn2:((n:Int) == 1)=false:=by simp;omega
   go_enter Tryz.func61,Tryz.ntmps61
   go_wp2
   exact bodyPost_ret (v:=.agg #[.int .i32 65533,.int .i64 n,.bool false]) (by simp[results,Tryz.results61,go_sem]) rfl ⟨rfl,rfl⟩
 ·obtain rfl:bad=false:=by simpa [hr] using hb
  clear hb
  have hr2:((r:Int) == 65533)=false:=by simp;omega
  go_enter Tryz.func61,Tryz.ntmps61
  go_wp2
  exact bodyPost_ret (v:=.agg #[.int .i32 r,.int .i64 n,.bool false]) (by simp[results,Tryz.results61,go_sem]) rfl ⟨rfl,rfl⟩
set_option maxRecDepth 100000 in
set_option maxHeartbeats 2000000 in
theorem spots1_in (n:Nat) (hn:1≤n) (l nb:Nat) (s:ByteArray) (hs:s.size≤140737488351232) (J Jx:List (Pl s)→World→Prop) (W:World) (hJ:AbidesFrom W.heap.size J)
 (hY:∀pre x W1,J pre W1→(∃r,places s=pre++x::r)→pre.length<s.size→YieldAt Fence.wide (n - 1) Tryz.prog l (encS s x) W1 fun e W'=>(e=.returned (.bool true)∧J (pre++[x]) W'∧KpS nb s W1 W')∨(e=.returned (.bool false)∧Jx (pre++[x]) W'))
 (hb:W.cell? ⟨nb,0,none⟩=some (.string s)) (h0:J [] W) :
 CallsIn Fence.wide n Tryz.prog 84 #[.func (.yield l) #[] #[],.pointer (some ⟨nb,0,none⟩)] W fun e W'=>(∃v,e=.returned v)∧((∃ys,ys=places s∧J ys W')∨(∃pre,pre <+: places s∧Jx pre W')):=by
 refine callsIn_of_wp Tryz.func84 rfl trivial ?_ rfl
 simp only[Tryz.ntmps84,List.size_toArray,List.length_cons,List.length_nil,Nat.reduceAdd,Nat.reduceSub,Array.replicate_succ,Array.replicate_zero,List.push_toArray,List.append_toArray,List.nil_append,List.cons_append]
 gi_wp2
 have hI0:=Itr.new W s 0
 have hb1:(W.iter s 0).cell? ⟨nb,0,none⟩=some (.string s):=(World.cell?_of_block (Below.heap_alloc W _ nb (World.block_lt_of_cell? W _ hb))).trans hb
 have hJ1:J [] (W.iter s 0):=hJ [] W (W.iter s 0) none h0 (World.grownBy_alloc W _ none) (fun r e=>by cases e)
 have hz1:W.heap.size<(W.iter s 0).heap.size:=hI0.lt
 generalize W.iter s 0=W0 at *
 gi_loopw [3] (fun _ wr=>∃(pre:List (Pl s)) (i:Nat),Hid (pre++placesFrom s i=places s)∧i≤s.size∧pre.length≤i∧J pre wr∧Itr wr W.heap.size s i∧wr.cell? ⟨nb,0,none⟩=some (.string s)) (fun _ wr=>s.size - wr.iterPos W.heap.size)
 case atStart=>exact⟨[],0,Lib.hid rfl,by omega,by simp,hJ1,hI0,hb1⟩
 case round=>
  obtain⟨pre,i,Hpre,hi,hlen,hJs,hit,hbx⟩:=hrel
  have hpos:wr.iterPos W.heap.size=i:=by
   unfold World.iterPos;rw[show wr.heap[W.heap.size]?=_ from hit]
  by_cases hlt:i<s.size
  ·have hn':=fun ty=>Lib.run_next_any_at (P:=Tryz.prog) wr _ _ _ ty hit hlt
   have hw:=dec_width s i
   have hf:=dec_fits hlt
   have hrb:=dec_rune s i
   have Hpl:=Lib.hid (places_step hlt)
   have hJ2:J pre (wr.iterAt W.heap.size s (i+(Utf8.decode s i).2)):=hJ pre wr _ (some W.heap.size) hJs ⟨rfl,rfl,rfl,by rw[Lib.iterAt_size];exact Nat.le_refl _,fun k _ hk=>Lib.iterAt_other _ _ _ _ _ (fun e=>hk (by rw[e]))⟩ (fun r e=>by cases e;exact⟨Nat.le_refl _,_,hit,rfl⟩)
   have hit2:=hit.at (i+(Utf8.decode s i).2)
   have hbx2:(wr.iterAt W.heap.size s (i+(Utf8.decode s i).2)).cell? ⟨nb,0,none⟩=some (.string s):=(World.cell?_of_block (Lib.iterAt_other _ _ _ _ _ (fun e=>by
    rw[show nb=W.heap.size from e] at hbx
    simp[World.cell?,show wr.heap[W.heap.size]?=_ from hit] at hbx))).trans hbx
   have hJ3:∀o,J pre ((wr.iterAt W.heap.size s (i+(Utf8.decode s i).2)).alloc o):=fun o=>hJ pre _ _ none hJ2 (World.grownBy_alloc _ o none) (fun r e=>by cases e)
   obtain⟨fn,tmps,assign,body,hy,hR⟩:=hY pre ⟨i,hlt⟩ _ (hJ3 (.cells #[.int .i32 (Utf8.decode s i).1,.int .i64 (Utf8.decode s i).2,.bool (!goodAt s i)] 77)) ⟨_,by rw[←Hpre.out,Hpl.out]⟩ (by omega)
   simp only[encS] at hy hR
   have hlenR:goodAt s i=true→Lib.runeLen (Utf8.decode s i).1=(Utf8.decode s i).2:=runeLen_dec hlt
   have hbad:goodAt s i=false→(Utf8.decode s i).1=65533∧(Utf8.decode s i).2=1:=fun h=>⟨bad_rune hlt h,by
    have:=false_iff_of h good_iff;omega⟩
   have hpf:(Utf8.decode s i).1=65533→Lib.hasPrefix (s.extract i s.size).data.toList [239,191,189]=goodAt s i:=fffd_prefix hlt
   generalize hR':(Utf8.decode s i).1=R at *
   generalize hK':(Utf8.decode s i).2=K at *
   generalize hg:goodAt s i=g at *
   have Hr:=Lib.hid hR'
   have Hk:=Lib.hid hK'
   have Hg:=Lib.hid hg
   clear hR' hK' hg
   clear hY h0 hb hJ hJ1 hI0 hb1 hJ3 hJ2 hJs hz1
   have hit3:=hit2.alloc (.cells #[.int .i32 R,.int .i64 K,.bool (!g)] 77)
   have hbx3:((wr.iterAt W.heap.size s (i+K)).alloc (.cells #[.int .i32 R,.int .i64 K,.bool (!g)] 77)).cell? ⟨nb,0,none⟩=some (.string s):=(World.cell?_of_block (Below.heap_alloc _ _ nb (World.block_lt_of_cell? _ _ hbx2))).trans hbx2
   have fin:∀(e:Ending) W',e=Ending.returned (Value.bool true)∧J (pre++[⟨i,hlt⟩]) W'∧KpS nb s ((wr.iterAt W.heap.size s (i+K)).alloc (.cells #[.int .i32 R,.int .i64 K,.bool (!g)] 77)) W'→((pre++[⟨i,hlt⟩])++placesFrom s (i+K)=places s∧Itr W' W.heap.size s (i+K)∧W'.cell? ⟨nb,0,none⟩=some (.string s)):=by
    rintro e W' ⟨_,_,hk1,hk2⟩
    refine⟨by rw[←Hpre.out,Hpl.out];simp,hk2.same _ _ hit3 rfl,hk1 hbx3⟩
   have Fin:=Lib.hid fin
   have Hit3:=Lib.hid hit3
   have Hbx3:=Lib.hid hbx3
   clear fin hit3 hbx3 hit2
   cases g with
   | false=>
    obtain⟨rfl,rfl⟩:=hbad rfl
    have hpf':=hpf rfl
    have Hpf:=Lib.hid hpf'
    clear hpf hpf' hlenR hbad
    simp only[Bool.not_false,Int.cast_ofNat_Int] at hy hR Fin
    gi_wp2_with (first | (refine⟨trivial,?_⟩;gi_at_call 85;refine (callsIn_wide.2 (runeLen_any 65533 _)).mono ?_;rintro e w3 ⟨rfl,rfl⟩) | (refine⟨trivial,?_⟩;gi_at_call 86;refine (callsIn_wide.2 (Tryz.strings_HasPrefix _ _ _)).mono ?_;rintro e w' ⟨rfl,rfl⟩;rw[enc_fffd,Hpf.out]) | (refine⟨trivial,?_⟩;gi_at_call 61;refine (callsIn_wide.2 (spot_any 65533 1 true (by simp) _)).mono ?_;rintro e w' ⟨rfl,rfl⟩))
    refine hR.mono ?_
    rintro e W3 (hh | ⟨rfl,hJx3⟩)
    ·obtain⟨f1,f2,f3⟩:=Fin.out e W3 hh
     obtain⟨rfl,hJ3,hk3⟩:=hh
     gi_wp2
     go_roundw
     case rel=>exact⟨pre++[⟨i,hlt⟩],i+1,Lib.hid f1,by omega,by simp;omega,hJ3,f2,f3⟩
     case measure=>rw[hpos,show W3.iterPos W.heap.size=i+1 by unfold World.iterPos;rw[show W3.heap[W.heap.size]?=_ from f2]];omega
    ·gi_wp2
     refine bodyPost_ret (results_none rfl _ _ _) rfl ?_
     exact⟨⟨_,rfl⟩,.inr ⟨_,⟨placesFrom s (i+1),by rw[←Hpre.out,Hpl.out];simp⟩,hJx3⟩⟩
   | true=>
    have hl':=hlenR rfl
    have Hl:=Lib.hid hl'
    simp only[Bool.not_true] at hy hR Fin
    clear hl' hlenR hbad
    by_cases h65:R=65533
    ·subst h65
     have hpf':=hpf rfl
     have Hpf:=Lib.hid hpf'
     have Hb:Hid (false=(decide (65533=65533) && decide (K=1))):=by
      have hk3:K=3:=by have:=Hl.out;simp[Lib.runeLen] at this;omega
      subst hk3;rfl
     clear hpf hpf'
     simp only[Int.cast_ofNat_Int] at hy hR Fin
     gi_wp2_with (first | (refine⟨trivial,?_⟩;gi_at_call 85;refine (callsIn_wide.2 (runeLen_any 65533 _)).mono ?_;rintro e w3 ⟨rfl,rfl⟩;rw[Hl.out]) | (refine⟨trivial,?_⟩;gi_at_call 86;refine (callsIn_wide.2 (Tryz.strings_HasPrefix _ _ _)).mono ?_;rintro e w' ⟨rfl,rfl⟩;rw[enc_fffd,Hpf.out]) | (refine⟨trivial,?_⟩;gi_at_call 61;refine (callsIn_wide.2 (spot_any 65533 K false Hb.out _)).mono ?_;rintro e w' ⟨rfl,rfl⟩))
     refine hR.mono ?_
     rintro e W3 (hh | ⟨rfl,hJx3⟩)
     ·obtain⟨f1,f2,f3⟩:=Fin.out e W3 hh
      obtain⟨rfl,hJ3,hk3⟩:=hh
      gi_wp2
      go_roundw
      case rel=>exact⟨pre++[⟨i,hlt⟩],i+K,Lib.hid f1,by omega,by simp;omega,hJ3,f2,f3⟩
      case measure=>rw[hpos,show W3.iterPos W.heap.size=i+K by unfold World.iterPos;rw[show W3.heap[W.heap.size]?=_ from f2]];omega
     ·gi_wp2
      refine bodyPost_ret (results_none rfl _ _ _) rfl ?_
      exact⟨⟨_,rfl⟩,.inr ⟨_,⟨placesFrom s (i+K),by rw[←Hpre.out,Hpl.out];simp⟩,hJx3⟩⟩
    ·have Hb:Hid (false=(decide (R=65533) && decide (K=1))):=by
      show false=_
      rw[decide_eq_false h65];rfl
     have h65':((R:Int) == 65533)=false:=by simp;omega
     clear hpf
     gi_wp2_with (first | (refine⟨trivial,?_⟩;gi_at_call 85;refine (callsIn_wide.2 (runeLen_any R _)).mono ?_;rintro e w3 ⟨rfl,rfl⟩;rw[Hl.out]) | (refine⟨trivial,?_⟩;gi_at_call 61;refine (callsIn_wide.2 (spot_any R K false Hb.out _)).mono ?_;rintro e w' ⟨rfl,rfl⟩))
     refine⟨trivial,?_⟩
     gi_wp2_with (first | (refine⟨trivial,?_⟩;gi_at_call 61;refine (callsIn_wide.2 (spot_any R K false Hb.out _)).mono ?_;rintro e w' ⟨rfl,rfl⟩))
     refine hR.mono ?_
     rintro e W3 (hh | ⟨rfl,hJx3⟩)
     ·obtain⟨f1,f2,f3⟩:=Fin.out e W3 hh
      obtain⟨rfl,hJ3,hk3⟩:=hh
      gi_wp2
      go_roundw
      case rel=>exact⟨pre++[⟨i,hlt⟩],i+K,Lib.hid f1,by omega,by simp;omega,hJ3,f2,f3⟩
      case measure=>rw[hpos,show W3.iterPos W.heap.size=i+K by unfold World.iterPos;rw[show W3.heap[W.heap.size]?=_ from f2]];omega
     ·gi_wp2
      refine bodyPost_ret (results_none rfl _ _ _) rfl ?_
      exact⟨⟨_,rfl⟩,.inr ⟨_,⟨placesFrom s (i+K),by rw[←Hpre.out,Hpl.out];simp⟩,hJx3⟩⟩
  ·have hn':=fun ty=>Lib.run_next_end_at (P:=Tryz.prog) wr _ _ _ ty hit hlt
   have hpl:=places_end (s:=s) (i:=i) (by omega)
   have Hpl:=Lib.hid hpl
   clear hpl
   gi_wp2
   go_end0
   exact⟨⟨_,rfl⟩,.inl ⟨pre,by have:=Hpre.out;rw[Hpl.out,List.append_nil] at this;exact this,hJs⟩⟩
end Go.Proofs.YtioehfhdoohdmaaGreatDoor
