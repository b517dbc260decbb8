/- guiselaw14.few, guisebook.Within and script.Runs, walked. -/
import Derived.Test.YtioehfhdoohdmaaGreatDoorTabA
import Derived.Test.YtioehfhdoohdmaaGreatDoorBookA
set_option linter.unusedVariables false
set_option linter.unusedSimpArgs false
namespace Go.Proofs.YtioehfhdoohdmaaGreatDoor
open Go.RowKit Go.Shelf
def fewB (s:ByteArray) (n:Nat):ByteArray:=if n<s.size then s.extract 0 n else s
theorem fewB_size (s:ByteArray) (n:Nat):(fewB s n).size≤n:=by
 unfold fewB;split
 ·simp;omega
 ·omega
theorem few14_any (s:ByteArray) (n:Nat) (w:World) (hs:s.size≤1048576) (hn:n≤1000000) :
 Calls Tryz.prog 13 #[.string s,.int .i64 n] w fun e w'=>e=.returned (.string (fewB s n))∧w=w':=by
 by_cases h:n<s.size
 ·have E:fewB s n=s.extract 0 n:=if_pos h
  go_enter Tryz.func13,Tryz.ntmps13
  go_wp2
  all_goals go_ret
  all_goals exact⟨by rw[E];rfl,rfl⟩
 ·have E:fewB s n=s:=if_neg h
  go_enter Tryz.func13,Tryz.ntmps13
  go_wp2
  all_goals go_ret
  all_goals exact⟨by rw[E];rfl,rfl⟩
def inN (n hi:Int):Int:=n % (hi+1)
theorem inN_le (n:Int) {hi:Int}(h:0≤hi):0≤inN n hi∧inN n hi≤hi:=by
 have h1:=Int.emod_nonneg n (show hi+1≠0 by omega)
 have h2:=Int.emod_lt_of_pos n (show 0<hi+1 by omega)
 unfold inN;omega
theorem within_any (n hi:Int) (w:World) (hl:0≤hi) (h2:hi≤1048576) (hn1:-9223372036854775808≤n) (hn2:n≤9223372036854775807) :
 Calls Tryz.prog 29 #[.int .i64 n,.int .i64 0,.int .i64 hi] w fun e w'=>e=.returned (.int .i64 (inN n hi))∧w=w':=by
 have hr:(0≤Int.tmod n (hi+1)∧inN n hi=Int.tmod n (hi+1))∨(Int.tmod n (hi+1)<0∧inN n hi=Int.tmod n (hi+1)+(hi+1)):=by
  have e1:=Int.tmod_eq_emod (a:=n) (b:=hi+1)
  have e2:=Int.emod_nonneg n (show hi+1≠0 by omega)
  have e3:=Int.emod_lt_of_pos n (show 0<hi+1 by omega)
  have e4:(((hi+1).natAbs:Nat):Int)=hi+1:=by omega
  unfold inN
  split at e1
  ·left;omega
  ·right;omega
 have hb:=inN_le n hl
 generalize inN n hi=m at *
 have Hr:=Lib.hid hr
 clear hr
 go_enter Tryz.func29,Tryz.ntmps29
 go_wp2
 all_goals go_ret
 all_goals (refine⟨congrArg (fun z=>Ending.returned (Value.int .i64 z)) ?_,rfl⟩;have hr:=Hr.out;simp only[wrap64];omega)
theorem runs_any (bb:Nat) (s:ByteArray) (w:World) :
 Calls Tryz.prog 28 #[.pointer (some ⟨bb,0,none⟩),.string s] w fun e w'=>e=.returned (.func (.func 58) #[] #[.pointer (some ⟨w.heap.size,0,none⟩),.pointer (some ⟨w.heap.size+1,0,none⟩)])∧w'=(w.alloc (.cells #[.pointer (some ⟨bb,0,none⟩)] 29)).alloc (.cells #[.string s] 9):=by
 go_enter Tryz.func28,Tryz.ntmps28
 go_wp2
 go_ret
 exact⟨by simp,rfl⟩
theorem BookAt.of_keep {z z':World}{b base bb:Nat}{B:BAddr}{T:Tab}(h:BookAt z bb B T) (n:TabNew base z T B.a) (hb:b<base) (h0:base≤bb) (h1:base≤B.m1) (h2:base≤B.m2) (h3:base≤B.m3) (h4:base≤B.m4) (h5:base≤B.m5) (k:Keep (fun i=>i=b) z z'):BookAt z' bb B T∧TabNew base z' T B.a:=by
 obtain⟨t1,t2⟩:=h.tab.of_keep n hb k
 have cb:∀ {j:Nat} {v:Value},z.cell? ⟨bb,j,none⟩=some v→z'.cell? ⟨bb,j,none⟩=some v:=fun hc=>(k.cell (World.block_lt_of_cell? z _ hc) (by simp only;omega)).trans hc
 have mb:∀ {j:Nat},base≤j→j<z.heap.size→z'.heap[j]?=z.heap[j]?:=fun hj hl=>k.block _ hl (by omega)
 exact⟨⟨t1,fun j v hv=>cb (h.c j v hv),cb h.q1,cb h.q2,cb h.q3,cb h.q4,cb h.q5,⟨h.maps.m1.of_block (mb h1 h.maps.m1.lt),h.maps.m2.of_block (mb h2 h.maps.m2.lt),h.maps.m3.of_block (mb h3 h.maps.m3.lt),h.maps.m4.of_block (mb h4 h.maps.m4.lt),h.maps.m5.of_block (mb h5 h.maps.m5.lt)⟩,h.right,h.forms⟩,t2⟩
end Go.Proofs.YtioehfhdoohdmaaGreatDoor
