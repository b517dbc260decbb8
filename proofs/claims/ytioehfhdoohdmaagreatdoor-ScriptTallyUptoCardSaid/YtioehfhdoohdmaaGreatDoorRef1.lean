/- Ref1: Ref1Sec, Ref1Seq, Ref1Spots. -/
import Derived.Test.YtioehfhdoohdmaaGreatDoorTabA
import Derived.Laws.DeepBits32
import Derived.Laws.Bits64b
import Derived.Test.YtioehfhdoohdmaaGreatDoorLexA
import Derived.Test.YtioehfhdoohdmaaGreatDoorT6P
import Derived.Test.YtioehfhdoohdmaaGreatDoorScrA
set_option linter.unusedVariables false
set_option linter.unusedSimpArgs false
namespace Go.Proofs.YtioehfhdoohdmaaGreatDoor
open Go.RowKit Go.Shelf
def secN (c:Nat):Nat×Nat:=
 if c<194 then (0,0) else if c=224 then (160,191) else if c=237 then (128,159) else if c=240 then (144,191) else if c<244 then (128,191) else if c=244 then (128,143) else (0,0)
set_option maxRecDepth 100000 in
set_option maxHeartbeats 4000000 in
theorem second_any (c:Nat) (hc:c<256) (w:World) :
 Calls Tryz.prog 83 #[.int .u8 c] w fun e w'=>e=.returned (.tuple #[.int .u8 (secN c).1,.int .u8 (secN c).2])∧w=w':=by
 have hr:(0≤c∧c≤193)∨(194≤c∧c≤223)∨(224≤c∧c≤224)∨(225≤c∧c≤236)∨(237≤c∧c≤237)∨(238≤c∧c≤238)∨(239≤c∧c≤239)∨(240≤c∧c≤240)∨(241≤c∧c≤243)∨(244≤c∧c≤244)∨(245≤c∧c≤255):=by omega
 rcases hr with ⟨l0,h0⟩ | ⟨l1,h1⟩ | ⟨l2,h2⟩ | ⟨l3,h3⟩ | ⟨l4,h4⟩ | ⟨l5,h5⟩ | ⟨l6,h6⟩ | ⟨l7,h7⟩ | ⟨l8,h8⟩ | ⟨l9,h9⟩ | ⟨l10,h10⟩
 ·have e:secN c=(0,0):=by
   unfold secN
   repeat (first | rw[if_pos (by omega)] | rw[if_neg (by omega)])
  have He:=Lib.hid e
  have d0:decide (194≤(c:Int))=false:=by rw[decide_eq_false_iff_not];omega
  have d1:decide ((c:Int)≤223)=true:=by rw[decide_eq_true_iff];omega
  have d2:decide (225≤(c:Int))=false:=by rw[decide_eq_false_iff_not];omega
  have d3:decide ((c:Int)≤236)=true:=by rw[decide_eq_true_iff];omega
  have d4:((c:Int) == 238)=false:=by rw[beq_eq_false_iff_ne];omega
  have d5:((c:Int) == 239)=false:=by rw[beq_eq_false_iff_ne];omega
  have d6:decide (241≤(c:Int))=false:=by rw[decide_eq_false_iff_not];omega
  have d7:decide ((c:Int)≤243)=true:=by rw[decide_eq_true_iff];omega
  have d8:((c:Int) == 224)=false:=by rw[beq_eq_false_iff_ne];omega
  have d9:((c:Int) == 237)=false:=by rw[beq_eq_false_iff_ne];omega
  have d10:((c:Int) == 240)=false:=by rw[beq_eq_false_iff_ne];omega
  have d11:((c:Int) == 244)=false:=by rw[beq_eq_false_iff_ne];omega
  clear e
  go_enter Tryz.func83,Tryz.ntmps83
  go_wp2_with fail
  go_ret2
  exact⟨by rw[He.out];rfl,rfl⟩
 ·have e:secN c=(128,191):=by
   unfold secN
   repeat (first | rw[if_pos (by omega)] | rw[if_neg (by omega)])
  have He:=Lib.hid e
  have d0:decide (194≤(c:Int))=true:=by rw[decide_eq_true_iff];omega
  have d1:decide ((c:Int)≤223)=true:=by rw[decide_eq_true_iff];omega
  have d2:decide (225≤(c:Int))=false:=by rw[decide_eq_false_iff_not];omega
  have d3:decide ((c:Int)≤236)=true:=by rw[decide_eq_true_iff];omega
  have d4:((c:Int) == 238)=false:=by rw[beq_eq_false_iff_ne];omega
  have d5:((c:Int) == 239)=false:=by rw[beq_eq_false_iff_ne];omega
  have d6:decide (241≤(c:Int))=false:=by rw[decide_eq_false_iff_not];omega
  have d7:decide ((c:Int)≤243)=true:=by rw[decide_eq_true_iff];omega
  have d8:((c:Int) == 224)=false:=by rw[beq_eq_false_iff_ne];omega
  have d9:((c:Int) == 237)=false:=by rw[beq_eq_false_iff_ne];omega
  have d10:((c:Int) == 240)=false:=by rw[beq_eq_false_iff_ne];omega
  have d11:((c:Int) == 244)=false:=by rw[beq_eq_false_iff_ne];omega
  clear e
  go_enter Tryz.func83,Tryz.ntmps83
  go_wp2_with fail
  go_ret2
  exact⟨by rw[He.out];rfl,rfl⟩
 ·have e:secN c=(160,191):=by
   unfold secN
   repeat (first | rw[if_pos (by omega)] | rw[if_neg (by omega)])
  have He:=Lib.hid e
  have d0:decide (194≤(c:Int))=true:=by rw[decide_eq_true_iff];omega
  have d1:decide ((c:Int)≤223)=false:=by rw[decide_eq_false_iff_not];omega
  have d2:decide (225≤(c:Int))=false:=by rw[decide_eq_false_iff_not];omega
  have d3:decide ((c:Int)≤236)=true:=by rw[decide_eq_true_iff];omega
  have d4:((c:Int) == 238)=false:=by rw[beq_eq_false_iff_ne];omega
  have d5:((c:Int) == 239)=false:=by rw[beq_eq_false_iff_ne];omega
  have d6:decide (241≤(c:Int))=false:=by rw[decide_eq_false_iff_not];omega
  have d7:decide ((c:Int)≤243)=true:=by rw[decide_eq_true_iff];omega
  have d8:((c:Int) == 224)=true:=by rw[beq_iff_eq];omega
  have d9:((c:Int) == 237)=false:=by rw[beq_eq_false_iff_ne];omega
  have d10:((c:Int) == 240)=false:=by rw[beq_eq_false_iff_ne];omega
  have d11:((c:Int) == 244)=false:=by rw[beq_eq_false_iff_ne];omega
  clear e
  go_enter Tryz.func83,Tryz.ntmps83
  go_wp2_with fail
  go_ret2
  exact⟨by rw[He.out];rfl,rfl⟩
 ·have e:secN c=(128,191):=by
   unfold secN
   repeat (first | rw[if_pos (by omega)] | rw[if_neg (by omega)])
  have He:=Lib.hid e
  have d0:decide (194≤(c:Int))=true:=by rw[decide_eq_true_iff];omega
  have d1:decide ((c:Int)≤223)=false:=by rw[decide_eq_false_iff_not];omega
  have d2:decide (225≤(c:Int))=true:=by rw[decide_eq_true_iff];omega
  have d3:decide ((c:Int)≤236)=true:=by rw[decide_eq_true_iff];omega
  have d4:((c:Int) == 238)=false:=by rw[beq_eq_false_iff_ne];omega
  have d5:((c:Int) == 239)=false:=by rw[beq_eq_false_iff_ne];omega
  have d6:decide (241≤(c:Int))=false:=by rw[decide_eq_false_iff_not];omega
  have d7:decide ((c:Int)≤243)=true:=by rw[decide_eq_true_iff];omega
  have d8:((c:Int) == 224)=false:=by rw[beq_eq_false_iff_ne];omega
  have d9:((c:Int) == 237)=false:=by rw[beq_eq_false_iff_ne];omega
  have d10:((c:Int) == 240)=false:=by rw[beq_eq_false_iff_ne];omega
  have d11:((c:Int) == 244)=false:=by rw[beq_eq_false_iff_ne];omega
  clear e
  go_enter Tryz.func83,Tryz.ntmps83
  go_wp2_with fail
  go_ret2
  exact⟨by rw[He.out];rfl,rfl⟩
 ·have e:secN c=(128,159):=by
   unfold secN
   repeat (first | rw[if_pos (by omega)] | rw[if_neg (by omega)])
  have He:=Lib.hid e
  have d0:decide (194≤(c:Int))=true:=by rw[decide_eq_true_iff];omega
  have d1:decide ((c:Int)≤223)=false:=by rw[decide_eq_false_iff_not];omega
  have d2:decide (225≤(c:Int))=true:=by rw[decide_eq_true_iff];omega
  have d3:decide ((c:Int)≤236)=false:=by rw[decide_eq_false_iff_not];omega
  have d4:((c:Int) == 238)=false:=by rw[beq_eq_false_iff_ne];omega
  have d5:((c:Int) == 239)=false:=by rw[beq_eq_false_iff_ne];omega
  have d6:decide (241≤(c:Int))=false:=by rw[decide_eq_false_iff_not];omega
  have d7:decide ((c:Int)≤243)=true:=by rw[decide_eq_true_iff];omega
  have d8:((c:Int) == 224)=false:=by rw[beq_eq_false_iff_ne];omega
  have d9:((c:Int) == 237)=true:=by rw[beq_iff_eq];omega
  have d10:((c:Int) == 240)=false:=by rw[beq_eq_false_iff_ne];omega
  have d11:((c:Int) == 244)=false:=by rw[beq_eq_false_iff_ne];omega
  clear e
  go_enter Tryz.func83,Tryz.ntmps83
  go_wp2_with fail
  go_ret2
  exact⟨by rw[He.out];rfl,rfl⟩
 ·have e:secN c=(128,191):=by
   unfold secN
   repeat (first | rw[if_pos (by omega)] | rw[if_neg (by omega)])
  have He:=Lib.hid e
  have d0:decide (194≤(c:Int))=true:=by rw[decide_eq_true_iff];omega
  have d1:decide ((c:Int)≤223)=false:=by rw[decide_eq_false_iff_not];omega
  have d2:decide (225≤(c:Int))=true:=by rw[decide_eq_true_iff];omega
  have d3:decide ((c:Int)≤236)=false:=by rw[decide_eq_false_iff_not];omega
  have d4:((c:Int) == 238)=true:=by rw[beq_iff_eq];omega
  have d5:((c:Int) == 239)=false:=by rw[beq_eq_false_iff_ne];omega
  have d6:decide (241≤(c:Int))=false:=by rw[decide_eq_false_iff_not];omega
  have d7:decide ((c:Int)≤243)=true:=by rw[decide_eq_true_iff];omega
  have d8:((c:Int) == 224)=false:=by rw[beq_eq_false_iff_ne];omega
  have d9:((c:Int) == 237)=false:=by rw[beq_eq_false_iff_ne];omega
  have d10:((c:Int) == 240)=false:=by rw[beq_eq_false_iff_ne];omega
  have d11:((c:Int) == 244)=false:=by rw[beq_eq_false_iff_ne];omega
  clear e
  go_enter Tryz.func83,Tryz.ntmps83
  go_wp2_with fail
  go_ret2
  exact⟨by rw[He.out];rfl,rfl⟩
 ·have e:secN c=(128,191):=by
   unfold secN
   repeat (first | rw[if_pos (by omega)] | rw[if_neg (by omega)])
  have He:=Lib.hid e
  have d0:decide (194≤(c:Int))=true:=by rw[decide_eq_true_iff];omega
  have d1:decide ((c:Int)≤223)=false:=by rw[decide_eq_false_iff_not];omega
  have d2:decide (225≤(c:Int))=true:=by rw[decide_eq_true_iff];omega
  have d3:decide ((c:Int)≤236)=false:=by rw[decide_eq_false_iff_not];omega
  have d4:((c:Int) == 238)=false:=by rw[beq_eq_false_iff_ne];omega
  have d5:((c:Int) == 239)=true:=by rw[beq_iff_eq];omega
  have d6:decide (241≤(c:Int))=false:=by rw[decide_eq_false_iff_not];omega
  have d7:decide ((c:Int)≤243)=true:=by rw[decide_eq_true_iff];omega
  have d8:((c:Int) == 224)=false:=by rw[beq_eq_false_iff_ne];omega
  have d9:((c:Int) == 237)=false:=by rw[beq_eq_false_iff_ne];omega
  have d10:((c:Int) == 240)=false:=by rw[beq_eq_false_iff_ne];omega
  have d11:((c:Int) == 244)=false:=by rw[beq_eq_false_iff_ne];omega
  clear e
  go_enter Tryz.func83,Tryz.ntmps83
  go_wp2_with fail
  go_ret2
  exact⟨by rw[He.out];rfl,rfl⟩
 ·have e:secN c=(144,191):=by
   unfold secN
   repeat (first | rw[if_pos (by omega)] | rw[if_neg (by omega)])
  have He:=Lib.hid e
  have d0:decide (194≤(c:Int))=true:=by rw[decide_eq_true_iff];omega
  have d1:decide ((c:Int)≤223)=false:=by rw[decide_eq_false_iff_not];omega
  have d2:decide (225≤(c:Int))=true:=by rw[decide_eq_true_iff];omega
  have d3:decide ((c:Int)≤236)=false:=by rw[decide_eq_false_iff_not];omega
  have d4:((c:Int) == 238)=false:=by rw[beq_eq_false_iff_ne];omega
  have d5:((c:Int) == 239)=false:=by rw[beq_eq_false_iff_ne];omega
  have d6:decide (241≤(c:Int))=false:=by rw[decide_eq_false_iff_not];omega
  have d7:decide ((c:Int)≤243)=true:=by rw[decide_eq_true_iff];omega
  have d8:((c:Int) == 224)=false:=by rw[beq_eq_false_iff_ne];omega
  have d9:((c:Int) == 237)=false:=by rw[beq_eq_false_iff_ne];omega
  have d10:((c:Int) == 240)=true:=by rw[beq_iff_eq];omega
  have d11:((c:Int) == 244)=false:=by rw[beq_eq_false_iff_ne];omega
  clear e
  go_enter Tryz.func83,Tryz.ntmps83
  go_wp2_with fail
  go_ret2
  exact⟨by rw[He.out];rfl,rfl⟩
 ·have e:secN c=(128,191):=by
   unfold secN
   repeat (first | rw[if_pos (by omega)] | rw[if_neg (by omega)])
  have He:=Lib.hid e
  have d0:decide (194≤(c:Int))=true:=by rw[decide_eq_true_iff];omega
  have d1:decide ((c:Int)≤223)=false:=by rw[decide_eq_false_iff_not];omega
  have d2:decide (225≤(c:Int))=true:=by rw[decide_eq_true_iff];omega
  have d3:decide ((c:Int)≤236)=false:=by rw[decide_eq_false_iff_not];omega
  have d4:((c:Int) == 238)=false:=by rw[beq_eq_false_iff_ne];omega
  have d5:((c:Int) == 239)=false:=by rw[beq_eq_false_iff_ne];omega
  have d6:decide (241≤(c:Int))=true:=by rw[decide_eq_true_iff];omega
  have d7:decide ((c:Int)≤243)=true:=by rw[decide_eq_true_iff];omega
  have d8:((c:Int) == 224)=false:=by rw[beq_eq_false_iff_ne];omega
  have d9:((c:Int) == 237)=false:=by rw[beq_eq_false_iff_ne];omega
  have d10:((c:Int) == 240)=false:=by rw[beq_eq_false_iff_ne];omega
  have d11:((c:Int) == 244)=false:=by rw[beq_eq_false_iff_ne];omega
  clear e
  go_enter Tryz.func83,Tryz.ntmps83
  go_wp2_with fail
  go_ret2
  exact⟨by rw[He.out];rfl,rfl⟩
 ·have e:secN c=(128,143):=by
   unfold secN
   repeat (first | rw[if_pos (by omega)] | rw[if_neg (by omega)])
  have He:=Lib.hid e
  have d0:decide (194≤(c:Int))=true:=by rw[decide_eq_true_iff];omega
  have d1:decide ((c:Int)≤223)=false:=by rw[decide_eq_false_iff_not];omega
  have d2:decide (225≤(c:Int))=true:=by rw[decide_eq_true_iff];omega
  have d3:decide ((c:Int)≤236)=false:=by rw[decide_eq_false_iff_not];omega
  have d4:((c:Int) == 238)=false:=by rw[beq_eq_false_iff_ne];omega
  have d5:((c:Int) == 239)=false:=by rw[beq_eq_false_iff_ne];omega
  have d6:decide (241≤(c:Int))=true:=by rw[decide_eq_true_iff];omega
  have d7:decide ((c:Int)≤243)=false:=by rw[decide_eq_false_iff_not];omega
  have d8:((c:Int) == 224)=false:=by rw[beq_eq_false_iff_ne];omega
  have d9:((c:Int) == 237)=false:=by rw[beq_eq_false_iff_ne];omega
  have d10:((c:Int) == 240)=false:=by rw[beq_eq_false_iff_ne];omega
  have d11:((c:Int) == 244)=true:=by rw[beq_iff_eq];omega
  clear e
  go_enter Tryz.func83,Tryz.ntmps83
  go_wp2_with fail
  go_ret2
  exact⟨by rw[He.out];rfl,rfl⟩
 ·have e:secN c=(0,0):=by
   unfold secN
   repeat (first | rw[if_pos (by omega)] | rw[if_neg (by omega)])
  have He:=Lib.hid e
  have d0:decide (194≤(c:Int))=true:=by rw[decide_eq_true_iff];omega
  have d1:decide ((c:Int)≤223)=false:=by rw[decide_eq_false_iff_not];omega
  have d2:decide (225≤(c:Int))=true:=by rw[decide_eq_true_iff];omega
  have d3:decide ((c:Int)≤236)=false:=by rw[decide_eq_false_iff_not];omega
  have d4:((c:Int) == 238)=false:=by rw[beq_eq_false_iff_ne];omega
  have d5:((c:Int) == 239)=false:=by rw[beq_eq_false_iff_ne];omega
  have d6:decide (241≤(c:Int))=true:=by rw[decide_eq_true_iff];omega
  have d7:decide ((c:Int)≤243)=false:=by rw[decide_eq_false_iff_not];omega
  have d8:((c:Int) == 224)=false:=by rw[beq_eq_false_iff_ne];omega
  have d9:((c:Int) == 237)=false:=by rw[beq_eq_false_iff_ne];omega
  have d10:((c:Int) == 240)=false:=by rw[beq_eq_false_iff_ne];omega
  have d11:((c:Int) == 244)=false:=by rw[beq_eq_false_iff_ne];omega
  clear e
  go_enter Tryz.func83,Tryz.ntmps83
  go_wp2_with fail
  go_ret2
  exact⟨by rw[He.out];rfl,rfl⟩
end Go.Proofs.YtioehfhdoohdmaaGreatDoor
namespace Go.Proofs.YtioehfhdoohdmaaGreatDoor
open Go.RowKit Go.Shelf
def sq1 (s:ByteArray):Nat×Nat:=if (seqT s 0).2.2 then ((seqT s 0).2.1,(seqT s 0).1) else (0,0)
theorem and31u (c:Nat) (h:c<256):bits BinOp.and IntKind.u8 (c:Int) 31=((c % 32:Nat):Int):=by
 have key:∀c:Fin 256,bits BinOp.and IntKind.u8 (c.1:Int) 31=((c.1 % 32:Nat):Int):=by decide +kernel
 exact key ⟨c,h⟩
theorem and15u (c:Nat) (h:c<256):bits BinOp.and IntKind.u8 (c:Int) 15=((c % 16:Nat):Int):=by
 have key:∀c:Fin 256,bits BinOp.and IntKind.u8 (c.1:Int) 15=((c.1 % 16:Nat):Int):=by decide +kernel
 exact key ⟨c,h⟩
theorem and7u (c:Nat) (h:c<256):bits BinOp.and IntKind.u8 (c:Int) 7=((c % 8:Nat):Int):=by
 have key:∀c:Fin 256,bits BinOp.and IntKind.u8 (c.1:Int) 7=((c.1 % 8:Nat):Int):=by decide +kernel
 exact key ⟨c,h⟩
theorem and63u (c:Nat) (h:c<256):bits BinOp.and IntKind.u8 (c:Int) 63=((c % 64:Nat):Int):=by
 have key:∀c:Fin 256,bits BinOp.and IntKind.u8 (c.1:Int) 63=((c.1 % 64:Nat):Int):=by decide +kernel
 exact key ⟨c,h⟩
theorem or_six (r q:Nat) (hq:q<64) (hr:r<2097152):bits BinOp.or IntKind.i32 ((r:Int)*64) (q:Int)=(r:Int)*64+q:=by
 have h1:r*64 ||| q=r*64+q:=by
  have:=Nat.two_pow_add_eq_or_of_lt (i:=6) (b:=q) (by simpa using hq) r
  rw[show 2 ^ 6*r=r*64 by omega] at this
  exact this.symm
 have e:((r:Int)*64)=((r*64:Nat):Int):=by push_cast;rfl
 rw[e]
 show IntKind.i32.wrap ((BitVec.ofInt 32 ((r*64:Nat):Int) ||| BitVec.ofInt 32 (q:Int)).toNat:Int)=_
 rw[BitVec.toNat_or,ofInt_u32 (r*64) (by omega),ofInt_u32 q (by omega),h1,wrap_i32_small _ (by omega) (by omega)]
 push_cast;rfl
def secOk (c:Nat):Bool:=match needN c with | none=>true | some v=>decide (secN c=(v.2.1,v.2.2)∧1≤v.1∧v.1≤3∧128≤v.2.1∧v.2.2≤191∧(v.1=1↔c<224)∧(v.1=3↔240≤c))
theorem need_sec {c:Nat}(h:128≤c) (hc:c<256):(needN c=none∧secN c=(0,0))∨∃n lo hi,needN c=some (n,lo,hi)∧secN c=(lo,hi)∧1≤n∧n≤3∧128≤lo∧hi≤191∧(n=1↔c<224)∧(n=3↔240≤c):=by
 have key:∀c:Fin 256,128≤c.1→(needN c.1=none∧secN c.1=(0,0))∨∃n lo hi,needN c.1=some (n,lo,hi)∧secN c.1=(lo,hi)∧1≤n∧n≤3∧128≤lo∧hi≤191∧(n=1↔c.1<224)∧(n=3↔240≤c.1):=by
  intro c h
  cases e:needN c.1 with
  | none=>
   left
   refine⟨rfl,?_⟩
   have hk3:∀c:Fin 256,128≤c.1→(needN c.1).isNone=true→secN c.1=(0,0):=by decide +kernel
   exact hk3 c h (by rw[e];rfl)
  | some v=>
   right
   obtain⟨n,lo,hi⟩:=v
   refine⟨n,lo,hi,rfl,?_⟩
   have hk2:∀c:Fin 256,128≤c.1→secOk c.1=true:=by decide +kernel
   have:=hk2 c h
   unfold secOk at this
   rw[e] at this
   simpa [and_assoc] using this
 exact key ⟨c,hc⟩ h
theorem seqGo_first {s:ByteArray}{p g lo hi r:Nat}(h1:lo≤B s (p+1)) (h2:B s (p+1)≤hi) (h3:128≤lo) (h4:hi≤191):seqGo s p (g+1) 1 lo hi r=seqGo s p (g+1) 1 128 191 r:=by
 rw[seqGo,seqGo]
 by_cases h:p+1<s.size
 ·rw[if_pos ⟨h,h1,h2⟩,if_pos ⟨h,by omega,by omega⟩]
 ·rw[if_neg (fun e=>h e.1),if_neg (fun e=>h e.1)]
theorem seqGo_no {s:ByteArray}{p g k lo hi r:Nat}(h:¬ (p+k<s.size∧lo≤B s (p+k)∧B s (p+k)≤hi)):seqGo s p (g+1) k lo hi r=(0,p+k,false):=by rw[seqGo,if_neg h]
set_option maxRecDepth 100000 in
set_option maxHeartbeats 8000000 in
theorem seq1_any (s:ByteArray) (w:World) (hs:s.size≤140737488351232):Calls Tryz.prog 48 #[.string s] w fun e w'=>e=.returned (.tuple #[.int .i64 (sq1 s).1,.int .i32 (sq1 s).2])∧w=w':=by
 obtain⟨q1,q2,hq⟩:∃q1 q2,sq1 s=(q1,q2):=⟨_,_,rfl⟩
 rw[hq]
 unfold sq1 at hq
 dsimp only
 by_cases h0:s.size=0
 ·have hq0:seqT s 0=(0,0,false):=by unfold seqT;rw[if_pos (by omega)]
  rw[hq0] at hq
  simp only[Bool.false_eq_true,if_false,Prod.mk.injEq] at hq
  obtain⟨rfl,rfl⟩:=hq
  have e0:((s.size:Int) == 0)=true:=by rw[h0];rfl
  clear hq0 h0
  go_enter Tryz.func48,Tryz.ntmps48
  go_wp2_with fail
  try go_ret2
  exact⟨rfl,rfl⟩
 have e0:((s.size:Int) == 0)=false:=by rw[beq_eq_false_iff_ne];omega
 have hlt:0<s.size:=by omega
 have Hb:=Lib.hid (B_at hlt)
 have hc:=UInt8.toNat_lt (s[0]'hlt)
 have hc2:(s[0]'hlt).toNat<256:=hc
 by_cases h1:(s[0]'hlt).toNat<128
 ·have d1:decide (((s[0]'hlt).toNat:Int)<128)=true:=by rw[decide_eq_true_iff];omega
  have hq0:seqT s 0=((s[0]'hlt).toNat,1,true):=by
   unfold seqT
   rw[if_neg (by omega),Hb.out]
   have:needN (s[0]'hlt).toNat=some (0,0,0):=by unfold needN;rw[if_pos h1]
   rw[this]
   rfl
  rw[hq0] at hq
  simp only[if_true,Prod.mk.injEq] at hq
  obtain⟨rfl,rfl⟩:=hq
  clear hq0 h0
  go_enter Tryz.func48,Tryz.ntmps48
  go_wp2_with fail
  try go_ret2
  exact⟨rfl,rfl⟩
 have d1:decide (((s[0]'hlt).toNat:Int)<128)=false:=by rw[decide_eq_false_iff_not];omega
 have hsec:=second_any (s[0]'hlt).toNat hc2 w
 have hT:seqT s 0=match needN (s[0]'hlt).toNat with | none=>(0,0,false) | some (n,lo,hi)=>seqGo s 0 n 1 lo hi (maskN n (s[0]'hlt).toNat):=by unfold seqT;rw[if_neg (by omega),Hb.out];rfl
 rcases need_sec (by omega) hc2 with ⟨hn,hsn⟩ | ⟨n,lo,hi,hn,hsn,hn1,hn3,hlo,hhi,hnA,hnB⟩
 ·rw[hn] at hT
  rw[hsn] at hsec
  rw[hT] at hq
  simp only[Bool.false_eq_true,if_false,Prod.mk.injEq] at hq
  obtain⟨rfl,rfl⟩:=hq
  have HSec:=Lib.hid hsec
  clear hsec hn hsn hT h0 h1
  go_enter Tryz.func48,Tryz.ntmps48
  go_wp2_with fail
  (with_reducible refine Calls.mono HSec.out ?_)
  rintro e w' ⟨rfl,rfl⟩
  go_wp2_with fail
  try go_ret2
  exact⟨rfl,rfl⟩
 rw[hn] at hT
 rw[hsn] at hsec
 dsimp only at hT hsec
 have HSec:=Lib.hid hsec
 obtain⟨g,rfl⟩:∃g,n=g+1:=⟨n - 1,by omega⟩
 have eL:((lo:Int) == 0)=false:=by rw[beq_eq_false_iff_ne];omega
 clear hsec hn hsn
 by_cases h2:s.size<2
 ·have d2:decide ((s.size:Int)<2)=true:=by rw[decide_eq_true_iff];omega
  rw[hT,seqGo_no (by omega)] at hq
  simp only[Bool.false_eq_true,if_false,Prod.mk.injEq] at hq
  obtain⟨rfl,rfl⟩:=hq
  clear hT h0 h1 hnA hnB
  go_enter Tryz.func48,Tryz.ntmps48
  go_wp2_with fail
  (with_reducible refine Calls.mono HSec.out ?_)
  rintro e w' ⟨rfl,rfl⟩
  go_wp2_with fail
  try go_ret2
  exact⟨rfl,rfl⟩
 have d2:decide ((s.size:Int)<2)=false:=by rw[decide_eq_false_iff_not];omega
 have hlt1:1<s.size:=by omega
 have Hb1:=Lib.hid (B_at hlt1)
 by_cases h3:(s[1]'hlt1).toNat<lo
 ·have d3:decide (((s[1]'hlt1).toNat:Int)<(lo:Int))=true:=by rw[decide_eq_true_iff];omega
  rw[hT,seqGo_no (by rw[Nat.zero_add,Hb1.out];omega)] at hq
  simp only[Bool.false_eq_true,if_false,Prod.mk.injEq] at hq
  obtain⟨rfl,rfl⟩:=hq
  clear hT h0 h1 hnA hnB
  go_enter Tryz.func48,Tryz.ntmps48
  go_wp2_with fail
  (with_reducible refine Calls.mono HSec.out ?_)
  rintro e w' ⟨rfl,rfl⟩
  go_wp2_with fail
  try go_ret2
  exact⟨rfl,rfl⟩
 have d3:decide (((s[1]'hlt1).toNat:Int)<(lo:Int))=false:=by rw[decide_eq_false_iff_not];omega
 by_cases h4:hi<(s[1]'hlt1).toNat
 ·have d4:decide ((hi:Int)<((s[1]'hlt1).toNat:Int))=true:=by rw[decide_eq_true_iff];omega
  rw[hT,seqGo_no (by rw[Nat.zero_add,Hb1.out];omega)] at hq
  simp only[Bool.false_eq_true,if_false,Prod.mk.injEq] at hq
  obtain⟨rfl,rfl⟩:=hq
  clear hT h0 h1 hnA hnB
  go_enter Tryz.func48,Tryz.ntmps48
  go_wp2_with fail
  (with_reducible refine Calls.mono HSec.out ?_)
  rintro e w' ⟨rfl,rfl⟩
  go_wp2_with fail
  try go_ret2
  exact⟨rfl,rfl⟩
 have d4:decide ((hi:Int)<((s[1]'hlt1).toNat:Int))=false:=by rw[decide_eq_false_iff_not];omega
 rw[seqGo_first (by rw[Nat.zero_add,Hb1.out];omega) (by rw[Nat.zero_add,Hb1.out];omega) hlo hhi] at hT
 have a31:=and31u _ hc2
 have a15:=and15u _ hc2
 have a7:=and7u _ hc2
 obtain⟨SG,hSG⟩:∃SG,seqT s 0=SG:=⟨_,rfl⟩
 rw[hSG] at hq hT
 have HQ:=Lib.hid hq
 have HT:=Lib.hid hT
 clear hSG hq hT h0
 by_cases h5:(s[0]'hlt).toNat<224
 ·skip
  obtain rfl:g=0:=by omega
  have HT2:Hid (SG=seqGo s 0 1 1 128 191 ((s[0]'hlt).toNat % 32)):=Lib.hid HT.out
  have d5:decide (224≤((s[0]'hlt).toNat:Int))=false:=by rw[decide_eq_false_iff_not];omega
  have d6:decide (240≤((s[0]'hlt).toNat:Int))=false:=by rw[decide_eq_false_iff_not];omega
  have hm:(s[0]'hlt).toNat % 32<32:=Nat.mod_lt _ (by decide)
  clear HT hnA hnB hn1 hn3
  go_enter Tryz.func48,Tryz.ntmps48
  go_wp2_with fail
  (with_reducible refine Calls.mono HSec.out ?_)
  rintro e w' ⟨rfl,rfl⟩
  go_wp2_with fail
  clear a31 a15 a7 d1 d2 d3 d4 d5 d6 eL
  go_loop [8,9] (fun v8 v9=>∃k g r:Nat,v8=.int .i32 r∧v9=.int .i64 k∧k+g=2∧1≤k∧r<2097152∧Hid (r<bnd6 g)∧Hid (SG=seqGo s 0 g k 128 191 r)) (fun _ v9=>2 - (intOf v9).toNat)
  case atStart=>exact⟨1,1,(s[0]'hlt).toNat % 32,by go_num,rfl,by omega,by omega,by omega,Lib.hid (by simp[bnd6];omega),HT2⟩
  case round=>
   clear HT2 hm
   obtain⟨k,g,r,rfl,rfl,hkg,hk1,hr,Hr,Hg⟩:=hrel
   cases g with
   | zero=>
    obtain rfl:k=2:=by omega
    have HS2:Hid (q1=2∧q2=r):=Lib.hid (by have h:=HQ.out;rw[Hg.out] at h;simp only[seqGo,if_true,Nat.zero_add,Prod.mk.injEq] at h;exact⟨h.1.symm,h.2.symm⟩)
    go_wp2_with fail
    try go_ret2
    exact⟨by rw[HS2.out.1,HS2.out.2] <;> rfl,rfl⟩
   | succ g=>
    have hk2:k≤1:=by omega
    have hg2:g≤2:=by omega
    have i0:(0:Int)≤(k:Int):=Int.natCast_nonneg _
    by_cases hin:k<s.size
    ·have Hb2:=Lib.hid (B_at hin)
     have hc3:(s[k]'hin).toNat<256:=UInt8.toNat_lt _
     have e1:decide ((s.size:Int)≤(k:Int))=false:=by rw[decide_eq_false_iff_not];omega
     by_cases hl:(s[k]'hin).toNat<128
     ·have e2:decide (((s[k]'hin).toNat:Int)<128)=true:=by rw[decide_eq_true_iff];omega
      have HS2:Hid (q1=0∧q2=0):=Lib.hid (by have h:=HQ.out;rw[Hg.out,seqGo_no (by rw[Nat.zero_add,Hb2.out];omega)] at h;simp only[Bool.false_eq_true,if_false,Prod.mk.injEq] at h;exact⟨h.1.symm,h.2.symm⟩)
      go_wp2_with fail
      all_goals (try go_ret2)
      all_goals (exact⟨by rw[HS2.out.1,HS2.out.2] <;> rfl,rfl⟩)
     ·have e2:decide (((s[k]'hin).toNat:Int)<128)=false:=by rw[decide_eq_false_iff_not];omega
      by_cases hh:191<(s[k]'hin).toNat
      ·have e3:decide (191<((s[k]'hin).toNat:Int))=true:=by rw[decide_eq_true_iff];omega
       have HS2:Hid (q1=0∧q2=0):=Lib.hid (by have h:=HQ.out;rw[Hg.out,seqGo_no (by rw[Nat.zero_add,Hb2.out];omega)] at h;simp only[Bool.false_eq_true,if_false,Prod.mk.injEq] at h;exact⟨h.1.symm,h.2.symm⟩)
       go_wp2_with fail
       all_goals (try go_ret2)
       all_goals (exact⟨by rw[HS2.out.1,HS2.out.2] <;> rfl,rfl⟩)
      ·have e3:decide (191<((s[k]'hin).toNat:Int))=false:=by rw[decide_eq_false_iff_not];omega
       have hst:seqGo s 0 (g+1) k 128 191 r=seqGo s 0 g (k+1) 128 191 (r*64+(s[k]'hin).toNat % 64):=by rw[seqGo,if_pos (by rw[Nat.zero_add,Hb2.out];omega),Nat.zero_add,Hb2.out]
       have Hg2:=Lib.hid (Hg.out.trans hst)
       have hbs:=bnd6_step Hr.out hg2 (Nat.mod_lt (s[k]'hin).toNat (by decide:0<64))
       have hbl:=bnd6_le hbs
       have Hbs:=Lib.hid hbs
       have hql:(s[k]'hin).toNat % 64<64:=Nat.mod_lt _ (by decide)
       have a63:=and63u _ hc3
       clear hst hbs Hg
       obtain⟨q,hq⟩:∃q,(s[k]'hin).toNat % 64=q:=⟨_,rfl⟩
       rw[hq] at Hg2 Hbs hbl hql a63
       have hor:=or_six r q hql hr
       clear hq
       go_wp2_with fail
       first | exact⟨⟨k+1,g,r*64+q,by go_num,by go_num,by omega,by omega,hbl,Hbs,Hg2⟩,by simp[intOf];omega⟩ | exact⟨⟨_,_,_,_,⟨k+1,g,r*64+q,by go_num,by go_num,by omega,by omega,hbl,Hbs,Hg2⟩,rfl,rfl,rfl,rfl⟩,by simp[intOf];omega⟩
    ·have e1:decide ((s.size:Int)≤(k:Int))=true:=by rw[decide_eq_true_iff];omega
     have HS2:Hid (q1=0∧q2=0):=Lib.hid (by have h:=HQ.out;rw[Hg.out,seqGo_no (by omega)] at h;simp only[Bool.false_eq_true,if_false,Prod.mk.injEq] at h;exact⟨h.1.symm,h.2.symm⟩)
     go_wp2_with fail
     all_goals (try go_ret2)
     all_goals (exact⟨by rw[HS2.out.1,HS2.out.2] <;> rfl,rfl⟩)
 ·by_cases h6:(s[0]'hlt).toNat<240
  ·skip
   obtain rfl:g=1:=by omega
   have HT2:Hid (SG=seqGo s 0 2 1 128 191 ((s[0]'hlt).toNat % 16)):=Lib.hid HT.out
   have d5:decide (224≤((s[0]'hlt).toNat:Int))=true:=by rw[decide_eq_true_iff];omega
   have d6:decide (240≤((s[0]'hlt).toNat:Int))=false:=by rw[decide_eq_false_iff_not];omega
   have hm:(s[0]'hlt).toNat % 16<16:=Nat.mod_lt _ (by decide)
   clear HT hnA hnB hn1 hn3
   go_enter Tryz.func48,Tryz.ntmps48
   go_wp2_with fail
   (with_reducible refine Calls.mono HSec.out ?_)
   rintro e w' ⟨rfl,rfl⟩
   go_wp2_with fail
   clear a31 a15 a7 d1 d2 d3 d4 d5 d6 eL
   go_loop [8,9] (fun v8 v9=>∃k g r:Nat,v8=.int .i32 r∧v9=.int .i64 k∧k+g=3∧1≤k∧r<2097152∧Hid (r<bnd6 g)∧Hid (SG=seqGo s 0 g k 128 191 r)) (fun _ v9=>3 - (intOf v9).toNat)
   case atStart=>exact⟨1,2,(s[0]'hlt).toNat % 16,by go_num,rfl,by omega,by omega,by omega,Lib.hid (by simp[bnd6];omega),HT2⟩
   case round=>
    clear HT2 hm
    obtain⟨k,g,r,rfl,rfl,hkg,hk1,hr,Hr,Hg⟩:=hrel
    cases g with
    | zero=>
     obtain rfl:k=3:=by omega
     have HS2:Hid (q1=3∧q2=r):=Lib.hid (by have h:=HQ.out;rw[Hg.out] at h;simp only[seqGo,if_true,Nat.zero_add,Prod.mk.injEq] at h;exact⟨h.1.symm,h.2.symm⟩)
     go_wp2_with fail
     try go_ret2
     exact⟨by rw[HS2.out.1,HS2.out.2] <;> rfl,rfl⟩
    | succ g=>
     have hk2:k≤2:=by omega
     have hg2:g≤2:=by omega
     have i0:(0:Int)≤(k:Int):=Int.natCast_nonneg _
     by_cases hin:k<s.size
     ·have Hb2:=Lib.hid (B_at hin)
      have hc3:(s[k]'hin).toNat<256:=UInt8.toNat_lt _
      have e1:decide ((s.size:Int)≤(k:Int))=false:=by rw[decide_eq_false_iff_not];omega
      by_cases hl:(s[k]'hin).toNat<128
      ·have e2:decide (((s[k]'hin).toNat:Int)<128)=true:=by rw[decide_eq_true_iff];omega
       have HS2:Hid (q1=0∧q2=0):=Lib.hid (by have h:=HQ.out;rw[Hg.out,seqGo_no (by rw[Nat.zero_add,Hb2.out];omega)] at h;simp only[Bool.false_eq_true,if_false,Prod.mk.injEq] at h;exact⟨h.1.symm,h.2.symm⟩)
       go_wp2_with fail
       all_goals (try go_ret2)
       all_goals (exact⟨by rw[HS2.out.1,HS2.out.2] <;> rfl,rfl⟩)
      ·have e2:decide (((s[k]'hin).toNat:Int)<128)=false:=by rw[decide_eq_false_iff_not];omega
       by_cases hh:191<(s[k]'hin).toNat
       ·have e3:decide (191<((s[k]'hin).toNat:Int))=true:=by rw[decide_eq_true_iff];omega
        have HS2:Hid (q1=0∧q2=0):=Lib.hid (by have h:=HQ.out;rw[Hg.out,seqGo_no (by rw[Nat.zero_add,Hb2.out];omega)] at h;simp only[Bool.false_eq_true,if_false,Prod.mk.injEq] at h;exact⟨h.1.symm,h.2.symm⟩)
        go_wp2_with fail
        all_goals (try go_ret2)
        all_goals (exact⟨by rw[HS2.out.1,HS2.out.2] <;> rfl,rfl⟩)
       ·have e3:decide (191<((s[k]'hin).toNat:Int))=false:=by rw[decide_eq_false_iff_not];omega
        have hst:seqGo s 0 (g+1) k 128 191 r=seqGo s 0 g (k+1) 128 191 (r*64+(s[k]'hin).toNat % 64):=by rw[seqGo,if_pos (by rw[Nat.zero_add,Hb2.out];omega),Nat.zero_add,Hb2.out]
        have Hg2:=Lib.hid (Hg.out.trans hst)
        have hbs:=bnd6_step Hr.out hg2 (Nat.mod_lt (s[k]'hin).toNat (by decide:0<64))
        have hbl:=bnd6_le hbs
        have Hbs:=Lib.hid hbs
        have hql:(s[k]'hin).toNat % 64<64:=Nat.mod_lt _ (by decide)
        have a63:=and63u _ hc3
        clear hst hbs Hg
        obtain⟨q,hq⟩:∃q,(s[k]'hin).toNat % 64=q:=⟨_,rfl⟩
        rw[hq] at Hg2 Hbs hbl hql a63
        have hor:=or_six r q hql hr
        clear hq
        go_wp2_with fail
        first | exact⟨⟨k+1,g,r*64+q,by go_num,by go_num,by omega,by omega,hbl,Hbs,Hg2⟩,by simp[intOf];omega⟩ | exact⟨⟨_,_,_,_,⟨k+1,g,r*64+q,by go_num,by go_num,by omega,by omega,hbl,Hbs,Hg2⟩,rfl,rfl,rfl,rfl⟩,by simp[intOf];omega⟩
     ·have e1:decide ((s.size:Int)≤(k:Int))=true:=by rw[decide_eq_true_iff];omega
      have HS2:Hid (q1=0∧q2=0):=Lib.hid (by have h:=HQ.out;rw[Hg.out,seqGo_no (by omega)] at h;simp only[Bool.false_eq_true,if_false,Prod.mk.injEq] at h;exact⟨h.1.symm,h.2.symm⟩)
      go_wp2_with fail
      all_goals (try go_ret2)
      all_goals (exact⟨by rw[HS2.out.1,HS2.out.2] <;> rfl,rfl⟩)
  ·skip
   obtain rfl:g=2:=by omega
   have HT2:Hid (SG=seqGo s 0 3 1 128 191 ((s[0]'hlt).toNat % 8)):=Lib.hid HT.out
   have d5:decide (224≤((s[0]'hlt).toNat:Int))=true:=by rw[decide_eq_true_iff];omega
   have d6:decide (240≤((s[0]'hlt).toNat:Int))=true:=by rw[decide_eq_true_iff];omega
   have hm:(s[0]'hlt).toNat % 8<8:=Nat.mod_lt _ (by decide)
   clear HT hnA hnB hn1 hn3
   go_enter Tryz.func48,Tryz.ntmps48
   go_wp2_with fail
   (with_reducible refine Calls.mono HSec.out ?_)
   rintro e w' ⟨rfl,rfl⟩
   go_wp2_with fail
   clear a31 a15 a7 d1 d2 d3 d4 d5 d6 eL
   go_loop [8,9] (fun v8 v9=>∃k g r:Nat,v8=.int .i32 r∧v9=.int .i64 k∧k+g=4∧1≤k∧r<2097152∧Hid (r<bnd6 g)∧Hid (SG=seqGo s 0 g k 128 191 r)) (fun _ v9=>4 - (intOf v9).toNat)
   case atStart=>exact⟨1,3,(s[0]'hlt).toNat % 8,by go_num,rfl,by omega,by omega,by omega,Lib.hid (by simp[bnd6];omega),HT2⟩
   case round=>
    clear HT2 hm
    obtain⟨k,g,r,rfl,rfl,hkg,hk1,hr,Hr,Hg⟩:=hrel
    cases g with
    | zero=>
     obtain rfl:k=4:=by omega
     have HS2:Hid (q1=4∧q2=r):=Lib.hid (by have h:=HQ.out;rw[Hg.out] at h;simp only[seqGo,if_true,Nat.zero_add,Prod.mk.injEq] at h;exact⟨h.1.symm,h.2.symm⟩)
     go_wp2_with fail
     try go_ret2
     exact⟨by rw[HS2.out.1,HS2.out.2] <;> rfl,rfl⟩
    | succ g=>
     have hk2:k≤3:=by omega
     have hg2:g≤2:=by omega
     have i0:(0:Int)≤(k:Int):=Int.natCast_nonneg _
     by_cases hin:k<s.size
     ·have Hb2:=Lib.hid (B_at hin)
      have hc3:(s[k]'hin).toNat<256:=UInt8.toNat_lt _
      have e1:decide ((s.size:Int)≤(k:Int))=false:=by rw[decide_eq_false_iff_not];omega
      by_cases hl:(s[k]'hin).toNat<128
      ·have e2:decide (((s[k]'hin).toNat:Int)<128)=true:=by rw[decide_eq_true_iff];omega
       have HS2:Hid (q1=0∧q2=0):=Lib.hid (by have h:=HQ.out;rw[Hg.out,seqGo_no (by rw[Nat.zero_add,Hb2.out];omega)] at h;simp only[Bool.false_eq_true,if_false,Prod.mk.injEq] at h;exact⟨h.1.symm,h.2.symm⟩)
       go_wp2_with fail
       all_goals (try go_ret2)
       all_goals (exact⟨by rw[HS2.out.1,HS2.out.2] <;> rfl,rfl⟩)
      ·have e2:decide (((s[k]'hin).toNat:Int)<128)=false:=by rw[decide_eq_false_iff_not];omega
       by_cases hh:191<(s[k]'hin).toNat
       ·have e3:decide (191<((s[k]'hin).toNat:Int))=true:=by rw[decide_eq_true_iff];omega
        have HS2:Hid (q1=0∧q2=0):=Lib.hid (by have h:=HQ.out;rw[Hg.out,seqGo_no (by rw[Nat.zero_add,Hb2.out];omega)] at h;simp only[Bool.false_eq_true,if_false,Prod.mk.injEq] at h;exact⟨h.1.symm,h.2.symm⟩)
        go_wp2_with fail
        all_goals (try go_ret2)
        all_goals (exact⟨by rw[HS2.out.1,HS2.out.2] <;> rfl,rfl⟩)
       ·have e3:decide (191<((s[k]'hin).toNat:Int))=false:=by rw[decide_eq_false_iff_not];omega
        have hst:seqGo s 0 (g+1) k 128 191 r=seqGo s 0 g (k+1) 128 191 (r*64+(s[k]'hin).toNat % 64):=by rw[seqGo,if_pos (by rw[Nat.zero_add,Hb2.out];omega),Nat.zero_add,Hb2.out]
        have Hg2:=Lib.hid (Hg.out.trans hst)
        have hbs:=bnd6_step Hr.out hg2 (Nat.mod_lt (s[k]'hin).toNat (by decide:0<64))
        have hbl:=bnd6_le hbs
        have Hbs:=Lib.hid hbs
        have hql:(s[k]'hin).toNat % 64<64:=Nat.mod_lt _ (by decide)
        have a63:=and63u _ hc3
        clear hst hbs Hg
        obtain⟨q,hq⟩:∃q,(s[k]'hin).toNat % 64=q:=⟨_,rfl⟩
        rw[hq] at Hg2 Hbs hbl hql a63
        have hor:=or_six r q hql hr
        clear hq
        go_wp2_with fail
        first | exact⟨⟨k+1,g,r*64+q,by go_num,by go_num,by omega,by omega,hbl,Hbs,Hg2⟩,by simp[intOf];omega⟩ | exact⟨⟨_,_,_,_,⟨k+1,g,r*64+q,by go_num,by go_num,by omega,by omega,hbl,Hbs,Hg2⟩,rfl,rfl,rfl,rfl⟩,by simp[intOf];omega⟩
     ·have e1:decide ((s.size:Int)≤(k:Int))=true:=by rw[decide_eq_true_iff];omega
      have HS2:Hid (q1=0∧q2=0):=Lib.hid (by have h:=HQ.out;rw[Hg.out,seqGo_no (by omega)] at h;simp only[Bool.false_eq_true,if_false,Prod.mk.injEq] at h;exact⟨h.1.symm,h.2.symm⟩)
      go_wp2_with fail
      all_goals (try go_ret2)
      all_goals (exact⟨by rw[HS2.out.1,HS2.out.2] <;> rfl,rfl⟩)
end Go.Proofs.YtioehfhdoohdmaaGreatDoor
namespace Go.Proofs.YtioehfhdoohdmaaGreatDoor
open Go.RowKit Go.Shelf
def spC (s:ByteArray) (x:Pl s):List Value:=[.int .i32 (spR s x),.int .i64 (x.1:Nat),.int .i64 ((Utf8.decode s x.1).2:Nat),.bool (spB s x)]
theorem sq1_tail {s:ByteArray}{i:Nat}(h:i<s.size):sq1 (s.extract i s.size)=if goodAt s i then ((Utf8.decode s i).2,(Utf8.decode s i).1) else (0,0):=by
 have hsz:(s.extract i s.size).size=s.size - i:=by rw[ByteArray.size_extract];omega
 have hd:=dec_tail (s:=s) (p:=i) (by omega)
 have hb:B (s.extract i s.size) 0=B s i:=by rw[B_extract _ _ _ _ (by omega) (Nat.le_refl _),Nat.add_zero]
 have hg:goodAt (s.extract i s.size) 0=goodAt s i:=by unfold goodAt;rw[hd,hb]
 unfold sq1
 rw[seqT_eq (by omega),hg,hd]
 cases goodAt s i <;> simp
theorem info_spot:(Tryz.prog.info? 68).map (fun i=>(i.zero,i.size,i.bytes))=some (some (.agg #[.int .i32 0,.int .i64 0,.int .i64 0,.bool false]),4,32):=by kernel_rfl
def SpotsPost (W:World) (s:ByteArray) (e:Ending) (w':World):Prop:=∃v,e=.returned v∧w'.ownsRow W.heap.size 68 4 v (places s).length ((places s).flatMap (spC s))∧Below W.heap.size W w'
theorem spot_snoc {w:World}{B:Nat}{v:Value}{s:ByteArray}{pre:List (Pl s)}{x:Pl s}{cs:List Value}(hc:cs=spC s x) (h:w.ownsRow B 68 4 v (pre.length+1) (pre.flatMap (spC s)++cs)):w.ownsRow B 68 4 v (pre++[x]).length ((pre++[x]).flatMap (spC s)):=by
 rw[show (pre++[x]).length=pre.length+1 by simp,List.flatMap_append,show ([x]:List (Pl s)).flatMap (spC s)=cs by rw[hc];simp];exact h
set_option maxRecDepth 100000 in
set_option maxHeartbeats 8000000 in
theorem rspots_any (s:ByteArray) (W:World) (hs:s.size≤1048576):Calls Tryz.prog 14 #[.string s] W (SpotsPost W s):=by
 obtain⟨i0_,hi_,hz0,hz1,hz2⟩:=info_parts info_spot
 have HI:=Lib.hid (And.intro hi_ (And.intro hz0 (And.intro hz1 hz2)))
 clear hi_ hz0 hz1 hz2
 obtain⟨PL,hPL⟩:∃l,places s=l:=⟨_,rfl⟩
 have HPL:=Lib.hid hPL
 clear hPL
 obtain⟨y,hy⟩:∃y:WC W,y.w=W:=⟨WC.of W,rfl⟩
 have HP:Hid (∀e w',SpotsPost W s e w'=∃v,e=.returned v∧w'.ownsRow W.heap.size 68 4 v PL.length (PL.flatMap (spC s))∧Below W.heap.size W w'):=Lib.hid (fun e w'=>by unfold SpotsPost;rw[HPL.out])
 obtain⟨P,hP⟩:∃P,SpotsPost W s=P:=⟨_,rfl⟩
 rw[hP] at HP ⊢
 clear hP
 go_enter Tryz.func14,Tryz.ntmps14
 conv=>arg 5;rw[←hy]
 clear hy
 go_wp2_with fail
 go_loopw [3,4] (fun v3 v4 wr=>∃(i:Nat) (pre:List (Pl s)) (y:WC W),v4=.int .i64 i∧i≤s.size∧pre.length≤i∧wr=y.w∧Hid (pre++placesFrom s i=PL)∧Hid (y.w.ownsRow W.heap.size 68 4 v3 pre.length (pre.flatMap (spC s)))) (fun _ v4 _=>s.size - (intOf v4).toNat)
 case atStart=>exact⟨0,[],y,rfl,Nat.zero_le _,Nat.zero_le _,rfl,Lib.hid HPL.out,Lib.hid (own_nil _ _ _ _)⟩
 case round=>
  clear y
  obtain⟨i,pre,y,rfl,hi,hpl,rfl,HPre,hown⟩:=hrel
  have i0:(0:Int)≤(i:Int):=Int.natCast_nonneg _
  by_cases hlt:i<s.size
  ·have i1:(i:Int)<(s.size:Int):=by omega
   have hst:=places_step hlt
   have hsq:=seq1_any (s.extract i s.size) y.w (by rw[ByteArray.size_extract];omega)
   rw[sq1_tail hlt] at hsq
   have hf:=dec_fits hlt
   have hw:=dec_width s i
   have hbr:=fun h=>bad_rune hlt h
   obtain⟨x,hx⟩:∃x:Pl s,x=⟨i,hlt⟩:=⟨_,rfl⟩
   rw[←hx] at hst
   have hxi:x.1=i:=by rw[hx]
   have HX:=Lib.hid hxi
   have HSt:=Lib.hid hst
   clear hst hx hxi
   obtain⟨R,hR⟩:∃R,(Utf8.decode s i).1=R:=⟨_,rfl⟩
   obtain⟨K,hK⟩:∃K,(Utf8.decode s i).2=K:=⟨_,rfl⟩
   rw[hR,hK] at hsq
   rw[hK] at hf hw HSt
   rw[hR] at hbr
   have HR:=Lib.hid hR
   have HK:=Lib.hid hK
   clear hR hK
   cases hg:goodAt s i with
   | true=>
    rw[hg,if_pos rfl] at hsq
    have HG:=Lib.hid hg
    have HSq:=Lib.hid hsq
    have hk0:((K:Int) == 0)=false:=by rw[beq_eq_false_iff_ne];omega
    clear hsq hg hbr
    have HC:Hid (([.int .i32 R,.int .i64 i,.int .i64 K,.bool false]:List Value)=spC s x):=Lib.hid (by unfold spC spR spB;rw[HX.out,HG.out,HR.out,HK.out];rfl)
    go_wp2_with fail
    (with_reducible refine Calls.mono HSq.out ?_)
    rintro e w' ⟨rfl,rfl⟩
    clear HSq
    go_upto_region 8 with fail
    have hE:Below y.w.heap.size y.w (y.w.alloc (.cells #[.int .i32 R,.int .i64 i,.int .i64 K,.bool false] 68)):=(Below.refl _ _).alloc (Nat.le_refl _) _
    have hown3:=own_later hown.out hE
    have bX:=Blk.new' y.w #[.int .i32 R,.int .i64 i,.int .i64 K,.bool false] 68
    obtain⟨y2,hy2⟩:∃z:WC W,z.w=y.w.alloc (.cells #[.int .i32 R,.int .i64 i,.int .i64 K,.bool false] 68):=⟨⟨_,y.h.alloc y.h.size _⟩,rfl⟩
    rw[←hy2] at bX hown3 ⊢
    obtain⟨bx,hbx⟩:∃b,y.w.heap.size=b:=⟨_,rfl⟩
    rw[hbx] at bX ⊢
    have Hbx:=Lib.hid hbx
    clear hy2 hbx hE
    have x0:=bX.cell 0
    have x1:=bX.cell 1
    have x2:=bX.cell 2
    have x3:=bX.cell 3
    dsimp only[List.getElem?_cons_zero,List.getElem?_cons_succ] at x0 x1 x2 x3
    have HBX:=Lib.hid bX
    clear bX
    have hz:=y2.h.size
    obtain⟨hq,hq0,hq1,hq2⟩:=HI.out
    go_wp2_with (at_builtin;refine wpList_append_own _ rfl _ _ 34 rfl W.heap.size 68 i0_ _ 4 32 Tryz.underlying34 hq hq0 hq1 hq2 rfl (by decide) _ pre.length (pre.flatMap (spC s)) rfl (hown3.alloc _) ⟨y2.w.heap.size,0,none⟩ 1 1 [.int .i32 R,.int .i64 i,.int .i64 K,.bool false] rfl rfl (new_cells _ _ (by simp) [.int .i32 R,.int .i64 i,.int .i64 K,.bool false] _) (by simp[Value.oneCell']) (by unfold maxLen;omega) (by omega) (by simp at hz ⊢;omega) ?_;intro v' w4 hown' hgrow _;have x4:w4.cell? ⟨bx,2,none⟩=some (.int .i64 K):=(World.cell?_of_block (hgrow.block bx (by have:=HBX.out.lt;simp;omega) (fun e=>absurd (hown.out.lt bx e.symm).2 (by rw[Hbx.out];omega)))).trans ((HBX.out.alloc _).cell 2))
    have hB5:=(y2.h.alloc y2.h.size (.cells [.int .i32 R,.int .i64 i,.int .i64 K,.bool false].toArray 68)).grown hgrow (by simp at hz ⊢;omega) (fun k e=>by have:=(hown3.lt k e).1;omega)
    exact⟨⟨i+K,pre++[x],⟨w4,hB5⟩,by go_num,by omega,by simp;omega,rfl,Lib.hid (by rw[←HPre.out,HSt.out];simp),Lib.hid (spot_snoc HC.out hown')⟩,by simp[intOf];omega⟩
   | false=>
    rw[hg,if_neg (by decide)] at hsq
    have HG:=Lib.hid hg
    have HSq:=Lib.hid hsq
    obtain rfl:R=65533:=hbr hg
    have HK1:Hid (K=1):=Lib.hid (by have h:=(by simpa [goodAt] using hg:((Utf8.decode s i).2=1∧128≤B s i));rw[HK.out] at h;exact h.1)
    clear hsq hg hbr
    have HC:Hid (([.int .i32 65533,.int .i64 i,.int .i64 1,.bool true]:List Value)=spC s x):=Lib.hid (by unfold spC spR spB;rw[HX.out,HG.out,HR.out,HK.out,HK1.out];rfl)
    go_wp2_with fail
    (with_reducible refine Calls.mono HSq.out ?_)
    rintro e w' ⟨rfl,rfl⟩
    clear HSq
    go_upto_region 8 with fail
    have hE:Below y.w.heap.size y.w (y.w.alloc (.cells #[.int .i32 65533,.int .i64 i,.int .i64 1,.bool true] 68)):=(Below.refl _ _).alloc (Nat.le_refl _) _
    have hown3:=own_later hown.out hE
    have bX:=Blk.new' y.w #[.int .i32 65533,.int .i64 i,.int .i64 1,.bool true] 68
    obtain⟨y2,hy2⟩:∃z:WC W,z.w=y.w.alloc (.cells #[.int .i32 65533,.int .i64 i,.int .i64 1,.bool true] 68):=⟨⟨_,y.h.alloc y.h.size _⟩,rfl⟩
    rw[←hy2] at bX hown3 ⊢
    obtain⟨bx,hbx⟩:∃b,y.w.heap.size=b:=⟨_,rfl⟩
    rw[hbx] at bX ⊢
    have Hbx:=Lib.hid hbx
    clear hy2 hbx hE
    have x0:=bX.cell 0
    have x1:=bX.cell 1
    have x2:=bX.cell 2
    have x3:=bX.cell 3
    dsimp only[List.getElem?_cons_zero,List.getElem?_cons_succ] at x0 x1 x2 x3
    have HBX:=Lib.hid bX
    clear bX
    have hz:=y2.h.size
    obtain⟨hq,hq0,hq1,hq2⟩:=HI.out
    go_wp2_with (at_builtin;refine wpList_append_own _ rfl _ _ 34 rfl W.heap.size 68 i0_ _ 4 32 Tryz.underlying34 hq hq0 hq1 hq2 rfl (by decide) _ pre.length (pre.flatMap (spC s)) rfl (hown3.alloc _) ⟨y2.w.heap.size,0,none⟩ 1 1 [.int .i32 65533,.int .i64 i,.int .i64 1,.bool true] rfl rfl (new_cells _ _ (by simp) [.int .i32 65533,.int .i64 i,.int .i64 1,.bool true] _) (by simp[Value.oneCell']) (by unfold maxLen;omega) (by omega) (by simp at hz ⊢;omega) ?_;intro v' w4 hown' hgrow _;have x4:w4.cell? ⟨bx,2,none⟩=some (.int .i64 1):=(World.cell?_of_block (hgrow.block bx (by have:=HBX.out.lt;simp;omega) (fun e=>absurd (hown.out.lt bx e.symm).2 (by rw[Hbx.out];omega)))).trans ((HBX.out.alloc _).cell 2))
    have hB5:=(y2.h.alloc y2.h.size (.cells [.int .i32 65533,.int .i64 i,.int .i64 1,.bool true].toArray 68)).grown hgrow (by simp at hz ⊢;omega) (fun k e=>by have:=(hown3.lt k e).1;omega)
    exact⟨⟨i+1,pre++[x],⟨w4,hB5⟩,by go_num,by omega,by simp;omega,rfl,Lib.hid (by rw[←HPre.out,HSt.out,HK1.out];simp),Lib.hid (spot_snoc HC.out hown')⟩,by simp[intOf];omega⟩
  ·obtain rfl:i=s.size:=by omega
   clear hi hlt i0 hpl
   have hp:=HPre.out
   rw[places_end (Nat.le_refl _),List.append_nil] at hp
   have HPr:=Lib.hid hp
   clear hp HPre
   go_wp2_with fail
   try go_ret
   rw[HP.out]
   exact⟨_,rfl,by rw[←HPr.out];exact hown.out,y.h⟩
end Go.Proofs.YtioehfhdoohdmaaGreatDoor
