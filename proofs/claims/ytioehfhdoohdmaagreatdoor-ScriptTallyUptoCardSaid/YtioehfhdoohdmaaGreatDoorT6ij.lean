/- T6ij: T6i, T6j. -/
import Derived.Test.YtioehfhdoohdmaaGreatDoorTabA
import Derived.Test.YtioehfhdoohdmaaGreatDoorT6P
import Derived.Laws.Bits64b
set_option linter.unusedVariables false
set_option linter.unusedSimpArgs false
namespace Go.Proofs.YtioehfhdoohdmaaGreatDoor
open Go.RowKit Go.Shelf BigFrame
set_option maxRecDepth 100000 in
set_option maxHeartbeats 8000000 in
theorem runes6_any (s:ByteArray) (W:World) (hs:s.size≤1048576):Calls Tryz.prog 130 #[.string s] W (Runes6Post W (runesO s)):=by
 obtain⟨R,hR⟩:∃R,runesO s=R:=⟨_,rfl⟩
 rw[hR]
 unfold runesO at hR
 have HF:=Lib.hid hR
 clear hR
 have hown0:W.ownsRow W.heap.size 21 1 (.slice none 0 0) ([]:List Int).length (([]:List Int).map (.int .i32)):=⟨rfl,Or.inl ⟨rfl,rfl⟩⟩
 go_enter Tryz.func130,Tryz.ntmps130
 go_wp2_with fail
 go_loopw [4,5] (fun v4 v5 wr=>∃(i f:Nat) (acc:List Int),v5=.int .i64 i∧i≤s.size∧s.size≤i+f∧acc.length≤i∧Hid (rsGo s f i acc=R)∧wr.ownsRow W.heap.size 21 1 v4 acc.length (acc.map (.int .i32))∧Below W.heap.size W wr) (fun _ v5 _=>s.size - (intOf v5).toNat)
 case atStart=>exact⟨0,s.size,[],rfl,Nat.zero_le _,by omega,Nat.zero_le _,HF,hown0,Below.refl _ _⟩
 case round=>
  clear HF hown0
  obtain⟨i,f,acc,rfl,hi,hf,hacc,HF,hown,hB⟩:=hrel
  have i0:(0:Int)≤(i:Int):=Int.natCast_nonneg _
  by_cases hlt:i<s.size
  ·have i1:(i:Int)<(s.size:Int):=by omega
   obtain⟨f,rfl⟩:∃g,f=g+1:=⟨f - 1,by omega⟩
   have Hb:=Lib.hid (B_at hlt)
   have hc:(s[i]'hlt).toNat<256:=UInt8.toNat_lt _
   have hwr:wrap32 ((s[i]'hlt).toNat:Int)=((s[i]'hlt).toNat:Int):=by unfold wrap32;omega
   by_cases h1:(s[i]'hlt).toNat<128
   ·have d1:decide (((s[i]'hlt).toNat:Int)<128)=true:=by rw[decide_eq_true_iff];omega
    have HF1:=Lib.hid ((rsGo_good hlt (good_ascii (by rw[Hb.out];exact h1)) (dec_ascii (by rw[Hb.out];exact h1))).symm.trans HF.out)
    rw[Hb.out] at HF1
    clear HF
    have hz:=hB.size
    obtain⟨q0,hq,hq0,hq1,hq2⟩:=info_parts info_rune
    go_wp2_with (at_builtin;refine wpList_append_own _ rfl _ _ 176 rfl W.heap.size 21 q0 _ 1 4 Tryz.underlying176 hq hq0 hq1 hq2 rfl (by decide) _ acc.length (acc.map (.int .i32)) rfl (hown.alloc _) ⟨wr.heap.size,0,none⟩ 1 1 [.int .i32 ((s[i]'hlt).toNat:Int)] rfl rfl (new_cells _ _ (by simp) [.int .i32 ((s[i]'hlt).toNat:Int)] _) (by simp[Value.oneCell']) (by unfold maxLen;omega) (by omega) (by simp at hz ⊢;omega) ?_;intro v' w4 hown' hgrow _)
    have hB5:=(hB.alloc hB.size (.cells [.int .i32 ((s[i]'hlt).toNat:Int)].toArray 21)).grown hgrow (by simp at hz ⊢;omega) (fun k e=>by have:=(hown.lt k e).1;omega)
    exact⟨⟨i+1,f,acc++[((s[i]'hlt).toNat:Int)],by go_num,by omega,by omega,by simp;omega,HF1,rune_snoc hown',hB5⟩,by simp[intOf];omega⟩
   ·have d1:decide (((s[i]'hlt).toNat:Int)<128)=false:=by rw[decide_eq_false_iff_not];omega
    by_cases h2:192≤(s[i]'hlt).toNat
    ·have d2:decide (192≤((s[i]'hlt).toNat:Int))=true:=by rw[decide_eq_true_iff];omega
     by_cases h3:(s[i]'hlt).toNat<224
     ·have d3:decide (((s[i]'hlt).toNat:Int)<224)=true:=by rw[decide_eq_true_iff];omega
      have hk6:=r6_one (s:=s) (i:=i) (by rw[Hb.out];omega)
      rw[Hb.out] at hk6
      obtain⟨SG,hSG⟩:∃SG,seqGo s i 1 1 128 191 ((s[i]'hlt).toNat - 192)=SG:=⟨_,rfl⟩
      have H6:Hid (R6Ok s i 1 (if SG.2.2=true∧128≤SG.1∧runeB (SG.1:Int)=true then some SG.1 else none)):=Lib.hid (by rw[←hSG];exact hk6)
      have HSG:=Lib.hid hSG
      clear hk6 hSG
      obtain⟨q,hq⟩:∃q:Nat,(s[i]'hlt).toNat=192+q:=⟨(s[i]'hlt).toNat - 192,by omega⟩
      have Hq:=Lib.hid hq
      have hqb:q<32:=by omega
      clear hq
      go_wp2_with fail
      go_loopw [8,9] (fun v8 v9 wx=>∃k g r:Nat,v8=.int .i32 r∧v9=.int .i64 k∧k+g=2∧1≤k∧r<2097152∧Hid (r<bnd6 g)∧Hid (seqGo s i g k 128 191 r=SG)∧wx=wr) (fun _ v9 _=>2 - (intOf v9).toNat)
      case atStart=>exact⟨1,1,q,by have:=Hq.out;simp only[this];go_num,rfl,by omega,by omega,by omega,Lib.hid (by simp[bnd6];omega),Lib.hid (by rw[←HSG.out,Hq.out];congr 1;omega),rfl⟩
      case round=>
       clear HSG Hq hqb
       obtain⟨k,g,r,rfl,rfl,hkg,hk1,hr,Hr,Hg,rfl⟩:=hrel
       cases g with
       | zero=>
        obtain rfl:k=2:=by omega
        have HS2:Hid (SG=(r,i+2,true)):=Lib.hid (by rw[←Hg.out];rfl)
        have H7:Hid (R6Ok s i 1 (if 128≤r∧runeB (r:Int)=true then some r else none)):=Lib.hid (by have h:=H6.out;rw[HS2.out] at h;simpa using h)
        clear H6 Hg
        have HRu:=Lib.hid (fun W=>rune_any (r:Int) W)
        by_cases hle:128≤r
        ·have dl:decide ((r:Int)<128)=false:=by rw[decide_eq_false_iff_not];omega
         cases hru:runeB (r:Int) with
         | true=>
          have hgo:=H7.out
          rw[if_pos ⟨hle,hru⟩] at hgo
          obtain⟨hg1,hg2⟩:=hgo.1 r rfl
          have HF1:=Lib.hid ((rsGo_good hlt hg1 hg2).symm.trans HF.out)
          have hin:i+2≤s.size:=by have:=dec_fits hlt;rw[hg2] at this;exact this
          rw[hru] at HRu
          clear hgo hg1 hg2 HF H7 HS2
          go_wp2_with fail
          refine Calls.mono (HRu.out _) ?_
          rintro e w' ⟨rfl,rfl⟩
          have hz:=hB.size
          obtain⟨q0,hq,hq0,hq1,hq2⟩:=info_parts info_rune
          go_wp2_with (at_builtin;refine wpList_append_own _ rfl _ _ 176 rfl W.heap.size 21 q0 _ 1 4 Tryz.underlying176 hq hq0 hq1 hq2 rfl (by decide) _ acc.length (acc.map (.int .i32)) rfl (hown.alloc _) ⟨wr.heap.size,0,none⟩ 1 1 [.int .i32 r] rfl rfl (new_cells _ _ (by simp) [.int .i32 r] _) (by simp[Value.oneCell']) (by unfold maxLen;omega) (by omega) (by simp at hz ⊢;omega) ?_;intro v' w4 hown' hgrow _)
          have hB5:=(hB.alloc hB.size (.cells [.int .i32 r].toArray 21)).grown hgrow (by simp at hz ⊢;omega) (fun k e=>by have:=(hown.lt k e).1;omega)
          exact⟨⟨i+2,f,acc++[(r:Int)],by go_num,by omega,by omega,by simp;omega,HF1,rune_snoc hown',hB5⟩,by simp[intOf];omega⟩
         | false=>
          have hgo:=H7.out
          rw[if_neg (fun e=>by rw[hru] at e;cases e.2)] at hgo
          have HR:=Lib.hid ((rsGo_bad hlt (hgo.2 rfl)).symm.trans HF.out)
          rw[hru] at HRu
          clear hgo HF H7 HS2
          go_wp2_with fail
          refine Calls.mono (HRu.out _) ?_
          rintro e w' ⟨rfl,rfl⟩
          go_wp2_with fail
          exact bodyPost_ret (v:=.tuple #[.slice none 0 0,.bool false]) (by simp[results,Tryz.results130,go_sem]) rfl (runes6_no HR.out hB)
        ·have dl:decide ((r:Int)<128)=true:=by rw[decide_eq_true_iff];omega
         have hgo:=H7.out
         rw[if_neg (fun e=>hle e.1)] at hgo
         have HR:=Lib.hid ((rsGo_bad hlt (hgo.2 rfl)).symm.trans HF.out)
         clear hgo HF H7 HS2
         go_wp2_with fail
         exact bodyPost_ret (v:=.tuple #[.slice none 0 0,.bool false]) (by simp[results,Tryz.results130,go_sem]) rfl (runes6_no HR.out hB)
       | succ g=>
        have hk2:k≤1:=by omega
        have hg2:g≤2:=by omega
        by_cases hin:i+k<s.size
        ·have Hb2:=Lib.hid (B_at hin)
         have hc2:(s[i+k]'hin).toNat<256:=UInt8.toNat_lt _
         have e1:decide ((s.size:Int)≤(i:Int)+(k:Int))=false:=by rw[decide_eq_false_iff_not];omega
         by_cases hl:(s[i+k]'hin).toNat<128
         ·have e2:decide (((s[i+k]'hin).toNat:Int)<128)=true:=by rw[decide_eq_true_iff];omega
          have HS2:Hid (SG.2.2=false):=Lib.hid (by rw[←Hg.out,seqGo,if_neg (by rw[Hb2.out];omega)])
          have HR:=Lib.hid ((rsGo_bad hlt (H6.out.2 (if_neg (fun e=>by rw[HS2.out] at e;cases e.1)))).symm.trans HF.out)
          clear H6 HF Hg HS2
          go_wp2_with fail
          exact bodyPost_ret (v:=.tuple #[.slice none 0 0,.bool false]) (by simp[results,Tryz.results130,go_sem]) rfl (runes6_no HR.out hB)
         ·have e2:decide (((s[i+k]'hin).toNat:Int)<128)=false:=by rw[decide_eq_false_iff_not];omega
          by_cases hh:192≤(s[i+k]'hin).toNat
          ·have e3:decide (192≤((s[i+k]'hin).toNat:Int))=true:=by rw[decide_eq_true_iff];omega
           have HS2:Hid (SG.2.2=false):=Lib.hid (by rw[←Hg.out,seqGo,if_neg (by rw[Hb2.out];omega)])
           have HR:=Lib.hid ((rsGo_bad hlt (H6.out.2 (if_neg (fun e=>by rw[HS2.out] at e;cases e.1)))).symm.trans HF.out)
           clear H6 HF Hg HS2
           go_wp2_with fail
           exact bodyPost_ret (v:=.tuple #[.slice none 0 0,.bool false]) (by simp[results,Tryz.results130,go_sem]) rfl (runes6_no HR.out hB)
          ·have e3:decide (192≤((s[i+k]'hin).toNat:Int))=false:=by rw[decide_eq_false_iff_not];omega
           have hst:seqGo s i (g+1) k 128 191 r=seqGo s i g (k+1) 128 191 (r*64+(s[i+k]'hin).toNat % 64):=by rw[seqGo,if_pos (by rw[Hb2.out];omega),Hb2.out]
           have Hg2:=Lib.hid (hst.symm.trans Hg.out)
           have hbs:=bnd6_step Hr.out hg2 (Nat.mod_lt (s[i+k]'hin).toNat (by decide:0<64))
           have hbl:=bnd6_le hbs
           have Hbs:=Lib.hid hbs
           clear hst hbs Hg
           obtain⟨q,hq⟩:∃q:Nat,(s[i+k]'hin).toNat=128+q:=⟨(s[i+k]'hin).toNat - 128,by omega⟩
           have hq6:(s[i+k]'hin).toNat % 64=q:=by omega
           rw[hq6] at Hg2 Hbs hbl
           have hql:q<64:=by omega
           have Hq:=Lib.hid hq
           clear hq hq6
           go_wp2_with fail
           exact⟨⟨k+1,g,r*64+q,by have:=Hq.out;simp only[this];go_num,by go_num,by omega,by omega,hbl,Hbs,Hg2,by first | rfl | trivial⟩,by simp[intOf];omega⟩
        ·have e1:decide ((s.size:Int)≤(i:Int)+(k:Int))=true:=by rw[decide_eq_true_iff];omega
         have HS2:Hid (SG.2.2=false):=Lib.hid (by rw[←Hg.out,seqGo,if_neg (by omega)])
         have HR:=Lib.hid ((rsGo_bad hlt (H6.out.2 (if_neg (fun e=>by rw[HS2.out] at e;cases e.1)))).symm.trans HF.out)
         clear H6 HF Hg HS2
         go_wp2_with fail
         exact bodyPost_ret (v:=.tuple #[.slice none 0 0,.bool false]) (by simp[results,Tryz.results130,go_sem]) rfl (runes6_no HR.out hB)
     ·have d3:decide (((s[i]'hlt).toNat:Int)<224)=false:=by rw[decide_eq_false_iff_not];omega
      have d4:decide (224≤((s[i]'hlt).toNat:Int))=true:=by rw[decide_eq_true_iff];omega
      by_cases h5:(s[i]'hlt).toNat<240
      ·have d5:decide (((s[i]'hlt).toNat:Int)<240)=true:=by rw[decide_eq_true_iff];omega
       have hk6:=r6_two (s:=s) (i:=i) (by rw[Hb.out];omega)
       rw[Hb.out] at hk6
       obtain⟨SG,hSG⟩:∃SG,seqGo s i 2 1 128 191 ((s[i]'hlt).toNat - 224)=SG:=⟨_,rfl⟩
       have H6:Hid (R6Ok s i 2 (if SG.2.2=true∧2048≤SG.1∧runeB (SG.1:Int)=true then some SG.1 else none)):=Lib.hid (by rw[←hSG];exact hk6)
       have HSG:=Lib.hid hSG
       clear hk6 hSG
       obtain⟨q,hq⟩:∃q:Nat,(s[i]'hlt).toNat=224+q:=⟨(s[i]'hlt).toNat - 224,by omega⟩
       have Hq:=Lib.hid hq
       have hqb:q<16:=by omega
       clear hq
       go_wp2_with fail
       go_loopw [8,9] (fun v8 v9 wx=>∃k g r:Nat,v8=.int .i32 r∧v9=.int .i64 k∧k+g=3∧1≤k∧r<2097152∧Hid (r<bnd6 g)∧Hid (seqGo s i g k 128 191 r=SG)∧wx=wr) (fun _ v9 _=>3 - (intOf v9).toNat)
       case atStart=>exact⟨1,2,q,by have:=Hq.out;simp only[this];go_num,rfl,by omega,by omega,by omega,Lib.hid (by simp[bnd6];omega),Lib.hid (by rw[←HSG.out,Hq.out];congr 1;omega),rfl⟩
       case round=>
        clear HSG Hq hqb
        obtain⟨k,g,r,rfl,rfl,hkg,hk1,hr,Hr,Hg,rfl⟩:=hrel
        cases g with
        | zero=>
         obtain rfl:k=3:=by omega
         have HS2:Hid (SG=(r,i+3,true)):=Lib.hid (by rw[←Hg.out];rfl)
         have H7:Hid (R6Ok s i 2 (if 2048≤r∧runeB (r:Int)=true then some r else none)):=Lib.hid (by have h:=H6.out;rw[HS2.out] at h;simpa using h)
         clear H6 Hg
         have HRu:=Lib.hid (fun W=>rune_any (r:Int) W)
         by_cases hle:2048≤r
         ·have dl:decide ((r:Int)<2048)=false:=by rw[decide_eq_false_iff_not];omega
          cases hru:runeB (r:Int) with
          | true=>
           have hgo:=H7.out
           rw[if_pos ⟨hle,hru⟩] at hgo
           obtain⟨hg1,hg2⟩:=hgo.1 r rfl
           have HF1:=Lib.hid ((rsGo_good hlt hg1 hg2).symm.trans HF.out)
           have hin:i+3≤s.size:=by have:=dec_fits hlt;rw[hg2] at this;exact this
           rw[hru] at HRu
           clear hgo hg1 hg2 HF H7 HS2
           go_wp2_with fail
           refine Calls.mono (HRu.out _) ?_
           rintro e w' ⟨rfl,rfl⟩
           have hz:=hB.size
           obtain⟨q0,hq,hq0,hq1,hq2⟩:=info_parts info_rune
           go_wp2_with (at_builtin;refine wpList_append_own _ rfl _ _ 176 rfl W.heap.size 21 q0 _ 1 4 Tryz.underlying176 hq hq0 hq1 hq2 rfl (by decide) _ acc.length (acc.map (.int .i32)) rfl (hown.alloc _) ⟨wr.heap.size,0,none⟩ 1 1 [.int .i32 r] rfl rfl (new_cells _ _ (by simp) [.int .i32 r] _) (by simp[Value.oneCell']) (by unfold maxLen;omega) (by omega) (by simp at hz ⊢;omega) ?_;intro v' w4 hown' hgrow _)
           have hB5:=(hB.alloc hB.size (.cells [.int .i32 r].toArray 21)).grown hgrow (by simp at hz ⊢;omega) (fun k e=>by have:=(hown.lt k e).1;omega)
           exact⟨⟨i+3,f,acc++[(r:Int)],by go_num,by omega,by omega,by simp;omega,HF1,rune_snoc hown',hB5⟩,by simp[intOf];omega⟩
          | false=>
           have hgo:=H7.out
           rw[if_neg (fun e=>by rw[hru] at e;cases e.2)] at hgo
           have HR:=Lib.hid ((rsGo_bad hlt (hgo.2 rfl)).symm.trans HF.out)
           rw[hru] at HRu
           clear hgo HF H7 HS2
           go_wp2_with fail
           refine Calls.mono (HRu.out _) ?_
           rintro e w' ⟨rfl,rfl⟩
           go_wp2_with fail
           exact bodyPost_ret (v:=.tuple #[.slice none 0 0,.bool false]) (by simp[results,Tryz.results130,go_sem]) rfl (runes6_no HR.out hB)
         ·have dl:decide ((r:Int)<2048)=true:=by rw[decide_eq_true_iff];omega
          have hgo:=H7.out
          rw[if_neg (fun e=>hle e.1)] at hgo
          have HR:=Lib.hid ((rsGo_bad hlt (hgo.2 rfl)).symm.trans HF.out)
          clear hgo HF H7 HS2
          go_wp2_with fail
          exact bodyPost_ret (v:=.tuple #[.slice none 0 0,.bool false]) (by simp[results,Tryz.results130,go_sem]) rfl (runes6_no HR.out hB)
        | succ g=>
         have hk2:k≤2:=by omega
         have hg2:g≤2:=by omega
         by_cases hin:i+k<s.size
         ·have Hb2:=Lib.hid (B_at hin)
          have hc2:(s[i+k]'hin).toNat<256:=UInt8.toNat_lt _
          have e1:decide ((s.size:Int)≤(i:Int)+(k:Int))=false:=by rw[decide_eq_false_iff_not];omega
          by_cases hl:(s[i+k]'hin).toNat<128
          ·have e2:decide (((s[i+k]'hin).toNat:Int)<128)=true:=by rw[decide_eq_true_iff];omega
           have HS2:Hid (SG.2.2=false):=Lib.hid (by rw[←Hg.out,seqGo,if_neg (by rw[Hb2.out];omega)])
           have HR:=Lib.hid ((rsGo_bad hlt (H6.out.2 (if_neg (fun e=>by rw[HS2.out] at e;cases e.1)))).symm.trans HF.out)
           clear H6 HF Hg HS2
           go_wp2_with fail
           exact bodyPost_ret (v:=.tuple #[.slice none 0 0,.bool false]) (by simp[results,Tryz.results130,go_sem]) rfl (runes6_no HR.out hB)
          ·have e2:decide (((s[i+k]'hin).toNat:Int)<128)=false:=by rw[decide_eq_false_iff_not];omega
           by_cases hh:192≤(s[i+k]'hin).toNat
           ·have e3:decide (192≤((s[i+k]'hin).toNat:Int))=true:=by rw[decide_eq_true_iff];omega
            have HS2:Hid (SG.2.2=false):=Lib.hid (by rw[←Hg.out,seqGo,if_neg (by rw[Hb2.out];omega)])
            have HR:=Lib.hid ((rsGo_bad hlt (H6.out.2 (if_neg (fun e=>by rw[HS2.out] at e;cases e.1)))).symm.trans HF.out)
            clear H6 HF Hg HS2
            go_wp2_with fail
            exact bodyPost_ret (v:=.tuple #[.slice none 0 0,.bool false]) (by simp[results,Tryz.results130,go_sem]) rfl (runes6_no HR.out hB)
           ·have e3:decide (192≤((s[i+k]'hin).toNat:Int))=false:=by rw[decide_eq_false_iff_not];omega
            have hst:seqGo s i (g+1) k 128 191 r=seqGo s i g (k+1) 128 191 (r*64+(s[i+k]'hin).toNat % 64):=by rw[seqGo,if_pos (by rw[Hb2.out];omega),Hb2.out]
            have Hg2:=Lib.hid (hst.symm.trans Hg.out)
            have hbs:=bnd6_step Hr.out hg2 (Nat.mod_lt (s[i+k]'hin).toNat (by decide:0<64))
            have hbl:=bnd6_le hbs
            have Hbs:=Lib.hid hbs
            clear hst hbs Hg
            obtain⟨q,hq⟩:∃q:Nat,(s[i+k]'hin).toNat=128+q:=⟨(s[i+k]'hin).toNat - 128,by omega⟩
            have hq6:(s[i+k]'hin).toNat % 64=q:=by omega
            rw[hq6] at Hg2 Hbs hbl
            have hql:q<64:=by omega
            have Hq:=Lib.hid hq
            clear hq hq6
            go_wp2_with fail
            exact⟨⟨k+1,g,r*64+q,by have:=Hq.out;simp only[this];go_num,by go_num,by omega,by omega,hbl,Hbs,Hg2,by first | rfl | trivial⟩,by simp[intOf];omega⟩
         ·have e1:decide ((s.size:Int)≤(i:Int)+(k:Int))=true:=by rw[decide_eq_true_iff];omega
          have HS2:Hid (SG.2.2=false):=Lib.hid (by rw[←Hg.out,seqGo,if_neg (by omega)])
          have HR:=Lib.hid ((rsGo_bad hlt (H6.out.2 (if_neg (fun e=>by rw[HS2.out] at e;cases e.1)))).symm.trans HF.out)
          clear H6 HF Hg HS2
          go_wp2_with fail
          exact bodyPost_ret (v:=.tuple #[.slice none 0 0,.bool false]) (by simp[results,Tryz.results130,go_sem]) rfl (runes6_no HR.out hB)
      ·have d5:decide (((s[i]'hlt).toNat:Int)<240)=false:=by rw[decide_eq_false_iff_not];omega
       have d6:decide (240≤((s[i]'hlt).toNat:Int))=true:=by rw[decide_eq_true_iff];omega
       by_cases h7:(s[i]'hlt).toNat<248
       ·have d7:decide (((s[i]'hlt).toNat:Int)<248)=true:=by rw[decide_eq_true_iff];omega
        have hk6:=r6_three (s:=s) (i:=i) (by rw[Hb.out];omega)
        rw[Hb.out] at hk6
        obtain⟨SG,hSG⟩:∃SG,seqGo s i 3 1 128 191 ((s[i]'hlt).toNat - 240)=SG:=⟨_,rfl⟩
        have H6:Hid (R6Ok s i 3 (if SG.2.2=true∧65536≤SG.1∧runeB (SG.1:Int)=true then some SG.1 else none)):=Lib.hid (by rw[←hSG];exact hk6)
        have HSG:=Lib.hid hSG
        clear hk6 hSG
        obtain⟨q,hq⟩:∃q:Nat,(s[i]'hlt).toNat=240+q:=⟨(s[i]'hlt).toNat - 240,by omega⟩
        have Hq:=Lib.hid hq
        have hqb:q<8:=by omega
        clear hq
        go_wp2_with fail
        go_loopw [8,9] (fun v8 v9 wx=>∃k g r:Nat,v8=.int .i32 r∧v9=.int .i64 k∧k+g=4∧1≤k∧r<2097152∧Hid (r<bnd6 g)∧Hid (seqGo s i g k 128 191 r=SG)∧wx=wr) (fun _ v9 _=>4 - (intOf v9).toNat)
        case atStart=>exact⟨1,3,q,by have:=Hq.out;simp only[this];go_num,rfl,by omega,by omega,by omega,Lib.hid (by simp[bnd6];omega),Lib.hid (by rw[←HSG.out,Hq.out];congr 1;omega),rfl⟩
        case round=>
         clear HSG Hq hqb
         obtain⟨k,g,r,rfl,rfl,hkg,hk1,hr,Hr,Hg,rfl⟩:=hrel
         cases g with
         | zero=>
          obtain rfl:k=4:=by omega
          have HS2:Hid (SG=(r,i+4,true)):=Lib.hid (by rw[←Hg.out];rfl)
          have H7:Hid (R6Ok s i 3 (if 65536≤r∧runeB (r:Int)=true then some r else none)):=Lib.hid (by have h:=H6.out;rw[HS2.out] at h;simpa using h)
          clear H6 Hg
          have HRu:=Lib.hid (fun W=>rune_any (r:Int) W)
          by_cases hle:65536≤r
          ·have dl:decide ((r:Int)<65536)=false:=by rw[decide_eq_false_iff_not];omega
           cases hru:runeB (r:Int) with
           | true=>
            have hgo:=H7.out
            rw[if_pos ⟨hle,hru⟩] at hgo
            obtain⟨hg1,hg2⟩:=hgo.1 r rfl
            have HF1:=Lib.hid ((rsGo_good hlt hg1 hg2).symm.trans HF.out)
            have hin:i+4≤s.size:=by have:=dec_fits hlt;rw[hg2] at this;exact this
            rw[hru] at HRu
            clear hgo hg1 hg2 HF H7 HS2
            go_wp2_with fail
            refine Calls.mono (HRu.out _) ?_
            rintro e w' ⟨rfl,rfl⟩
            have hz:=hB.size
            obtain⟨q0,hq,hq0,hq1,hq2⟩:=info_parts info_rune
            go_wp2_with (at_builtin;refine wpList_append_own _ rfl _ _ 176 rfl W.heap.size 21 q0 _ 1 4 Tryz.underlying176 hq hq0 hq1 hq2 rfl (by decide) _ acc.length (acc.map (.int .i32)) rfl (hown.alloc _) ⟨wr.heap.size,0,none⟩ 1 1 [.int .i32 r] rfl rfl (new_cells _ _ (by simp) [.int .i32 r] _) (by simp[Value.oneCell']) (by unfold maxLen;omega) (by omega) (by simp at hz ⊢;omega) ?_;intro v' w4 hown' hgrow _)
            have hB5:=(hB.alloc hB.size (.cells [.int .i32 r].toArray 21)).grown hgrow (by simp at hz ⊢;omega) (fun k e=>by have:=(hown.lt k e).1;omega)
            exact⟨⟨i+4,f,acc++[(r:Int)],by go_num,by omega,by omega,by simp;omega,HF1,rune_snoc hown',hB5⟩,by simp[intOf];omega⟩
           | false=>
            have hgo:=H7.out
            rw[if_neg (fun e=>by rw[hru] at e;cases e.2)] at hgo
            have HR:=Lib.hid ((rsGo_bad hlt (hgo.2 rfl)).symm.trans HF.out)
            rw[hru] at HRu
            clear hgo HF H7 HS2
            go_wp2_with fail
            refine Calls.mono (HRu.out _) ?_
            rintro e w' ⟨rfl,rfl⟩
            go_wp2_with fail
            exact bodyPost_ret (v:=.tuple #[.slice none 0 0,.bool false]) (by simp[results,Tryz.results130,go_sem]) rfl (runes6_no HR.out hB)
          ·have dl:decide ((r:Int)<65536)=true:=by rw[decide_eq_true_iff];omega
           have hgo:=H7.out
           rw[if_neg (fun e=>hle e.1)] at hgo
           have HR:=Lib.hid ((rsGo_bad hlt (hgo.2 rfl)).symm.trans HF.out)
           clear hgo HF H7 HS2
           go_wp2_with fail
           exact bodyPost_ret (v:=.tuple #[.slice none 0 0,.bool false]) (by simp[results,Tryz.results130,go_sem]) rfl (runes6_no HR.out hB)
         | succ g=>
          have hk2:k≤3:=by omega
          have hg2:g≤2:=by omega
          by_cases hin:i+k<s.size
          ·have Hb2:=Lib.hid (B_at hin)
           have hc2:(s[i+k]'hin).toNat<256:=UInt8.toNat_lt _
           have e1:decide ((s.size:Int)≤(i:Int)+(k:Int))=false:=by rw[decide_eq_false_iff_not];omega
           by_cases hl:(s[i+k]'hin).toNat<128
           ·have e2:decide (((s[i+k]'hin).toNat:Int)<128)=true:=by rw[decide_eq_true_iff];omega
            have HS2:Hid (SG.2.2=false):=Lib.hid (by rw[←Hg.out,seqGo,if_neg (by rw[Hb2.out];omega)])
            have HR:=Lib.hid ((rsGo_bad hlt (H6.out.2 (if_neg (fun e=>by rw[HS2.out] at e;cases e.1)))).symm.trans HF.out)
            clear H6 HF Hg HS2
            go_wp2_with fail
            exact bodyPost_ret (v:=.tuple #[.slice none 0 0,.bool false]) (by simp[results,Tryz.results130,go_sem]) rfl (runes6_no HR.out hB)
           ·have e2:decide (((s[i+k]'hin).toNat:Int)<128)=false:=by rw[decide_eq_false_iff_not];omega
            by_cases hh:192≤(s[i+k]'hin).toNat
            ·have e3:decide (192≤((s[i+k]'hin).toNat:Int))=true:=by rw[decide_eq_true_iff];omega
             have HS2:Hid (SG.2.2=false):=Lib.hid (by rw[←Hg.out,seqGo,if_neg (by rw[Hb2.out];omega)])
             have HR:=Lib.hid ((rsGo_bad hlt (H6.out.2 (if_neg (fun e=>by rw[HS2.out] at e;cases e.1)))).symm.trans HF.out)
             clear H6 HF Hg HS2
             go_wp2_with fail
             exact bodyPost_ret (v:=.tuple #[.slice none 0 0,.bool false]) (by simp[results,Tryz.results130,go_sem]) rfl (runes6_no HR.out hB)
            ·have e3:decide (192≤((s[i+k]'hin).toNat:Int))=false:=by rw[decide_eq_false_iff_not];omega
             have hst:seqGo s i (g+1) k 128 191 r=seqGo s i g (k+1) 128 191 (r*64+(s[i+k]'hin).toNat % 64):=by rw[seqGo,if_pos (by rw[Hb2.out];omega),Hb2.out]
             have Hg2:=Lib.hid (hst.symm.trans Hg.out)
             have hbs:=bnd6_step Hr.out hg2 (Nat.mod_lt (s[i+k]'hin).toNat (by decide:0<64))
             have hbl:=bnd6_le hbs
             have Hbs:=Lib.hid hbs
             clear hst hbs Hg
             obtain⟨q,hq⟩:∃q:Nat,(s[i+k]'hin).toNat=128+q:=⟨(s[i+k]'hin).toNat - 128,by omega⟩
             have hq6:(s[i+k]'hin).toNat % 64=q:=by omega
             rw[hq6] at Hg2 Hbs hbl
             have hql:q<64:=by omega
             have Hq:=Lib.hid hq
             clear hq hq6
             go_wp2_with fail
             exact⟨⟨k+1,g,r*64+q,by have:=Hq.out;simp only[this];go_num,by go_num,by omega,by omega,hbl,Hbs,Hg2,by first | rfl | trivial⟩,by simp[intOf];omega⟩
          ·have e1:decide ((s.size:Int)≤(i:Int)+(k:Int))=true:=by rw[decide_eq_true_iff];omega
           have HS2:Hid (SG.2.2=false):=Lib.hid (by rw[←Hg.out,seqGo,if_neg (by omega)])
           have HR:=Lib.hid ((rsGo_bad hlt (H6.out.2 (if_neg (fun e=>by rw[HS2.out] at e;cases e.1)))).symm.trans HF.out)
           clear H6 HF Hg HS2
           go_wp2_with fail
           exact bodyPost_ret (v:=.tuple #[.slice none 0 0,.bool false]) (by simp[results,Tryz.results130,go_sem]) rfl (runes6_no HR.out hB)
       ·have d7:decide (((s[i]'hlt).toNat:Int)<248)=false:=by rw[decide_eq_false_iff_not];omega
        have HR:=Lib.hid ((rsGo_bad hlt (r6_no (by rw[Hb.out];omega))).symm.trans HF.out)
        clear HF
        go_wp2_with fail
        exact bodyPost_ret (v:=.tuple #[.slice none 0 0,.bool false]) (by simp[results,Tryz.results130,go_sem]) rfl (runes6_no HR.out hB)
    ·have d2:decide (192≤((s[i]'hlt).toNat:Int))=false:=by rw[decide_eq_false_iff_not];omega
     have d4:decide (224≤((s[i]'hlt).toNat:Int))=false:=by rw[decide_eq_false_iff_not];omega
     have d6:decide (240≤((s[i]'hlt).toNat:Int))=false:=by rw[decide_eq_false_iff_not];omega
     have HR:=Lib.hid ((rsGo_bad hlt (r6_no (by rw[Hb.out];omega))).symm.trans HF.out)
     clear HF
     go_wp2_with fail
     exact bodyPost_ret (v:=.tuple #[.slice none 0 0,.bool false]) (by simp[results,Tryz.results130,go_sem]) rfl (runes6_no HR.out hB)
  ·obtain rfl:i=s.size:=by omega
   have HR:=Lib.hid ((rsGo_end (Nat.le_refl _)).symm.trans HF.out)
   clear HF hi hf
   go_wp2_with fail
   exact bodyPost_ret (v:=.tuple #[u4,.bool true]) (by simp[results,Tryz.results130,go_sem]) rfl (runes6_yes HR.out hown hB)
end Go.Proofs.YtioehfhdoohdmaaGreatDoor
namespace Go.Proofs.YtioehfhdoohdmaaGreatDoor
open Go.RowKit Go.Shelf BigFrame
set_option maxHeartbeats 2000000 in
theorem set_any (r:Int) (W:World):Calls Tryz.prog 150 #[.int .i32 r] W fun e w'=>e=.returned (.bool (setB r))∧W=w':=by
 by_cases h:r<32
 ·have d:decide (r<32)=true:=by simpa using h
  have E:setB r=true:=by simp[setB,h]
  go_enter Tryz.func150,Tryz.ntmps150
  go_wp2
  go_ret
  exact⟨by first | rfl | (rw[E];rfl),rfl⟩
 ·have d:decide (r<32)=false:=by simpa using h
  by_cases h1:r=45
  ·subst h1
   have E:setB 45=true:=by decide
   go_enter Tryz.func150,Tryz.ntmps150
   go_wp2
   go_ret
   exact⟨by first | rfl | (rw[E];rfl),rfl⟩
  ·have d1:(r == 45)=false:=by simpa using h1
   by_cases h2:r=46
   ·subst h2
    have E:setB 46=true:=by decide
    go_enter Tryz.func150,Tryz.ntmps150
    go_wp2
    go_ret
    exact⟨by first | rfl | (rw[E];rfl),rfl⟩
   ·have d2:(r == 46)=false:=by simpa using h2
    by_cases h3:r=65533
    ·subst h3
     have E:setB 65533=true:=by decide
     go_enter Tryz.func150,Tryz.ntmps150
     go_wp2
     go_ret
     exact⟨by first | rfl | (rw[E];rfl),rfl⟩
    ·have d3:(r == 65533)=false:=by simpa using h3
     have E:setB r=false:=by simp[setB,h,h1,h2,h3]
     go_enter Tryz.func150,Tryz.ntmps150
     go_wp2
     go_ret
     exact⟨by first | rfl | (rw[E];rfl),rfl⟩
theorem runes6_list (s:ByteArray) (W:World) (hs:s.size≤1048576):Calls Tryz.prog 130 #[.string s] W fun e w'=>∃(o:Option Addr) (c:Nat),e=.returned (.tuple #[.slice o (rnL s).length c,.bool (runesO s).isSome]) ∧
 (∀i (h:i<(rnL s).length),∃g,o=some ⟨g,0,none⟩∧w'.cell? ⟨g,i,none⟩=some (.int .i32 (rnL s)[i]))∧(rnL s).length≤maxLen∧Below W.heap.size W w':=by
 refine (runes6_any s W hs).mono ?_
 rintro e w' ⟨v,rfl,ho,hB⟩
 obtain⟨o,c,rfl,hc,hn,hcell⟩:=own_form ho
 refine⟨o,c,rfl,fun i hi=>?_,Nat.le_trans hn hc,hB⟩
 obtain⟨g,e1,_,_,e2⟩:=hcell i (.int .i32 (rnL s)[i]) (by show ((rnL s).map (Value.int .i32))[i]?=_;rw[List.getElem?_map,List.getElem?_eq_getElem hi];rfl)
 exact⟨g,e1,e2⟩
theorem spans_w (o:Option Addr) (c:Nat) (l:List Span) (n:Int) (hl:0≤n∧n≤100) (W:World) (h:SpansAt W o l) (hm:l.length≤maxLen):Calls Tryz.prog 123 #[.slice o l.length c,.int .i64 n] W fun e w'=>e=.returned (wV (spansW n l))∧Below W.heap.size W w':=by
 rw[←spansW_eq];exact spans_any o c l n hl W h hm
set_option maxRecDepth 100000 in
set_option maxHeartbeats 4000000 in
theorem sets_any (s:ByteArray) (W:World) (hs:s.size≤1048576):Calls Tryz.prog 149 #[.string s] W fun e w'=>e=.returned (.bool (setsB s))∧Below W.heap.size W w':=by
 have HR0:=runes6_list s W hs
 unfold setsB
 generalize rnL s=l at *
 have HR:=Lib.hid HR0
 have HS:=Lib.hid (fun r W=>set_any r W)
 clear HR0
 go_enter Tryz.func149,Tryz.ntmps149
 go_wp2_with fail
 refine Calls.mono HR.out ?_
 rintro e w1 ⟨o,c,rfl,hcell,hm,hB⟩
 have hmx:l.length≤9223372036854775807:=hm
 have HC:=Lib.hid hcell
 have HB:=Lib.hid hB
 clear hcell hm hB HR
 go_wp2_with fail
 go_loopw [5] (fun v5 wr=>∃i:Nat,v5=.int .i64 i∧i≤l.length∧Hid (∀k (hk:k<l.length),k<i→setB l[k]=false)∧wr=w1) (fun v5 _=>l.length - (intOf v5).toNat)
 case atStart=>exact⟨0,rfl,Nat.zero_le _,Lib.hid (fun k _ h=>absurd h (by omega)),rfl⟩
 case round=>
  obtain⟨i,rfl,hi,Hno,rfl⟩:=hrel
  have i0:(0:Int)≤(i:Int):=Int.natCast_nonneg _
  by_cases hlt:i<l.length
  ·have i1:(i:Int)<(l.length:Int):=by omega
   obtain⟨g,rfl,c0⟩:=HC.out i hlt
   have HY:=Lib.hid (fun e=>any_some (p:=setB) hlt e)
   have HN:Hid (setB l[i]=false→∀k (hk:k<l.length),k<i+1→setB l[k]=false):=Lib.hid (fun e k hk hki=>by
    by_cases q:k=i
    ·subst q;exact e
    ·exact Hno.out k hk (by omega))
   generalize l[i]=x at *
   have K:=Lib.hid (HS.out x)
   cases h0:setB x with
   | true=>
    rw[h0] at K
    have HY2:=Lib.hid (HY.out h0)
    clear HY HN
    go_wp2_with fail
    (with_reducible refine Calls.mono (K.out _) ?_)
    rintro e w' ⟨rfl,rfl⟩
    go_wp2_with fail
    go_ret
    exact⟨by rw[HY2.out];rfl,HB.out⟩
   | false=>
    rw[h0] at K
    have HN2:=Lib.hid (HN.out h0)
    clear HY HN
    go_wp2_with fail
    (with_reducible refine Calls.mono (K.out _) ?_)
    rintro e w' ⟨rfl,rfl⟩
    go_wp2_with fail
    exact⟨⟨i+1,by go_num,by omega,HN2,by first | rfl | trivial⟩,by simp[intOf];omega⟩
  ·obtain rfl:i=l.length:=by omega
   have HR2:=Lib.hid (any_none (p:=setB) (fun k hk=>Hno.out k hk hk))
   clear hi hlt i0 Hno
   go_wp2_with fail
   go_ret
   exact⟨by rw[HR2.out];rfl,HB.out⟩
set_option maxRecDepth 100000 in
set_option maxHeartbeats 8000000 in
theorem maps_any (l4:List (Int×ByteArray)) (o4:Option Addr) (c4:Nat) (n:Int) (hn:0≤n∧n≤100) (W:World) (h:MapsAt W o4 l4) (hm:l4.length≤maxLen) (hs:∀x∈l4,x.2.size≤1048576):Calls Tryz.prog 125 #[.slice o4 l4.length c4,.int .i64 n] W fun e w'=>e=.returned (wV (mapsW n l4))∧Below W.heap.size W w':=by
 have hB:Below W.heap.size W (W.alloc (.cells #[.int .i64 0,.int .i64 0,.int .i64 0] 100)):=(Below.refl _ W).alloc (Nat.le_refl _) _
 have bA:=Blk.new' W #[.int .i64 0,.int .i64 0,.int .i64 0] 100
 have hL:=h.below hB
 obtain⟨W0,hW0⟩:∃W0,W.alloc (.cells #[.int .i64 0,.int .i64 0,.int .i64 0] 100)=W0:=⟨_,rfl⟩
 rw[hW0] at hB bA hL
 have HW0:=Lib.hid hW0
 have HB:=Lib.hid hB
 have HA:=Lib.hid bA
 have HL4:=Lib.hid hL
 have m4:l4.length≤9223372036854775807:=hm
 have a0:∀y:WC W0,y.w.cell? ⟨W.heap.size,0,none⟩=some (.int .i64 0):=WC.cell (bA.cell 0)
 have f0:∀y:WC W0,y.w.frozen? ⟨W.heap.size,0,none⟩=false:=WC.frozen (bA.cell 0) (bA.frozen 0)
 have a1:∀y:WC W0,y.w.cell? ⟨W.heap.size,1,none⟩=some (.int .i64 0):=WC.cell (bA.cell 1)
 have f1:∀y:WC W0,y.w.frozen? ⟨W.heap.size,1,none⟩=false:=WC.frozen (bA.cell 1) (bA.frozen 1)
 have a2:∀y:WC W0,y.w.cell? ⟨W.heap.size,2,none⟩=some (.int .i64 0):=WC.cell (bA.cell 2)
 have f2:∀y:WC W0,y.w.frozen? ⟨W.heap.size,2,none⟩=false:=WC.frozen (bA.cell 2) (bA.frozen 2)
 have HRu:Hid (∀(r:Int) (y:WC W0),Calls Tryz.prog 124 #[.int .i32 r] y.w fun e w'=>e=.returned (.bool (runeB r))∧∃z:WC W0,w'=z.w):=Lib.hid (fun r y=>WC.same (rune_any r y.w))
 have HRs:Hid (∀(i:Nat) (hi:i<l4.length) (y:WC W0),Calls Tryz.prog 130 #[.string l4[i].2] y.w fun e w'=>∃(o:Option Addr) (c:Nat) (z:WC W0),e=.returned (.tuple #[.slice o (rnL l4[i].2).length c,.bool (runesO l4[i].2).isSome])∧w'=z.w∧(rnL l4[i].2).length≤9223372036854775807):=Lib.hid (fun i hi y=>Calls.mono (runes6_list l4[i].2 y.w (hs _ (List.getElem_mem hi))) (fun e w' ⟨o,c,he,_,hmx,hB⟩=>⟨o,c,⟨w',y.h.trans (hB.mono y.h.size)⟩,he,rfl,hmx⟩))
 clear hB bA hL hW0 h hm hs
 obtain⟨R,hR⟩:∃R,mapsW n l4=R:=⟨_,rfl⟩
 rw[hR]
 unfold mapsW at hR
 have HF:=Lib.hid hR
 clear hR
 obtain⟨n0,n1⟩:=hn
 go_enter Tryz.func125,Tryz.ntmps125
 go_wp2_with fail
 rw[HW0.out]
 clear HW0
 obtain⟨y,hy⟩:∃y:WC W0,y.w=W0:=⟨WC.of W0,rfl⟩
 rw[←hy]
 clear hy
 go_loopw [5] (fun v5 wr=>∃(i:Nat) (y:WC W0),v5=.int .i64 i∧i≤l4.length∧Hid (scan (mapM n) (l4.drop i) i ((0,0,0))=R)∧wr=y.w) (fun v5 _=>l4.length - (intOf v5).toNat)
 case atStart=>exact⟨0,y,rfl,Nat.zero_le _,HF,rfl⟩
 case round=>
  clear HF y
  obtain⟨i,y,rfl,hi,HF,rfl⟩:=hrel
  have i0:(0:Int)≤(i:Int):=Int.natCast_nonneg _
  by_cases hlt:i<l4.length
  ·have i1:(i:Int)<(l4.length:Int):=by omega
   obtain⟨g,off,ho,hg,c0,c1,cz⟩:=HL4.out i hlt
   subst ho
   have HF1:=Lib.hid (scan_step hlt HF.out)
   have KR:=Lib.hid (HRs.out i hlt)
   generalize l4[i]=x at *
   have e0:=fun y:WC W0=>y.cell c0
   have e1:=fun y:WC W0=>y.cell c1
   clear HF c0 c1
   have K0:=Lib.hid (HRu.out x.1)
   cases h0:runeB x.1 with
   | true=>
    rw[h0] at K0
    cases h1:(runesO x.2).isSome with
    | true=>
     cases h2:decide (((rnL x.2).length:Int)<1) with
     | true=>
      have HR:=Lib.hid ((scan_hit (f:=mapM n) (by unfold mapM;simp only[h0,h1,h2];rfl)).symm.trans HF1.out)
      clear HF1
      go_wp2_with fail
      (with_reducible refine Calls.mono (K0.out y) ?_)
      rintro e w' ⟨rfl,y1,rfl⟩
      go_wp2_with fail
      (with_reducible refine Calls.mono (KR.out y1) ?_)
      rintro e w' ⟨o,c,y2,rfl,rfl,hmx⟩
      rw[h1]
      go_wp2_with fail
      have b3:=(((HA.out.keep (Keep.of_below y2.h (fun _=>False)) (by simp)).set 0 (.int .i64 35)).set 1 (.int .i64 n)).set 2 (.int .i64 i)
      have r0:=b3.cell 0
      have r1:=b3.cell 1
      have r2:=b3.cell 2
      refine bodyPost_ret (v:=.agg #[.int .i64 35,.int .i64 n,.int .i64 i]) (by simp[results,Tryz.results125,go_sem,r0,r1,r2]) rfl ?_
      exact⟨by rw[←HR.out];rfl,set3_below (HB.out.trans (y2.h.mono HB.out.size)) (by omega)⟩
     | false=>
      cases h3:decide ((4:Int)<((rnL x.2).length:Int)) with
      | true=>
       have HR:=Lib.hid ((scan_hit (f:=mapM n) (by unfold mapM;simp only[h0,h1,h2,h3];rfl)).symm.trans HF1.out)
       clear HF1
       go_wp2_with fail
       (with_reducible refine Calls.mono (K0.out y) ?_)
       rintro e w' ⟨rfl,y1,rfl⟩
       go_wp2_with fail
       (with_reducible refine Calls.mono (KR.out y1) ?_)
       rintro e w' ⟨o,c,y2,rfl,rfl,hmx⟩
       rw[h1]
       go_wp2_with fail
       have b3:=(((HA.out.keep (Keep.of_below y2.h (fun _=>False)) (by simp)).set 0 (.int .i64 35)).set 1 (.int .i64 n)).set 2 (.int .i64 i)
       have r0:=b3.cell 0
       have r1:=b3.cell 1
       have r2:=b3.cell 2
       refine bodyPost_ret (v:=.agg #[.int .i64 35,.int .i64 n,.int .i64 i]) (by simp[results,Tryz.results125,go_sem,r0,r1,r2]) rfl ?_
       exact⟨by rw[←HR.out];rfl,set3_below (HB.out.trans (y2.h.mono HB.out.size)) (by omega)⟩
      | false=>
       have HF2:=Lib.hid ((scan_miss (f:=mapM n) (by unfold mapM;simp only[h0,h1,h2,h3];rfl)).symm.trans HF1.out)
       clear HF1
       go_wp2_with fail
       (with_reducible refine Calls.mono (K0.out y) ?_)
       rintro e w' ⟨rfl,y1,rfl⟩
       go_wp2_with fail
       (with_reducible refine Calls.mono (KR.out y1) ?_)
       rintro e w' ⟨o,c,y2,rfl,rfl,hmx⟩
       rw[h1]
       go_wp2_with fail
       exact⟨⟨i+1,y2,by go_num,by omega,HF2,by first | rfl | trivial⟩,by simp[intOf];omega⟩
    | false=>
     have HR:=Lib.hid ((scan_hit (f:=mapM n) (by unfold mapM;simp only[h0,h1];rfl)).symm.trans HF1.out)
     clear HF1
     go_wp2_with fail
     (with_reducible refine Calls.mono (K0.out y) ?_)
     rintro e w' ⟨rfl,y1,rfl⟩
     go_wp2_with fail
     (with_reducible refine Calls.mono (KR.out y1) ?_)
     rintro e w' ⟨o,c,y2,rfl,rfl,hmx⟩
     rw[h1]
     go_wp2_with fail
     have b3:=(((HA.out.keep (Keep.of_below y2.h (fun _=>False)) (by simp)).set 0 (.int .i64 35)).set 1 (.int .i64 n)).set 2 (.int .i64 i)
     have r0:=b3.cell 0
     have r1:=b3.cell 1
     have r2:=b3.cell 2
     refine bodyPost_ret (v:=.agg #[.int .i64 35,.int .i64 n,.int .i64 i]) (by simp[results,Tryz.results125,go_sem,r0,r1,r2]) rfl ?_
     exact⟨by rw[←HR.out];rfl,set3_below (HB.out.trans (y2.h.mono HB.out.size)) (by omega)⟩
   | false=>
    rw[h0] at K0
    have HR:=Lib.hid ((scan_hit (f:=mapM n) (by unfold mapM;simp only[h0];rfl)).symm.trans HF1.out)
    clear HF1
    go_wp2_with fail
    (with_reducible refine Calls.mono (K0.out y) ?_)
    rintro e w' ⟨rfl,y1,rfl⟩
    go_wp2_with fail
    have b3:=(((HA.out.keep (Keep.of_below y1.h (fun _=>False)) (by simp)).set 0 (.int .i64 12)).set 1 (.int .i64 n)).set 2 (.int .i64 i)
    have r0:=b3.cell 0
    have r1:=b3.cell 1
    have r2:=b3.cell 2
    refine bodyPost_ret (v:=.agg #[.int .i64 12,.int .i64 n,.int .i64 i]) (by simp[results,Tryz.results125,go_sem,r0,r1,r2]) rfl ?_
    exact⟨by rw[←HR.out];rfl,set3_below (HB.out.trans (y1.h.mono HB.out.size)) (by omega)⟩
  ·obtain rfl:i=l4.length:=by omega
   have HF0:=Lib.hid (scan_end HF.out)
   clear hi hlt i0 HF
   have HF:=Lib.hid HF0.out
   clear HF0
   have HR:=Lib.hid HF.out
   go_wp2_with fail
   have b3:=(((HA.out.keep (Keep.of_below y.h (fun _=>False)) (by simp)).set 0 (.int .i64 0)).set 1 (.int .i64 0)).set 2 (.int .i64 0)
   have r0:=b3.cell 0
   have r1:=b3.cell 1
   have r2:=b3.cell 2
   refine bodyPost_ret (v:=.agg #[.int .i64 0,.int .i64 0,.int .i64 0]) (by simp[results,Tryz.results125,go_sem,r0,r1,r2]) rfl ?_
   exact⟨by rw[←HR.out];rfl,set3_below (HB.out.trans (y.h.mono HB.out.size)) (by omega)⟩
set_option maxRecDepth 100000 in
set_option maxHeartbeats 40000000 in
theorem forms_any (T:Tab) (a:TAddr) (W:World) (h:TabAt W T a) (hs:TabSmall T):Calls Tryz.prog 77 #[.agg (tabCells T a)] W fun e w'=>e=.returned (wV (formsW T))∧Below W.heap.size W w':=by
 obtain⟨l0,l1,l2,l3,l4,l5,l6,l7⟩:=T
 obtain⟨o0,o1,o2,o3,o4,o5,o6,o7,c0,c1,c2,c3,c4,c5,c6,c7⟩:=a
 obtain⟨hT,HTb,bA,hB,hz⟩:=box2 h
 obtain⟨W0,hW0⟩:∃W0,(W.alloc (.cells #[.slice o0 l0.length c0,.slice o1 l1.length c1,.slice o2 l2.length c2,.slice o3 l3.length c3,.slice o4 l4.length c4,.slice o5 l5.length c5,.slice o6 l6.length c6,.slice o7 l7.length c7] 28)).alloc (.cells #[.int .i64 0,.int .i64 0,.int .i64 0] 100)=W0:=⟨_,rfl⟩
 simp only[tabCells] at hT HTb hB hz bA ⊢
 rw[hW0] at hT HTb hB hz bA
 have HW0:=Lib.hid hW0
 have HB:=Lib.hid hB
 have HZ:=Lib.hid hz
 have HA:=Lib.hid bA
 have a0:∀y:WC W0,y.w.cell? ⟨W.heap.size+1,0,none⟩=some (.int .i64 0):=WC.cell (bA.cell 0)
 have f0:∀y:WC W0,y.w.frozen? ⟨W.heap.size+1,0,none⟩=false:=WC.frozen (bA.cell 0) (bA.frozen 0)
 have a1:∀y:WC W0,y.w.cell? ⟨W.heap.size+1,1,none⟩=some (.int .i64 0):=WC.cell (bA.cell 1)
 have f1:∀y:WC W0,y.w.frozen? ⟨W.heap.size+1,1,none⟩=false:=WC.frozen (bA.cell 1) (bA.frozen 1)
 have a2:∀y:WC W0,y.w.cell? ⟨W.heap.size+1,2,none⟩=some (.int .i64 0):=WC.cell (bA.cell 2)
 have f2:∀y:WC W0,y.w.frozen? ⟨W.heap.size+1,2,none⟩=false:=WC.frozen (bA.cell 2) (bA.frozen 2)
 have t0:∀y:WC W0,y.w.cell? ⟨W.heap.size,0,none⟩=some (.slice o0 l0.length c0):=WC.cell (HTb 0 (.slice o0 l0.length c0) rfl)
 have m0:l0.length≤9223372036854775807:=hT.m0
 have HL0:=Lib.hid hT.scripts
 have t1:∀y:WC W0,y.w.cell? ⟨W.heap.size,1,none⟩=some (.slice o1 l1.length c1):=WC.cell (HTb 1 (.slice o1 l1.length c1) rfl)
 have m1:l1.length≤9223372036854775807:=hT.m1
 have HL1:=Lib.hid hT.common
 have t2:∀y:WC W0,y.w.cell? ⟨W.heap.size,2,none⟩=some (.slice o2 l2.length c2):=WC.cell (HTb 2 (.slice o2 l2.length c2) rfl)
 have m2:l2.length≤9223372036854775807:=hT.m2
 have HL2:=Lib.hid hT.marks
 have t3:∀y:WC W0,y.w.cell? ⟨W.heap.size,3,none⟩=some (.slice o3 l3.length c3):=WC.cell (HTb 3 (.slice o3 l3.length c3) rfl)
 have m3:l3.length≤9223372036854775807:=hT.m3
 have HL3:=Lib.hid hT.pairs
 have t4:∀y:WC W0,y.w.cell? ⟨W.heap.size,4,none⟩=some (.slice o4 l4.length c4):=WC.cell (HTb 4 (.slice o4 l4.length c4) rfl)
 have m4:l4.length≤9223372036854775807:=hT.m4
 have HL4:=Lib.hid hT.folds
 have t5:∀y:WC W0,y.w.cell? ⟨W.heap.size,5,none⟩=some (.slice o5 l5.length c5):=WC.cell (HTb 5 (.slice o5 l5.length c5) rfl)
 have m5:l5.length≤9223372036854775807:=hT.m5
 have HL5:=Lib.hid hT.looks
 have t6:∀y:WC W0,y.w.cell? ⟨W.heap.size,6,none⟩=some (.slice o6 l6.length c6):=WC.cell (HTb 6 (.slice o6 l6.length c6) rfl)
 have m6:l6.length≤9223372036854775807:=hT.m6
 have HL6:=Lib.hid hT.drops
 have t7:∀y:WC W0,y.w.cell? ⟨W.heap.size,7,none⟩=some (.slice o7 l7.length c7):=WC.cell (HTb 7 (.slice o7 l7.length c7) rfl)
 have m7:l7.length≤9223372036854775807:=hT.m7
 have HL7:=Lib.hid hT.allowed
 have HS1:Hid (∀(y:WC W0),Calls Tryz.prog 123 #[.slice o1 l1.length c1,.int .i64 2] y.w fun e w'=>e=.returned (wV (spansW 2 l1))∧Below y.w.heap.size y.w w'):=Lib.hid (fun y=>spans_w o1 c1 l1 2 (by decide) y.w (hT.common.below y.h) hT.m1)
 have HS6:Hid (∀(y:WC W0),Calls Tryz.prog 123 #[.slice o6 l6.length c6,.int .i64 7] y.w fun e w'=>e=.returned (wV (spansW 7 l6))∧Below y.w.heap.size y.w w'):=Lib.hid (fun y=>spans_w o6 c6 l6 7 (by decide) y.w (hT.drops.below y.h) hT.m6)
 have HS7:Hid (∀(y:WC W0),Calls Tryz.prog 123 #[.slice o7 l7.length c7,.int .i64 8] y.w fun e w'=>e=.returned (wV (spansW 8 l7))∧Below y.w.heap.size y.w w'):=Lib.hid (fun y=>spans_w o7 c7 l7 8 (by decide) y.w (hT.allowed.below y.h) hT.m7)
 have HM4:Hid (∀(y:WC W0),Calls Tryz.prog 125 #[.slice o4 l4.length c4,.int .i64 5] y.w fun e w'=>e=.returned (wV (mapsW 5 l4))∧Below y.w.heap.size y.w w'):=Lib.hid (fun y=>maps_any l4 o4 c4 5 (by decide) y.w (hT.folds.below y.h) hT.m4 hs.folds)
 have HM5:Hid (∀(y:WC W0),Calls Tryz.prog 125 #[.slice o5 l5.length c5,.int .i64 6] y.w fun e w'=>e=.returned (wV (mapsW 6 l5))∧Below y.w.heap.size y.w w'):=Lib.hid (fun y=>maps_any l5 o5 c5 6 (by decide) y.w (hT.looks.below y.h) hT.m5 hs.looks)
 unfold wV at HS1 HS6 HS7 HM4 HM5
 clear hs
 have HRu:Hid (∀(r:Int) (W:World),Calls Tryz.prog 124 #[.int .i32 r] W fun e w'=>e=.returned (.bool (runeB r))∧W=w'):=Lib.hid (fun r W=>rune_any r W)
 clear hT HTb hB hz h hW0 bA
 obtain⟨R,hR⟩:∃R,formsW ⟨l0,l1,l2,l3,l4,l5,l6,l7⟩=R:=⟨_,rfl⟩
 rw[hR]
 unfold formsW at hR
 dsimp only at hR
 have HF:=Lib.hid hR
 clear hR
 go_enter Tryz.func77,Tryz.ntmps77
 go_wp2_with fail
 rw[HW0.out]
 clear HW0
 obtain⟨y,hy⟩:∃y:WC W0,y.w=W0:=⟨WC.of W0,rfl⟩
 rw[←hy]
 clear hy
 go_loopw [3] (fun v3 wr=>∃(i:Nat) (y:WC W0),v3=.int .i64 i∧i≤l0.length∧Hid (scan (scriptM) (l0.drop i) i (orK (spansW 2 l1) (scan markM l2 0 (scan pairF l3 0 (orK (mapsW 5 l4) (orK (mapsW 6 l5) (orK (spansW 7 l6) (spansW 8 l7)))))))=R)∧wr=y.w) (fun v3 _=>l0.length - (intOf v3).toNat)
 case atStart=>exact⟨0,y,rfl,Nat.zero_le _,HF,rfl⟩
 case round=>
  clear HF y
  obtain⟨i,y,rfl,hi,HF,rfl⟩:=hrel
  have i0:(0:Int)≤(i:Int):=Int.natCast_nonneg _
  by_cases hlt:i<l0.length
  ·have i1:(i:Int)<(l0.length:Int):=by omega
   obtain⟨g,off,so,sc,ho,hg,c0,c1,cs,cz,cy⟩:=HL0.out i hlt
   subst ho
   have HF1:=Lib.hid (scan_step hlt HF.out)
   generalize l0[i]=x at *
   have e0:=fun y:WC W0=>y.cell c0
   have e1:=fun y:WC W0=>y.cell c1
   clear HF c0 c1
   have K:=Lib.hid (fun y:WC W0=>WC.call (script_any x.1 x.2 so sc y.w (cs.below y.h) cz cy))
   have hsE:scriptE (x.1,x.2)=scriptE x:=rfl
   rw[hsE] at K
   clear hsE cs cz cy
   cases h0:(scriptE x != 0) with
   | true=>
    have HR:=Lib.hid ((scan_hit (f:=scriptM) (by unfold scriptM;simp only[h0];rfl)).symm.trans HF1.out)
    clear HF1
    generalize scriptE x=n at *
    go_wp2_with fail
    (with_reducible refine Calls.mono (K.out y) ?_)
    rintro e w' ⟨rfl,y1,rfl⟩
    clear K
    go_wp2_with fail
    have b3:=(((HA.out.keep (Keep.of_below y1.h (fun _=>False)) (by simp)).set 0 (.int .i64 n)).set 1 (.int .i64 1)).set 2 (.int .i64 i)
    have r0:=b3.cell 0
    have r1:=b3.cell 1
    have r2:=b3.cell 2
    refine bodyPost_ret (v:=.agg #[.int .i64 n,.int .i64 1,.int .i64 i]) (by simp[results,Tryz.results77,go_sem,r0,r1,r2]) rfl ?_
    exact⟨by rw[←HR.out];rfl,set3_below (HB.out.trans (y1.h.mono HB.out.size)) (by omega)⟩
   | false=>
    have HF2:=Lib.hid ((scan_miss (f:=scriptM) (by unfold scriptM;simp only[h0];rfl)).symm.trans HF1.out)
    clear HF1
    generalize scriptE x=n at *
    go_wp2_with fail
    (with_reducible refine Calls.mono (K.out y) ?_)
    rintro e w' ⟨rfl,y1,rfl⟩
    clear K
    go_wp2_with fail
    exact⟨⟨i+1,y1,by go_num,by omega,HF2,by first | rfl | trivial⟩,by simp[intOf];omega⟩
  ·obtain rfl:i=l0.length:=by omega
   have HF0:=Lib.hid (scan_end HF.out)
   clear hi hlt i0 HF
   have HF:=Lib.hid HF0.out
   clear HF0
   go_wp2_with fail
   generalize spansW 2 l1=x1 at *
   generalize mapsW 5 l4=x4 at *
   generalize mapsW 6 l5=x5 at *
   generalize spansW 7 l6=x6 at *
   generalize spansW 8 l7=x7 at *
   go_wp2_with fail
   (with_reducible refine Calls.mono (HS1.out y) ?_)
   rintro e w' ⟨rfl,hBk⟩
   have hB1:Below W0.heap.size W0 (w'.alloc (.cells #[.int .i64 x1.1,.int .i64 x1.2.1,.int .i64 x1.2.2] 100)):=(y.h.trans (hBk.mono y.h.size)).alloc (Nat.le_trans y.h.size hBk.size) _
   have bW1:=Blk.new' w' #[.int .i64 x1.1,.int .i64 x1.2.1,.int .i64 x1.2.2] 100
   have hb1:W0.heap.size≤w'.heap.size:=Nat.le_trans y.h.size hBk.size
   go_upto_if 31 with fail
   obtain⟨b,hb⟩:∃b,w'.heap.size=b:=⟨_,rfl⟩
   rw[hb] at bW1 hb1 ⊢
   obtain⟨y,hy⟩:∃y:WC W0,y.w=w'.alloc (.cells #[.int .i64 x1.1,.int .i64 x1.2.1,.int .i64 x1.2.2] 100):=⟨⟨w'.alloc (.cells #[.int .i64 x1.1,.int .i64 x1.2.1,.int .i64 x1.2.2] 100),hB1⟩,rfl⟩
   rw[←hy]
   rw[←hy] at bW1
   clear hB1 hy
   have q0:=bW1.cell 0
   have p0:=bW1.frozen 0
   have q1:=bW1.cell 1
   have p1:=bW1.frozen 1
   have q2:=bW1.cell 2
   have p2:=bW1.frozen 2
   dsimp only[List.getElem?_cons_zero,List.getElem?_cons_succ] at q0 q1 q2
   clear hb hBk
   by_cases g1:x1.1=0
   ·have d1:(x1.1 != 0)=false:=by simpa using g1
    have HF1:=Lib.hid ((orK_no g1).symm.trans HF.out)
    clear g1 HF
    have HF:=Lib.hid HF1.out
    clear HF1
    go_wp2_with fail
    try simp only[d1]
    clear d1
    go_loopw [6] (fun v6 wr=>∃(i:Nat),v6=.int .i64 i∧i≤l2.length∧Hid (scan (markM) (l2.drop i) i (scan pairF l3 0 (orK x4 (orK x5 (orK x6 x7))))=R)∧wr=y.w) (fun v6 _=>l2.length - (intOf v6).toNat)
    case atStart=>exact⟨0,rfl,Nat.zero_le _,HF,by first | rfl | trivial⟩
    case round=>
     clear HF
     obtain⟨i,rfl,hi,HF,rfl⟩:=hrel
     have i0:(0:Int)≤(i:Int):=Int.natCast_nonneg _
     by_cases hlt:i<l2.length
     ·have i1:(i:Int)<(l2.length:Int):=by omega
      obtain⟨g,off,ho,hg,c0,c1⟩:=HL2.out i hlt
      subst ho
      have HF1:=Lib.hid (scan_step hlt HF.out)
      generalize l2[i]=x at *
      have e0:=fun y:WC W0=>y.cell c0
      have e1:=fun y:WC W0=>y.cell c1
      clear HF c0 c1
      have K0:=Lib.hid (HRu.out x.1)
      cases h0:runeB x.1 with
      | true=>
       rw[h0] at K0
       cases h1:decide (x.2<1) with
       | true=>
        have HR:=Lib.hid ((scan_hit (f:=markM) (by unfold markM;simp only[h0,h1];rfl)).symm.trans HF1.out)
        clear HF1
        go_wp2_with fail
        (with_reducible refine Calls.mono (K0.out _) ?_)
        rintro e w' ⟨rfl,rfl⟩
        go_wp2_with fail
        have b3:=(((HA.out.keep (Keep.of_below y.h (fun _=>False)) (by simp)).set 0 (.int .i64 30)).set 1 (.int .i64 3)).set 2 (.int .i64 i)
        have r0:=b3.cell 0
        have r1:=b3.cell 1
        have r2:=b3.cell 2
        refine bodyPost_ret (v:=.agg #[.int .i64 30,.int .i64 3,.int .i64 i]) (by simp[results,Tryz.results77,go_sem,r0,r1,r2]) rfl ?_
        exact⟨by rw[←HR.out];rfl,set3_below (HB.out.trans (y.h.mono HB.out.size)) (by omega)⟩
       | false=>
        cases h2:decide (254<x.2) with
        | true=>
         have HR:=Lib.hid ((scan_hit (f:=markM) (by unfold markM;simp only[h0,h1,h2];rfl)).symm.trans HF1.out)
         clear HF1
         go_wp2_with fail
         (with_reducible refine Calls.mono (K0.out _) ?_)
         rintro e w' ⟨rfl,rfl⟩
         go_wp2_with fail
         have b3:=(((HA.out.keep (Keep.of_below y.h (fun _=>False)) (by simp)).set 0 (.int .i64 30)).set 1 (.int .i64 3)).set 2 (.int .i64 i)
         have r0:=b3.cell 0
         have r1:=b3.cell 1
         have r2:=b3.cell 2
         refine bodyPost_ret (v:=.agg #[.int .i64 30,.int .i64 3,.int .i64 i]) (by simp[results,Tryz.results77,go_sem,r0,r1,r2]) rfl ?_
         exact⟨by rw[←HR.out];rfl,set3_below (HB.out.trans (y.h.mono HB.out.size)) (by omega)⟩
        | false=>
         have HF2:=Lib.hid ((scan_miss (f:=markM) (by unfold markM;simp only[h0,h1,h2];rfl)).symm.trans HF1.out)
         clear HF1
         go_wp2_with fail
         (with_reducible refine Calls.mono (K0.out _) ?_)
         rintro e w' ⟨rfl,rfl⟩
         go_wp2_with fail
         exact⟨⟨i+1,by go_num,by omega,HF2,by first | rfl | trivial⟩,by simp[intOf];omega⟩
      | false=>
       rw[h0] at K0
       have HR:=Lib.hid ((scan_hit (f:=markM) (by unfold markM;simp only[h0];rfl)).symm.trans HF1.out)
       clear HF1
       go_wp2_with fail
       (with_reducible refine Calls.mono (K0.out _) ?_)
       rintro e w' ⟨rfl,rfl⟩
       go_wp2_with fail
       have b3:=(((HA.out.keep (Keep.of_below y.h (fun _=>False)) (by simp)).set 0 (.int .i64 12)).set 1 (.int .i64 3)).set 2 (.int .i64 i)
       have r0:=b3.cell 0
       have r1:=b3.cell 1
       have r2:=b3.cell 2
       refine bodyPost_ret (v:=.agg #[.int .i64 12,.int .i64 3,.int .i64 i]) (by simp[results,Tryz.results77,go_sem,r0,r1,r2]) rfl ?_
       exact⟨by rw[←HR.out];rfl,set3_below (HB.out.trans (y.h.mono HB.out.size)) (by omega)⟩
     ·obtain rfl:i=l2.length:=by omega
      have HF0:=Lib.hid (scan_end HF.out)
      clear hi hlt i0 HF
      have HF:=Lib.hid HF0.out
      clear HF0
      go_wp2_with fail
      go_loopw [7] (fun v7 wr=>∃(i:Nat),v7=.int .i64 i∧i≤l3.length∧Hid (scan (pairF) (l3.drop i) i (orK x4 (orK x5 (orK x6 x7)))=R)∧wr=y.w) (fun v7 _=>l3.length - (intOf v7).toNat)
      case atStart=>exact⟨0,rfl,Nat.zero_le _,HF,by first | rfl | trivial⟩
      case round=>
       clear HF
       obtain⟨i,rfl,hi,HF,rfl⟩:=hrel
       have i0:(0:Int)≤(i:Int):=Int.natCast_nonneg _
       by_cases hlt:i<l3.length
       ·have i1:(i:Int)<(l3.length:Int):=by omega
        obtain⟨g,off,ho,hg,c0,c1,c2⟩:=HL3.out i hlt
        subst ho
        have HF1:=Lib.hid (scan_step hlt HF.out)
        generalize l3[i]=x at *
        have e0:=fun y:WC W0=>y.cell c0
        have e1:=fun y:WC W0=>y.cell c1
        have e2:=fun y:WC W0=>y.cell c2
        clear HF c0 c1 c2
        have K0:=Lib.hid (HRu.out x.1)
        cases h0:runeB x.1 with
        | true=>
         rw[h0] at K0
         have K1:=Lib.hid (HRu.out x.2.1)
         cases h1:runeB x.2.1 with
         | true=>
          rw[h1] at K1
          have K2:=Lib.hid (HRu.out x.2.2)
          cases h2:runeB x.2.2 with
          | true=>
           rw[h2] at K2
           have HF2:=Lib.hid ((scan_miss (f:=pairF) (by unfold pairF;simp only[h0,h1,h2];rfl)).symm.trans HF1.out)
           clear HF1
           go_wp2_with fail
           (with_reducible refine Calls.mono (K0.out _) ?_)
           rintro e w' ⟨rfl,rfl⟩
           go_wp2_with fail
           (with_reducible refine Calls.mono (K1.out _) ?_)
           rintro e w' ⟨rfl,rfl⟩
           go_wp2_with fail
           (with_reducible refine Calls.mono (K2.out _) ?_)
           rintro e w' ⟨rfl,rfl⟩
           go_wp2_with fail
           exact⟨⟨i+1,by go_num,by omega,HF2,by first | rfl | trivial⟩,by simp[intOf];omega⟩
          | false=>
           rw[h2] at K2
           have HR:=Lib.hid ((scan_hit (f:=pairF) (by unfold pairF;simp only[h0,h1,h2];rfl)).symm.trans HF1.out)
           clear HF1
           go_wp2_with fail
           (with_reducible refine Calls.mono (K0.out _) ?_)
           rintro e w' ⟨rfl,rfl⟩
           go_wp2_with fail
           (with_reducible refine Calls.mono (K1.out _) ?_)
           rintro e w' ⟨rfl,rfl⟩
           go_wp2_with fail
           (with_reducible refine Calls.mono (K2.out _) ?_)
           rintro e w' ⟨rfl,rfl⟩
           go_wp2_with fail
           have b3:=(((HA.out.keep (Keep.of_below y.h (fun _=>False)) (by simp)).set 0 (.int .i64 12)).set 1 (.int .i64 4)).set 2 (.int .i64 i)
           have r0:=b3.cell 0
           have r1:=b3.cell 1
           have r2:=b3.cell 2
           refine bodyPost_ret (v:=.agg #[.int .i64 12,.int .i64 4,.int .i64 i]) (by simp[results,Tryz.results77,go_sem,r0,r1,r2]) rfl ?_
           exact⟨by rw[←HR.out];rfl,set3_below (HB.out.trans (y.h.mono HB.out.size)) (by omega)⟩
         | false=>
          rw[h1] at K1
          have HR:=Lib.hid ((scan_hit (f:=pairF) (by unfold pairF;simp only[h0,h1];rfl)).symm.trans HF1.out)
          clear HF1
          go_wp2_with fail
          (with_reducible refine Calls.mono (K0.out _) ?_)
          rintro e w' ⟨rfl,rfl⟩
          go_wp2_with fail
          (with_reducible refine Calls.mono (K1.out _) ?_)
          rintro e w' ⟨rfl,rfl⟩
          go_wp2_with fail
          have b3:=(((HA.out.keep (Keep.of_below y.h (fun _=>False)) (by simp)).set 0 (.int .i64 12)).set 1 (.int .i64 4)).set 2 (.int .i64 i)
          have r0:=b3.cell 0
          have r1:=b3.cell 1
          have r2:=b3.cell 2
          refine bodyPost_ret (v:=.agg #[.int .i64 12,.int .i64 4,.int .i64 i]) (by simp[results,Tryz.results77,go_sem,r0,r1,r2]) rfl ?_
          exact⟨by rw[←HR.out];rfl,set3_below (HB.out.trans (y.h.mono HB.out.size)) (by omega)⟩
        | false=>
         rw[h0] at K0
         have HR:=Lib.hid ((scan_hit (f:=pairF) (by unfold pairF;simp only[h0];rfl)).symm.trans HF1.out)
         clear HF1
         go_wp2_with fail
         (with_reducible refine Calls.mono (K0.out _) ?_)
         rintro e w' ⟨rfl,rfl⟩
         go_wp2_with fail
         have b3:=(((HA.out.keep (Keep.of_below y.h (fun _=>False)) (by simp)).set 0 (.int .i64 12)).set 1 (.int .i64 4)).set 2 (.int .i64 i)
         have r0:=b3.cell 0
         have r1:=b3.cell 1
         have r2:=b3.cell 2
         refine bodyPost_ret (v:=.agg #[.int .i64 12,.int .i64 4,.int .i64 i]) (by simp[results,Tryz.results77,go_sem,r0,r1,r2]) rfl ?_
         exact⟨by rw[←HR.out];rfl,set3_below (HB.out.trans (y.h.mono HB.out.size)) (by omega)⟩
       ·obtain rfl:i=l3.length:=by omega
        have HF0:=Lib.hid (scan_end HF.out)
        clear hi hlt i0 HF
        have HF:=Lib.hid HF0.out
        clear HF0
        go_wp2_with fail
        go_wp2_with fail
        (with_reducible refine Calls.mono (HM4.out y) ?_)
        rintro e w' ⟨rfl,hBk⟩
        have bW:=bW1.keep (Keep.of_below hBk (fun _=>False)) (by simp)
        clear bW1 q0 q1 q2 p0 p1 p2
        have q0:=bW.cell 0
        have p0:=bW.frozen 0
        have q1:=bW.cell 1
        have p1:=bW.frozen 1
        have q2:=bW.cell 2
        have p2:=bW.frozen 2
        dsimp only[List.getElem?_cons_zero,List.getElem?_cons_succ] at q0 q1 q2
        have bW1:=((bW.set 0 (.int .i64 x4.1)).set 1 (.int .i64 x4.2.1)).set 2 (.int .i64 x4.2.2)
        dsimp only[List.set_cons_zero,List.set_cons_succ] at bW1
        have hB1:=set3_below (u:=.int .i64 x4.1) (v:=.int .i64 x4.2.1) (x:=.int .i64 x4.2.2) (y.h.trans (hBk.mono y.h.size)) hb1
        go_upto_if 110 with fail
        clear q0 q1 q2 p0 p1 p2
        obtain⟨y,hy⟩:∃y:WC W0,y.w=((w'.setCell ⟨b,0,none⟩ (.int .i64 x4.1)).setCell ⟨b,1,none⟩ (.int .i64 x4.2.1)).setCell ⟨b,2,none⟩ (.int .i64 x4.2.2):=⟨⟨((w'.setCell ⟨b,0,none⟩ (.int .i64 x4.1)).setCell ⟨b,1,none⟩ (.int .i64 x4.2.1)).setCell ⟨b,2,none⟩ (.int .i64 x4.2.2),hB1⟩,rfl⟩
        rw[←hy]
        rw[←hy] at bW1
        clear hB1 hy
        have q0:=bW1.cell 0
        have p0:=bW1.frozen 0
        have q1:=bW1.cell 1
        have p1:=bW1.frozen 1
        have q2:=bW1.cell 2
        have p2:=bW1.frozen 2
        dsimp only[List.getElem?_cons_zero,List.getElem?_cons_succ] at q0 q1 q2
        clear bW hBk
        by_cases g4:x4.1=0
        ·have d4:(x4.1 == 0)=true:=by simpa using g4
         have HF1:=Lib.hid ((orK_no g4).symm.trans HF.out)
         clear g4 HF
         have HF:=Lib.hid HF1.out
         clear HF1
         go_wp2_with fail
         (with_reducible refine Calls.mono (HM5.out y) ?_)
         rintro e w' ⟨rfl,hBk⟩
         have bW:=bW1.keep (Keep.of_below hBk (fun _=>False)) (by simp)
         clear bW1 q0 q1 q2 p0 p1 p2
         have q0:=bW.cell 0
         have p0:=bW.frozen 0
         have q1:=bW.cell 1
         have p1:=bW.frozen 1
         have q2:=bW.cell 2
         have p2:=bW.frozen 2
         dsimp only[List.getElem?_cons_zero,List.getElem?_cons_succ] at q0 q1 q2
         have bW1:=((bW.set 0 (.int .i64 x5.1)).set 1 (.int .i64 x5.2.1)).set 2 (.int .i64 x5.2.2)
         dsimp only[List.set_cons_zero,List.set_cons_succ] at bW1
         have hB1:=set3_below (u:=.int .i64 x5.1) (v:=.int .i64 x5.2.1) (x:=.int .i64 x5.2.2) (y.h.trans (hBk.mono y.h.size)) hb1
         go_upto_if 116 with fail
         clear q0 q1 q2 p0 p1 p2
         obtain⟨y,hy⟩:∃y:WC W0,y.w=((w'.setCell ⟨b,0,none⟩ (.int .i64 x5.1)).setCell ⟨b,1,none⟩ (.int .i64 x5.2.1)).setCell ⟨b,2,none⟩ (.int .i64 x5.2.2):=⟨⟨((w'.setCell ⟨b,0,none⟩ (.int .i64 x5.1)).setCell ⟨b,1,none⟩ (.int .i64 x5.2.1)).setCell ⟨b,2,none⟩ (.int .i64 x5.2.2),hB1⟩,rfl⟩
         rw[←hy]
         rw[←hy] at bW1
         clear hB1 hy
         have q0:=bW1.cell 0
         have p0:=bW1.frozen 0
         have q1:=bW1.cell 1
         have p1:=bW1.frozen 1
         have q2:=bW1.cell 2
         have p2:=bW1.frozen 2
         dsimp only[List.getElem?_cons_zero,List.getElem?_cons_succ] at q0 q1 q2
         clear bW hBk
         by_cases g5:x5.1=0
         ·have d5:(x5.1 == 0)=true:=by simpa using g5
          have HF1:=Lib.hid ((orK_no g5).symm.trans HF.out)
          clear g5 HF
          have HF:=Lib.hid HF1.out
          clear HF1
          go_wp2_with fail
          (with_reducible refine Calls.mono (HS6.out y) ?_)
          rintro e w' ⟨rfl,hBk⟩
          have bW:=bW1.keep (Keep.of_below hBk (fun _=>False)) (by simp)
          clear bW1 q0 q1 q2 p0 p1 p2
          have q0:=bW.cell 0
          have p0:=bW.frozen 0
          have q1:=bW.cell 1
          have p1:=bW.frozen 1
          have q2:=bW.cell 2
          have p2:=bW.frozen 2
          dsimp only[List.getElem?_cons_zero,List.getElem?_cons_succ] at q0 q1 q2
          have bW1:=((bW.set 0 (.int .i64 x6.1)).set 1 (.int .i64 x6.2.1)).set 2 (.int .i64 x6.2.2)
          dsimp only[List.set_cons_zero,List.set_cons_succ] at bW1
          have hB1:=set3_below (u:=.int .i64 x6.1) (v:=.int .i64 x6.2.1) (x:=.int .i64 x6.2.2) (y.h.trans (hBk.mono y.h.size)) hb1
          go_upto_if 122 with fail
          clear q0 q1 q2 p0 p1 p2
          obtain⟨y,hy⟩:∃y:WC W0,y.w=((w'.setCell ⟨b,0,none⟩ (.int .i64 x6.1)).setCell ⟨b,1,none⟩ (.int .i64 x6.2.1)).setCell ⟨b,2,none⟩ (.int .i64 x6.2.2):=⟨⟨((w'.setCell ⟨b,0,none⟩ (.int .i64 x6.1)).setCell ⟨b,1,none⟩ (.int .i64 x6.2.1)).setCell ⟨b,2,none⟩ (.int .i64 x6.2.2),hB1⟩,rfl⟩
          rw[←hy]
          rw[←hy] at bW1
          clear hB1 hy
          have q0:=bW1.cell 0
          have p0:=bW1.frozen 0
          have q1:=bW1.cell 1
          have p1:=bW1.frozen 1
          have q2:=bW1.cell 2
          have p2:=bW1.frozen 2
          dsimp only[List.getElem?_cons_zero,List.getElem?_cons_succ] at q0 q1 q2
          clear bW hBk
          by_cases g6:x6.1=0
          ·have d6:(x6.1 == 0)=true:=by simpa using g6
           have HF1:=Lib.hid ((orK_no g6).symm.trans HF.out)
           clear g6 HF
           have HF:=Lib.hid HF1.out
           clear HF1
           go_wp2_with fail
           (with_reducible refine Calls.mono (HS7.out y) ?_)
           rintro e w' ⟨rfl,hBk⟩
           have bW:=bW1.keep (Keep.of_below hBk (fun _=>False)) (by simp)
           clear bW1 q0 q1 q2 p0 p1 p2
           have q0:=bW.cell 0
           have p0:=bW.frozen 0
           have q1:=bW.cell 1
           have p1:=bW.frozen 1
           have q2:=bW.cell 2
           have p2:=bW.frozen 2
           dsimp only[List.getElem?_cons_zero,List.getElem?_cons_succ] at q0 q1 q2
           have bW1:=((bW.set 0 (.int .i64 x7.1)).set 1 (.int .i64 x7.2.1)).set 2 (.int .i64 x7.2.2)
           dsimp only[List.set_cons_zero,List.set_cons_succ] at bW1
           have hB1:=set3_below (u:=.int .i64 x7.1) (v:=.int .i64 x7.2.1) (x:=.int .i64 x7.2.2) (y.h.trans (hBk.mono y.h.size)) hb1
           go_upto_region 29 with fail
           clear q0 q1 q2 p0 p1 p2
           obtain⟨y,hy⟩:∃y:WC W0,y.w=((w'.setCell ⟨b,0,none⟩ (.int .i64 x7.1)).setCell ⟨b,1,none⟩ (.int .i64 x7.2.1)).setCell ⟨b,2,none⟩ (.int .i64 x7.2.2):=⟨⟨((w'.setCell ⟨b,0,none⟩ (.int .i64 x7.1)).setCell ⟨b,1,none⟩ (.int .i64 x7.2.1)).setCell ⟨b,2,none⟩ (.int .i64 x7.2.2),hB1⟩,rfl⟩
           rw[←hy]
           rw[←hy] at bW1
           clear hB1 hy
           have q0:=bW1.cell 0
           have p0:=bW1.frozen 0
           have q1:=bW1.cell 1
           have p1:=bW1.frozen 1
           have q2:=bW1.cell 2
           have p2:=bW1.frozen 2
           dsimp only[List.getElem?_cons_zero,List.getElem?_cons_succ] at q0 q1 q2
           clear bW hBk
           have HR:=Lib.hid HF.out
           go_wp2_with fail
           have b3:=(((HA.out.keep (Keep.of_below y.h (fun _=>False)) (by simp)).set 0 (.int .i64 x7.1)).set 1 (.int .i64 x7.2.1)).set 2 (.int .i64 x7.2.2)
           have r0:=b3.cell 0
           have r1:=b3.cell 1
           have r2:=b3.cell 2
           refine bodyPost_ret (v:=.agg #[.int .i64 x7.1,.int .i64 x7.2.1,.int .i64 x7.2.2]) (by simp[results,Tryz.results77,go_sem,r0,r1,r2]) rfl ?_
           exact⟨by rw[←HR.out];rfl,set3_below (HB.out.trans (y.h.mono HB.out.size)) (by omega)⟩
          ·have d6:(x6.1 == 0)=false:=by simpa using g6
           have HR:=Lib.hid ((orK_yes g6).symm.trans HF.out)
           clear g6 HF
           go_wp2_with fail
           have b3:=(((HA.out.keep (Keep.of_below y.h (fun _=>False)) (by simp)).set 0 (.int .i64 x6.1)).set 1 (.int .i64 x6.2.1)).set 2 (.int .i64 x6.2.2)
           have r0:=b3.cell 0
           have r1:=b3.cell 1
           have r2:=b3.cell 2
           refine bodyPost_ret (v:=.agg #[.int .i64 x6.1,.int .i64 x6.2.1,.int .i64 x6.2.2]) (by simp[results,Tryz.results77,go_sem,r0,r1,r2]) rfl ?_
           exact⟨by rw[←HR.out];rfl,set3_below (HB.out.trans (y.h.mono HB.out.size)) (by omega)⟩
         ·have d5:(x5.1 == 0)=false:=by simpa using g5
          have HR:=Lib.hid ((orK_yes g5).symm.trans HF.out)
          clear g5 HF
          go_wp2_with fail
          have b3:=(((HA.out.keep (Keep.of_below y.h (fun _=>False)) (by simp)).set 0 (.int .i64 x5.1)).set 1 (.int .i64 x5.2.1)).set 2 (.int .i64 x5.2.2)
          have r0:=b3.cell 0
          have r1:=b3.cell 1
          have r2:=b3.cell 2
          refine bodyPost_ret (v:=.agg #[.int .i64 x5.1,.int .i64 x5.2.1,.int .i64 x5.2.2]) (by simp[results,Tryz.results77,go_sem,r0,r1,r2]) rfl ?_
          exact⟨by rw[←HR.out];rfl,set3_below (HB.out.trans (y.h.mono HB.out.size)) (by omega)⟩
        ·have d4:(x4.1 == 0)=false:=by simpa using g4
         have HR:=Lib.hid ((orK_yes g4).symm.trans HF.out)
         clear g4 HF
         go_wp2_with fail
         have b3:=(((HA.out.keep (Keep.of_below y.h (fun _=>False)) (by simp)).set 0 (.int .i64 x4.1)).set 1 (.int .i64 x4.2.1)).set 2 (.int .i64 x4.2.2)
         have r0:=b3.cell 0
         have r1:=b3.cell 1
         have r2:=b3.cell 2
         refine bodyPost_ret (v:=.agg #[.int .i64 x4.1,.int .i64 x4.2.1,.int .i64 x4.2.2]) (by simp[results,Tryz.results77,go_sem,r0,r1,r2]) rfl ?_
         exact⟨by rw[←HR.out];rfl,set3_below (HB.out.trans (y.h.mono HB.out.size)) (by omega)⟩
   ·have d1:(x1.1 != 0)=true:=by simpa using g1
    have HR:=Lib.hid ((orK_yes g1).symm.trans HF.out)
    clear g1 HF
    go_wp2_with fail
    have b3:=(((HA.out.keep (Keep.of_below y.h (fun _=>False)) (by simp)).set 0 (.int .i64 x1.1)).set 1 (.int .i64 x1.2.1)).set 2 (.int .i64 x1.2.2)
    have r0:=b3.cell 0
    have r1:=b3.cell 1
    have r2:=b3.cell 2
    refine bodyPost_ret (v:=.agg #[.int .i64 x1.1,.int .i64 x1.2.1,.int .i64 x1.2.2]) (by simp[results,Tryz.results77,go_sem,r0,r1,r2]) rfl ?_
    exact⟨by rw[←HR.out];rfl,set3_below (HB.out.trans (y.h.mono HB.out.size)) (by omega)⟩
end Go.Proofs.YtioehfhdoohdmaaGreatDoor
