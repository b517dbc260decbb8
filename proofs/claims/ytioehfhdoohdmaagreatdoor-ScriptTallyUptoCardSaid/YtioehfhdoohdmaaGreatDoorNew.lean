/- tables.New: its nine steps, and the Book. Printed by gen_new.py. -/
import Derived.Test.YtioehfhdoohdmaaGreatDoorBookA
import Derived.Test.YtioehfhdoohdmaaGreatDoorCOnce
import Derived.Test.YtioehfhdoohdmaaGreatDoorCDF
import Derived.Test.YtioehfhdoohdmaaGreatDoorCForms
import Derived.Test.YtioehfhdoohdmaaGreatDoorCTos
import Derived.Test.YtioehfhdoohdmaaGreatDoorCHouseA
set_option linter.unusedVariables false
set_option linter.unusedSimpArgs false
namespace Go.Proofs.YtioehfhdoohdmaaGreatDoor
open Go.RowKit Go.Shelf BigFrame
set_option maxRecDepth 100000 in
set_option maxHeartbeats 40000000 in
theorem new_any (T:Tab) (a:TAddr) (W:World) (h:TabAt W T a) (hz:Lib.Utf8Tabs 0 1 W) (hf:TabFit T):Calls Tryz.prog 46 #[.agg (tabCells T a)] W (NewPost W T):=by
 obtain⟨l0,l1,l2,l3,l4,l5,l6,l7⟩:=T
 obtain⟨o0,o1,o2,o3,o4,o5,o6,o7,c0,c1,c2,c3,c4,c5,c6,c7⟩:=a
 obtain⟨V1,hV1⟩:∃V,W.alloc (.cells #[.slice o0 l0.length c0,.slice o1 l1.length c1,.slice o2 l2.length c2,.slice o3 l3.length c3,.slice o4 l4.length c4,.slice o5 l5.length c5,.slice o6 l6.length c6,.slice o7 l7.length c7] 28)=V:=⟨_,rfl⟩
 have s1:V1.heap.size=W.heap.size+1:=by rw[←hV1];simp
 have B1:Below W.heap.size W V1:=by rw[←hV1];exact (Below.refl _ _).alloc (Nat.le_refl _) _
 obtain⟨V2,hV2⟩:∃V,V1.alloc (.cells #[.int .i64 0,.int .i64 0,.int .i64 0] 100)=V:=⟨_,rfl⟩
 have s2:V2.heap.size=W.heap.size+2:=by rw[←hV2];simp[s1]
 have B2:Below V1.heap.size V1 V2:=by rw[←hV2];exact (Below.refl _ _).alloc (Nat.le_refl _) _
 obtain⟨V3,hV3⟩:∃V,V2.alloc (.map #[] 0)=V:=⟨_,rfl⟩
 have s3:V3.heap.size=W.heap.size+3:=by rw[←hV3];simp[s2]
 have B3:Below V2.heap.size V2 V3:=by rw[←hV3];exact (Below.refl _ _).alloc (Nat.le_refl _) _
 obtain⟨V4,hV4⟩:∃V,V3.alloc (.map #[] 0)=V:=⟨_,rfl⟩
 have s4:V4.heap.size=W.heap.size+4:=by rw[←hV4];simp[s3]
 have B4:Below V3.heap.size V3 V4:=by rw[←hV4];exact (Below.refl _ _).alloc (Nat.le_refl _) _
 obtain⟨V5,hV5⟩:∃V,V4.alloc (.map #[] 0)=V:=⟨_,rfl⟩
 have s5:V5.heap.size=W.heap.size+5:=by rw[←hV5];simp[s4]
 have B5:Below V4.heap.size V4 V5:=by rw[←hV5];exact (Below.refl _ _).alloc (Nat.le_refl _) _
 obtain⟨V6,hV6⟩:∃V,V5.alloc (.map #[] 0)=V:=⟨_,rfl⟩
 have s6:V6.heap.size=W.heap.size+6:=by rw[←hV6];simp[s5]
 have B6:Below V5.heap.size V5 V6:=by rw[←hV6];exact (Below.refl _ _).alloc (Nat.le_refl _) _
 obtain⟨V7,hV7⟩:∃V,V6.alloc (.map #[] 0)=V:=⟨_,rfl⟩
 have s7:V7.heap.size=W.heap.size+7:=by rw[←hV7];simp[s6]
 have B7:Below V6.heap.size V6 V7:=by rw[←hV7];exact (Below.refl _ _).alloc (Nat.le_refl _) _
 obtain⟨V8,hV8⟩:∃V,V7.alloc (.cells #[.slice none 0 0,.slice none 0 0,.slice none 0 0,.slice none 0 0,.slice none 0 0,.slice none 0 0,.slice none 0 0,.slice none 0 0,.map (some (W.heap.size+2)),.map (some (W.heap.size+3)),.map (some (W.heap.size+4)),.map (some (W.heap.size+5)),.map (some (W.heap.size+6))] 126)=V:=⟨_,rfl⟩
 have s8:V8.heap.size=W.heap.size+8:=by rw[←hV8];simp[s7]
 have B8:Below V7.heap.size V7 V8:=by rw[←hV8];exact (Below.refl _ _).alloc (Nat.le_refl _) _
 obtain⟨V9,hV9⟩:∃V,V8.alloc (.cells #[.slice o0 l0.length c0,.slice o1 l1.length c1,.slice o2 l2.length c2,.slice o3 l3.length c3,.slice o4 l4.length c4,.slice o5 l5.length c5,.slice o6 l6.length c6,.slice o7 l7.length c7,.pointer (some ⟨W.heap.size+7,0,none⟩)] 146)=V:=⟨_,rfl⟩
 have s9:V9.heap.size=W.heap.size+9:=by rw[←hV9];simp[s8]
 have B9:Below V8.heap.size V8 V9:=by rw[←hV9];exact (Below.refl _ _).alloc (Nat.le_refl _) _
 obtain⟨V10,hV10⟩:∃V,V9.alloc (.cells #[.func (.func 66) #[.pointer (some ⟨W.heap.size+8,0,none⟩)] #[],.func (.func 67) #[.pointer (some ⟨W.heap.size+8,0,none⟩)] #[],.func (.func 68) #[.pointer (some ⟨W.heap.size+8,0,none⟩)] #[],.func (.func 69) #[.pointer (some ⟨W.heap.size+8,0,none⟩)] #[],.func (.func 70) #[.pointer (some ⟨W.heap.size+8,0,none⟩)] #[],.func (.func 71) #[.pointer (some ⟨W.heap.size+8,0,none⟩)] #[],.func (.func 72) #[.pointer (some ⟨W.heap.size+8,0,none⟩)] #[],.func (.func 73) #[.pointer (some ⟨W.heap.size+8,0,none⟩)] #[],.func (.func 74) #[.pointer (some ⟨W.heap.size+8,0,none⟩)] #[]] 147)=V:=⟨_,rfl⟩
 have s10:V10.heap.size=W.heap.size+10:=by rw[←hV10];simp[s9]
 have B10:Below V9.heap.size V9 V10:=by rw[←hV10];exact (Below.refl _ _).alloc (Nat.le_refl _) _
 have C1:=B1
 have C2:=C1.trans (B2.mono C1.size)
 have C3:=C2.trans (B3.mono C2.size)
 have C4:=C3.trans (B4.mono C3.size)
 have C5:=C4.trans (B5.mono C4.size)
 have C6:=C5.trans (B6.mono C5.size)
 have C7:=C6.trans (B7.mono C6.size)
 have C8:=C7.trans (B8.mono C7.size)
 have C9:=C8.trans (B9.mono C8.size)
 have C10:=C9.trans (B10.mono C9.size)
 have k0:Blk V1 (W.heap.size+0) [.slice o0 l0.length c0,.slice o1 l1.length c1,.slice o2 l2.length c2,.slice o3 l3.length c3,.slice o4 l4.length c4,.slice o5 l5.length c5,.slice o6 l6.length c6,.slice o7 l7.length c7] 28:=by rw[←hV1];have:=Blk.new' W #[.slice o0 l0.length c0,.slice o1 l1.length c1,.slice o2 l2.length c2,.slice o3 l3.length c3,.slice o4 l4.length c4,.slice o5 l5.length c5,.slice o6 l6.length c6,.slice o7 l7.length c7] 28;exact this
 replace k0:=k0.keep (Keep.of_below B2 (fun _=>False)) (by simp)
 replace k0:=k0.keep (Keep.of_below B3 (fun _=>False)) (by simp)
 replace k0:=k0.keep (Keep.of_below B4 (fun _=>False)) (by simp)
 replace k0:=k0.keep (Keep.of_below B5 (fun _=>False)) (by simp)
 replace k0:=k0.keep (Keep.of_below B6 (fun _=>False)) (by simp)
 replace k0:=k0.keep (Keep.of_below B7 (fun _=>False)) (by simp)
 replace k0:=k0.keep (Keep.of_below B8 (fun _=>False)) (by simp)
 replace k0:=k0.keep (Keep.of_below B9 (fun _=>False)) (by simp)
 replace k0:=k0.keep (Keep.of_below B10 (fun _=>False)) (by simp)
 have k1:Blk V2 (W.heap.size+1) [.int .i64 0,.int .i64 0,.int .i64 0] 100:=by rw[←hV2];have:=Blk.new' V1 #[.int .i64 0,.int .i64 0,.int .i64 0] 100;rw[s1] at this;exact this
 replace k1:=k1.keep (Keep.of_below B3 (fun _=>False)) (by simp)
 replace k1:=k1.keep (Keep.of_below B4 (fun _=>False)) (by simp)
 replace k1:=k1.keep (Keep.of_below B5 (fun _=>False)) (by simp)
 replace k1:=k1.keep (Keep.of_below B6 (fun _=>False)) (by simp)
 replace k1:=k1.keep (Keep.of_below B7 (fun _=>False)) (by simp)
 replace k1:=k1.keep (Keep.of_below B8 (fun _=>False)) (by simp)
 replace k1:=k1.keep (Keep.of_below B9 (fun _=>False)) (by simp)
 replace k1:=k1.keep (Keep.of_below B10 (fun _=>False)) (by simp)
 have k7:Blk V8 (W.heap.size+7) [.slice none 0 0,.slice none 0 0,.slice none 0 0,.slice none 0 0,.slice none 0 0,.slice none 0 0,.slice none 0 0,.slice none 0 0,.map (some (W.heap.size+2)),.map (some (W.heap.size+3)),.map (some (W.heap.size+4)),.map (some (W.heap.size+5)),.map (some (W.heap.size+6))] 126:=by rw[←hV8];have:=Blk.new' V7 #[.slice none 0 0,.slice none 0 0,.slice none 0 0,.slice none 0 0,.slice none 0 0,.slice none 0 0,.slice none 0 0,.slice none 0 0,.map (some (W.heap.size+2)),.map (some (W.heap.size+3)),.map (some (W.heap.size+4)),.map (some (W.heap.size+5)),.map (some (W.heap.size+6))] 126;rw[s7] at this;exact this
 replace k7:=k7.keep (Keep.of_below B9 (fun _=>False)) (by simp)
 replace k7:=k7.keep (Keep.of_below B10 (fun _=>False)) (by simp)
 have k8:Blk V9 (W.heap.size+8) [.slice o0 l0.length c0,.slice o1 l1.length c1,.slice o2 l2.length c2,.slice o3 l3.length c3,.slice o4 l4.length c4,.slice o5 l5.length c5,.slice o6 l6.length c6,.slice o7 l7.length c7,.pointer (some ⟨W.heap.size+7,0,none⟩)] 146:=by rw[←hV9];have:=Blk.new' V8 #[.slice o0 l0.length c0,.slice o1 l1.length c1,.slice o2 l2.length c2,.slice o3 l3.length c3,.slice o4 l4.length c4,.slice o5 l5.length c5,.slice o6 l6.length c6,.slice o7 l7.length c7,.pointer (some ⟨W.heap.size+7,0,none⟩)] 146;rw[s8] at this;exact this
 replace k8:=k8.keep (Keep.of_below B10 (fun _=>False)) (by simp)
 have k9:Blk V10 (W.heap.size+9) [.func (.func 66) #[.pointer (some ⟨W.heap.size+8,0,none⟩)] #[],.func (.func 67) #[.pointer (some ⟨W.heap.size+8,0,none⟩)] #[],.func (.func 68) #[.pointer (some ⟨W.heap.size+8,0,none⟩)] #[],.func (.func 69) #[.pointer (some ⟨W.heap.size+8,0,none⟩)] #[],.func (.func 70) #[.pointer (some ⟨W.heap.size+8,0,none⟩)] #[],.func (.func 71) #[.pointer (some ⟨W.heap.size+8,0,none⟩)] #[],.func (.func 72) #[.pointer (some ⟨W.heap.size+8,0,none⟩)] #[],.func (.func 73) #[.pointer (some ⟨W.heap.size+8,0,none⟩)] #[],.func (.func 74) #[.pointer (some ⟨W.heap.size+8,0,none⟩)] #[]] 147:=by rw[←hV10];have:=Blk.new' V9 #[.func (.func 66) #[.pointer (some ⟨W.heap.size+8,0,none⟩)] #[],.func (.func 67) #[.pointer (some ⟨W.heap.size+8,0,none⟩)] #[],.func (.func 68) #[.pointer (some ⟨W.heap.size+8,0,none⟩)] #[],.func (.func 69) #[.pointer (some ⟨W.heap.size+8,0,none⟩)] #[],.func (.func 70) #[.pointer (some ⟨W.heap.size+8,0,none⟩)] #[],.func (.func 71) #[.pointer (some ⟨W.heap.size+8,0,none⟩)] #[],.func (.func 72) #[.pointer (some ⟨W.heap.size+8,0,none⟩)] #[],.func (.func 73) #[.pointer (some ⟨W.heap.size+8,0,none⟩)] #[],.func (.func 74) #[.pointer (some ⟨W.heap.size+8,0,none⟩)] #[]] 147;rw[s9] at this;exact this
 have m2:MapIs Tryz.prog 21 V3 (W.heap.size+2) []:=by rw[←hV3];have:=MapIs.made Tryz.prog 21 V2;rw[s2] at this;exact this
 replace m2:=m2.keep B4
 replace m2:=m2.keep B5
 replace m2:=m2.keep B6
 replace m2:=m2.keep B7
 replace m2:=m2.keep B8
 replace m2:=m2.keep B9
 replace m2:=m2.keep B10
 have m3:MapIs Tryz.prog 21 V4 (W.heap.size+3) []:=by rw[←hV4];have:=MapIs.made Tryz.prog 21 V3;rw[s3] at this;exact this
 replace m3:=m3.keep B5
 replace m3:=m3.keep B6
 replace m3:=m3.keep B7
 replace m3:=m3.keep B8
 replace m3:=m3.keep B9
 replace m3:=m3.keep B10
 have m4:MapIs Tryz.prog 171 V5 (W.heap.size+4) []:=by rw[←hV5];have:=MapIs.made Tryz.prog 171 V4;rw[s4] at this;exact this
 replace m4:=m4.keep B6
 replace m4:=m4.keep B7
 replace m4:=m4.keep B8
 replace m4:=m4.keep B9
 replace m4:=m4.keep B10
 have m5:MapIs Tryz.prog 21 V6 (W.heap.size+5) []:=by rw[←hV6];have:=MapIs.made Tryz.prog 21 V5;rw[s5] at this;exact this
 replace m5:=m5.keep B7
 replace m5:=m5.keep B8
 replace m5:=m5.keep B9
 replace m5:=m5.keep B10
 have m6:MapIs Tryz.prog 21 V7 (W.heap.size+6) []:=by rw[←hV7];have:=MapIs.made Tryz.prog 21 V6;rw[s6] at this;exact this
 replace m6:=m6.keep B8
 replace m6:=m6.keep B9
 replace m6:=m6.keep B10
 have hN0:NewSt W V10 ⟨l0,l1,l2,l3,l4,l5,l6,l7⟩ ⟨o0,o1,o2,o3,o4,o5,o6,o7,c0,c1,c2,c3,c4,c5,c6,c7⟩ [.slice none 0 0,.slice none 0 0,.slice none 0 0,.slice none 0 0,.slice none 0 0,.slice none 0 0,.slice none 0 0,.slice none 0 0] [.func (.func 66) #[.pointer (some ⟨W.heap.size+8,0,none⟩)] #[],.func (.func 67) #[.pointer (some ⟨W.heap.size+8,0,none⟩)] #[],.func (.func 68) #[.pointer (some ⟨W.heap.size+8,0,none⟩)] #[],.func (.func 69) #[.pointer (some ⟨W.heap.size+8,0,none⟩)] #[],.func (.func 70) #[.pointer (some ⟨W.heap.size+8,0,none⟩)] #[],.func (.func 71) #[.pointer (some ⟨W.heap.size+8,0,none⟩)] #[],.func (.func 72) #[.pointer (some ⟨W.heap.size+8,0,none⟩)] #[],.func (.func 73) #[.pointer (some ⟨W.heap.size+8,0,none⟩)] #[],.func (.func 74) #[.pointer (some ⟨W.heap.size+8,0,none⟩)] #[]] 126 146 147:=⟨C10,k0,k1,k7,k8,k9,rfl⟩
 have hM0:Maps0 V10 (newM W):=⟨m2,m3,m4,m5,m6,by simp[newM],by simp[newM],by simp[newM],by simp[newM],by simp[newM],by simp[newM],by simp[newM],by simp[newM],by simp[newM],by simp[newM]⟩
 have HV1:=Lib.hid hV1
 have S1:=Lib.hid s1
 have HV2:=Lib.hid hV2
 have S2:=Lib.hid s2
 have HV3:=Lib.hid hV3
 have S3:=Lib.hid s3
 have HV4:=Lib.hid hV4
 have S4:=Lib.hid s4
 have HV5:=Lib.hid hV5
 have S5:=Lib.hid s5
 have HV6:=Lib.hid hV6
 have S6:=Lib.hid s6
 have HV7:=Lib.hid hV7
 have S7:=Lib.hid s7
 have HV8:=Lib.hid hV8
 have S8:=Lib.hid s8
 have HV9:=Lib.hid hV9
 have S9:=Lib.hid s9
 have HV10:=Lib.hid hV10
 have S10:=Lib.hid s10
 have HT:=Lib.hid h
 have HN:=Lib.hid hN0
 have HM:=Lib.hid hM0
 have HF:=Lib.hid hf
 have HT:=Lib.hid h
 have HN:=Lib.hid hN0
 have HM:=Lib.hid hM0
 have HF:=Lib.hid hf
 have HZ:=Lib.hid hz
 clear hV1 s1 B1 C1 hV2 s2 B2 C2 hV3 s3 B3 C3 hV4 s4 B4 C4 hV5 s5 B5 C5 hV6 s6 B6 C6 hV7 s7 B7 C7 hV8 s8 B8 C8 hV9 s9 B9 C9 hV10 s10 B10 C10 k0 k1 k7 k8 k9 m2 m3 m4 m5 m6 hN0 hM0 h hf hz
 obtain⟨TT,hTT⟩:∃TT:Tab,⟨l0,l1,l2,l3,l4,l5,l6,l7⟩=TT:=⟨_,rfl⟩
 obtain⟨R,hR⟩:∃R,checkW TT=R:=⟨_,rfl⟩
 have HR:=Lib.hid hR
 have HC:=Lib.hid ((nine TT).trans hR)
 have HTT:=Lib.hid hTT
 clear hR hTT
 have hmm:=@run_makeMap Tryz.prog
 obtain⟨fn,hfn,Hres⟩:∃fn,Tryz.f46=fn∧Hid (fn.results=#[.tmp 2,.cell 3 100]):=⟨_,rfl,Lib.hid Tryz.results46⟩
 simp only[tabCells]
 go_enter Tryz.func46,Tryz.ntmps46
 rw[hfn]
 clear hfn
 go_wp2_with fail
 simp only[Nat.add_assoc,Nat.reduceAdd]
 rw[HV1.out,HV2.out,HV3.out,HV4.out,HV5.out,HV6.out,HV7.out,HV8.out,HV9.out,HV10.out]
 clear hmm HV1 HV2 HV3 HV4 HV5 HV6 HV7 HV8 HV9 HV10
 refine wp_loop_rounds 10 ?_
 have HB0:Hid (∃u6:Value,V10.cell? ⟨W.heap.size+7,6,none⟩=some u6∧V10.frozen? ⟨W.heap.size+7,6,none⟩=false):=Lib.hid ⟨_,HN.out.kb.cell 6,HN.out.kb.frozen 6⟩
 have HZb:=Lib.hid (fun (z:World) (hb:Below W.heap.size W z)=>tabs_below HZ.out hb)
 -- step 0: long
 obtain⟨x1,x2,x3,hx⟩:∃x1 x2 x3:Int,longW TT=(x1,x2,x3):=⟨_,_,_,rfl⟩
 have K:Hid (Calls Tryz.prog 66 #[.pointer (some ⟨W.heap.size+8,0,none⟩)] V10 fun e w'=>e=.returned (.agg #[.int .i64 x1,.int .i64 x2,.int .i64 x3])∧Below V10.heap.size V10 w'):=Lib.hid (by
  have h:=clong_any ⟨l0,l1,l2,l3,l4,l5,l6,l7⟩ ⟨o0,o1,o2,o3,o4,o5,o6,o7,c0,c1,c2,c3,c4,c5,c6,c7⟩ (newM W) V10 (HN.out.chk HT.out)
  have hx2:=hx
  rw[←HTT.out] at hx2
  unfold wV at h
  rw[hx2] at h
  exact h)
 have cf:V10.cell? ⟨W.heap.size+9,0,none⟩=some (.func (.func 66) #[.pointer (some ⟨W.heap.size+8,0,none⟩)] #[]):=HN.out.kf.cell 0
 have HC1:Hid (orK (x1,x2,x3) (orK (formsW TT) (orK (twiceW TT) (orK (pairs9 TT) (orK (chains9 TT) (orK (dropsW TT) (orK (froms9 TT) (orK (tos9 TT) (houseW TT))))))))=R):=Lib.hid ((congrArg (fun x=>orK x (orK (formsW TT) (orK (twiceW TT) (orK (pairs9 TT) (orK (chains9 TT) (orK (dropsW TT) (orK (froms9 TT) (orK (tos9 TT) (houseW TT))))))))) hx).symm.trans HC.out)
 have HX:=Lib.hid hx
 clear hx HC
 rw[rounds_succ]
 go_wp2_with fail
 (with_reducible refine Calls.mono K.out ?_)
 rintro e w' ⟨rfl,hB⟩
 have HB:=Lib.hid hB
 clear K hB cf
 go_upto_region 6 with fail
 have b7:=Blk.new' w' #[.int .i64 x1,.int .i64 x2,.int .i64 x3] 100
 have hal:Below w'.heap.size w' (w'.alloc (.cells #[.int .i64 x1,.int .i64 x2,.int .i64 x3] 100)):=(Below.refl _ _).alloc (Nat.le_refl _) _
 have HN1:=Lib.hid ((HN.out.below HB.out).below hal)
 have HM1:=Lib.hid ((HM.out.below HB.out).below hal)
 obtain⟨z0,hz⟩:∃z,w'.alloc (.cells #[.int .i64 x1,.int .i64 x2,.int .i64 x3] 100)=z:=⟨_,rfl⟩
 rw[hz] at b7 HN1 HM1 ⊢
 obtain⟨g0,hg⟩:∃g,w'.heap.size=g:=⟨_,rfl⟩
 rw[hg] at b7 ⊢
 clear hz hg HB hal HN HM HB0
 have e0:=b7.cell 0
 have e1:=b7.cell 1
 have e2:=b7.cell 2
 dsimp only[List.getElem?_cons_zero,List.getElem?_cons_succ] at e0 e1 e2
 clear b7
 by_cases hx1:x1=0
 ·subst hx1
  have HC:Hid (orK (formsW TT) (orK (twiceW TT) (orK (pairs9 TT) (orK (chains9 TT) (orK (dropsW TT) (orK (froms9 TT) (orK (tos9 TT) (houseW TT)))))))=R):=Lib.hid ((orK_no (x:=(0,x2,x3)) rfl).symm.trans HC1.out)
  clear HC1 HX
  have HN:=Lib.hid HN1.out
  have HM:=Lib.hid (HM1.out)
  clear HN1 HM1
  go_wp2_with fail
  clear e0 e1 e2
  -- step 1: forms
  obtain⟨x1,x2,x3,hx⟩:∃x1 x2 x3:Int,formsW TT=(x1,x2,x3):=⟨_,_,_,rfl⟩
  have K:Hid (Calls Tryz.prog 67 #[.pointer (some ⟨W.heap.size+8,0,none⟩)] z0 fun e w'=>e=.returned (.agg #[.int .i64 x1,.int .i64 x2,.int .i64 x3])∧Below z0.heap.size z0 w'):=Lib.hid (by
   have h:=cforms_any ⟨l0,l1,l2,l3,l4,l5,l6,l7⟩ ⟨o0,o1,o2,o3,o4,o5,o6,o7,c0,c1,c2,c3,c4,c5,c6,c7⟩ (newM W) z0 (HN.out.chk HT.out) (HZb.out z0 HN.out.B) HF.out
   have hx2:=hx
   rw[←HTT.out] at hx2
   unfold wV at h
   rw[hx2] at h
   exact h)
  have cf:z0.cell? ⟨W.heap.size+9,1,none⟩=some (.func (.func 67) #[.pointer (some ⟨W.heap.size+8,0,none⟩)] #[]):=HN.out.kf.cell 1
  have HC1:Hid (orK (x1,x2,x3) (orK (twiceW TT) (orK (pairs9 TT) (orK (chains9 TT) (orK (dropsW TT) (orK (froms9 TT) (orK (tos9 TT) (houseW TT)))))))=R):=Lib.hid ((congrArg (fun x=>orK x (orK (twiceW TT) (orK (pairs9 TT) (orK (chains9 TT) (orK (dropsW TT) (orK (froms9 TT) (orK (tos9 TT) (houseW TT)))))))) hx).symm.trans HC.out)
  have HX:=Lib.hid hx
  clear hx HC
  rw[rounds_succ]
  go_wp2_with fail
  (with_reducible refine Calls.mono K.out ?_)
  rintro e w' ⟨rfl,hB⟩
  have HB:=Lib.hid hB
  clear K hB cf
  go_upto_region 6 with fail
  have b7:=Blk.new' w' #[.int .i64 x1,.int .i64 x2,.int .i64 x3] 100
  have hal:Below w'.heap.size w' (w'.alloc (.cells #[.int .i64 x1,.int .i64 x2,.int .i64 x3] 100)):=(Below.refl _ _).alloc (Nat.le_refl _) _
  have HN1:=Lib.hid ((HN.out.below HB.out).below hal)
  have HM1:=Lib.hid ((HM.out.below HB.out).below hal)
  obtain⟨z1,hz⟩:∃z,w'.alloc (.cells #[.int .i64 x1,.int .i64 x2,.int .i64 x3] 100)=z:=⟨_,rfl⟩
  rw[hz] at b7 HN1 HM1 ⊢
  obtain⟨g1,hg⟩:∃g,w'.heap.size=g:=⟨_,rfl⟩
  rw[hg] at b7 ⊢
  clear hz hg HB hal HN HM
  have e0:=b7.cell 0
  have e1:=b7.cell 1
  have e2:=b7.cell 2
  dsimp only[List.getElem?_cons_zero,List.getElem?_cons_succ] at e0 e1 e2
  clear b7
  by_cases hx1:x1=0
  ·subst hx1
   have HC:Hid (orK (twiceW TT) (orK (pairs9 TT) (orK (chains9 TT) (orK (dropsW TT) (orK (froms9 TT) (orK (tos9 TT) (houseW TT))))))=R):=Lib.hid ((orK_no (x:=(0,x2,x3)) rfl).symm.trans HC1.out)
   have HE:Hid ((formsW ⟨l0,l1,l2,l3,l4,l5,l6,l7⟩).1=0):=Lib.hid (by rw[HTT.out,HX.out])
   have HO:=Lib.hid (forms_ok HE.out)
   clear HE
   clear HC1 HX
   have HN:=Lib.hid HN1.out
   have HM:=Lib.hid (HM1.out)
   clear HN1 HM1
   go_wp2_with fail
   clear e0 e1 e2
   -- step 2: once
   obtain⟨x1,x2,x3,hx⟩:∃x1 x2 x3:Int,twiceW TT=(x1,x2,x3):=⟨_,_,_,rfl⟩
   have K:Hid (Calls Tryz.prog 68 #[.pointer (some ⟨W.heap.size+8,0,none⟩)] z1 fun e w'=>e=.returned (.agg #[.int .i64 x1,.int .i64 x2,.int .i64 x3])∧Keep (InM (newM W) (newM W).m1) z1 w'∧(x1=0→MapsAt5 w' (newM W) ⟨l0,l1,l2,l3,l4,l5,l6,l7⟩)):=Lib.hid (by
    have h:=conce_any ⟨l0,l1,l2,l3,l4,l5,l6,l7⟩ ⟨o0,o1,o2,o3,o4,o5,o6,o7,c0,c1,c2,c3,c4,c5,c6,c7⟩ (newM W) z1 (HN.out.chk HT.out) HM.out HF.out (fun m hm=>by have:=(HO.out.mks m hm).2.1;omega) (fun m hm=>(HO.out.mks m hm).1) HO.out.pr (fun x hx=>(HO.out.fo x hx).1) (fun x hx=>(HO.out.lo x hx).1)
    have hx2:=hx
    rw[←HTT.out] at hx2
    unfold wV at h
    rw[hx2] at h
    exact h)
   have cf:z1.cell? ⟨W.heap.size+9,2,none⟩=some (.func (.func 68) #[.pointer (some ⟨W.heap.size+8,0,none⟩)] #[]):=HN.out.kf.cell 2
   have HC1:Hid (orK (x1,x2,x3) (orK (pairs9 TT) (orK (chains9 TT) (orK (dropsW TT) (orK (froms9 TT) (orK (tos9 TT) (houseW TT))))))=R):=Lib.hid ((congrArg (fun x=>orK x (orK (pairs9 TT) (orK (chains9 TT) (orK (dropsW TT) (orK (froms9 TT) (orK (tos9 TT) (houseW TT))))))) hx).symm.trans HC.out)
   have HX:=Lib.hid hx
   clear hx HC
   rw[rounds_succ]
   go_wp2_with fail
   (with_reducible refine Calls.mono K.out ?_)
   rintro e w' ⟨rfl,hB⟩
   have HB:=Lib.hid hB
   clear K hB cf
   go_upto_region 6 with fail
   have b7:=Blk.new' w' #[.int .i64 x1,.int .i64 x2,.int .i64 x3] 100
   have hal:Below w'.heap.size w' (w'.alloc (.cells #[.int .i64 x1,.int .i64 x2,.int .i64 x3] 100)):=(Below.refl _ _).alloc (Nat.le_refl _) _
   have HN1:=Lib.hid ((HN.out.step HB.out.1).below hal)
   have HM1:=Lib.hid (fun h=>(HB.out.2 h).below hal)
   obtain⟨z2,hz⟩:∃z,w'.alloc (.cells #[.int .i64 x1,.int .i64 x2,.int .i64 x3] 100)=z:=⟨_,rfl⟩
   rw[hz] at b7 HN1 HM1 ⊢
   obtain⟨g2,hg⟩:∃g,w'.heap.size=g:=⟨_,rfl⟩
   rw[hg] at b7 ⊢
   clear hz hg HB hal HN HM
   have e0:=b7.cell 0
   have e1:=b7.cell 1
   have e2:=b7.cell 2
   dsimp only[List.getElem?_cons_zero,List.getElem?_cons_succ] at e0 e1 e2
   clear b7
   by_cases hx1:x1=0
   ·subst hx1
    have HC:Hid (orK (pairs9 TT) (orK (chains9 TT) (orK (dropsW TT) (orK (froms9 TT) (orK (tos9 TT) (houseW TT)))))=R):=Lib.hid ((orK_no (x:=(0,x2,x3)) rfl).symm.trans HC1.out)
    clear HC1 HX
    have HN:=Lib.hid HN1.out
    have HM:=Lib.hid (HM1.out rfl)
    clear HN1 HM1
    go_wp2_with fail
    clear e0 e1 e2
    -- step 3: pairs
    obtain⟨x1,x2,x3,hx⟩:∃x1 x2 x3:Int,pairs9 TT=(x1,x2,x3):=⟨_,_,_,rfl⟩
    have K:Hid (Calls Tryz.prog 69 #[.pointer (some ⟨W.heap.size+8,0,none⟩)] z2 fun e w'=>e=.returned (.agg #[.int .i64 x1,.int .i64 x2,.int .i64 x3])∧Below z2.heap.size z2 w'):=Lib.hid (by
     have h:=cpairs_any ⟨l0,l1,l2,l3,l4,l5,l6,l7⟩ ⟨o0,o1,o2,o3,o4,o5,o6,o7,c0,c1,c2,c3,c4,c5,c6,c7⟩ (newM W) z2 (HN.out.chk HT.out) HM.out (fun m hm=>by have:=(HO.out.mks m hm).2.1;omega) HO.out.pr
     have hx2:=hx
     rw[←HTT.out] at hx2
     unfold pairs9 at hx2;unfold wV at h
     rw[hx2] at h
     exact h)
    have cf:z2.cell? ⟨W.heap.size+9,3,none⟩=some (.func (.func 69) #[.pointer (some ⟨W.heap.size+8,0,none⟩)] #[]):=HN.out.kf.cell 3
    have HC1:Hid (orK (x1,x2,x3) (orK (chains9 TT) (orK (dropsW TT) (orK (froms9 TT) (orK (tos9 TT) (houseW TT)))))=R):=Lib.hid ((congrArg (fun x=>orK x (orK (chains9 TT) (orK (dropsW TT) (orK (froms9 TT) (orK (tos9 TT) (houseW TT)))))) hx).symm.trans HC.out)
    have HX:=Lib.hid hx
    clear hx HC
    rw[rounds_succ]
    go_wp2_with fail
    (with_reducible refine Calls.mono K.out ?_)
    rintro e w' ⟨rfl,hB⟩
    have HB:=Lib.hid hB
    clear K hB cf
    go_upto_region 6 with fail
    have b7:=Blk.new' w' #[.int .i64 x1,.int .i64 x2,.int .i64 x3] 100
    have hal:Below w'.heap.size w' (w'.alloc (.cells #[.int .i64 x1,.int .i64 x2,.int .i64 x3] 100)):=(Below.refl _ _).alloc (Nat.le_refl _) _
    have HN1:=Lib.hid ((HN.out.below HB.out).below hal)
    have HM1:=Lib.hid ((HM.out.below HB.out).below hal)
    obtain⟨z3,hz⟩:∃z,w'.alloc (.cells #[.int .i64 x1,.int .i64 x2,.int .i64 x3] 100)=z:=⟨_,rfl⟩
    rw[hz] at b7 HN1 HM1 ⊢
    obtain⟨g3,hg⟩:∃g,w'.heap.size=g:=⟨_,rfl⟩
    rw[hg] at b7 ⊢
    clear hz hg HB hal HN HM
    have e0:=b7.cell 0
    have e1:=b7.cell 1
    have e2:=b7.cell 2
    dsimp only[List.getElem?_cons_zero,List.getElem?_cons_succ] at e0 e1 e2
    clear b7
    by_cases hx1:x1=0
    ·subst hx1
     have HC:Hid (orK (chains9 TT) (orK (dropsW TT) (orK (froms9 TT) (orK (tos9 TT) (houseW TT))))=R):=Lib.hid ((orK_no (x:=(0,x2,x3)) rfl).symm.trans HC1.out)
     clear HC1 HX
     have HN:=Lib.hid HN1.out
     have HM:=Lib.hid (HM1.out)
     clear HN1 HM1
     go_wp2_with fail
     clear e0 e1 e2
     -- step 4: chains
     obtain⟨x1,x2,x3,hx⟩:∃x1 x2 x3:Int,chains9 TT=(x1,x2,x3):=⟨_,_,_,rfl⟩
     have K:Hid (Calls Tryz.prog 70 #[.pointer (some ⟨W.heap.size+8,0,none⟩)] z3 fun e w'=>e=.returned (.agg #[.int .i64 x1,.int .i64 x2,.int .i64 x3])∧Below z3.heap.size z3 w'):=Lib.hid (by
      have h:=cchains_any ⟨l0,l1,l2,l3,l4,l5,l6,l7⟩ ⟨o0,o1,o2,o3,o4,o5,o6,o7,c0,c1,c2,c3,c4,c5,c6,c7⟩ (newM W) z3 (HN.out.chk HT.out) HM.out HF.out.l3 HO.out.pr
      have hx2:=hx
      rw[←HTT.out] at hx2
      unfold chains9 at hx2;unfold wV at h
      rw[hx2] at h
      exact h)
     have cf:z3.cell? ⟨W.heap.size+9,4,none⟩=some (.func (.func 70) #[.pointer (some ⟨W.heap.size+8,0,none⟩)] #[]):=HN.out.kf.cell 4
     have HC1:Hid (orK (x1,x2,x3) (orK (dropsW TT) (orK (froms9 TT) (orK (tos9 TT) (houseW TT))))=R):=Lib.hid ((congrArg (fun x=>orK x (orK (dropsW TT) (orK (froms9 TT) (orK (tos9 TT) (houseW TT))))) hx).symm.trans HC.out)
     have HX:=Lib.hid hx
     clear hx HC
     rw[rounds_succ]
     go_wp2_with fail
     (with_reducible refine Calls.mono K.out ?_)
     rintro e w' ⟨rfl,hB⟩
     have HB:=Lib.hid hB
     clear K hB cf
     go_upto_region 6 with fail
     have b7:=Blk.new' w' #[.int .i64 x1,.int .i64 x2,.int .i64 x3] 100
     have hal:Below w'.heap.size w' (w'.alloc (.cells #[.int .i64 x1,.int .i64 x2,.int .i64 x3] 100)):=(Below.refl _ _).alloc (Nat.le_refl _) _
     have HN1:=Lib.hid ((HN.out.below HB.out).below hal)
     have HM1:=Lib.hid ((HM.out.below HB.out).below hal)
     obtain⟨z4,hz⟩:∃z,w'.alloc (.cells #[.int .i64 x1,.int .i64 x2,.int .i64 x3] 100)=z:=⟨_,rfl⟩
     rw[hz] at b7 HN1 HM1 ⊢
     obtain⟨g4,hg⟩:∃g,w'.heap.size=g:=⟨_,rfl⟩
     rw[hg] at b7 ⊢
     clear hz hg HB hal HN HM
     have e0:=b7.cell 0
     have e1:=b7.cell 1
     have e2:=b7.cell 2
     dsimp only[List.getElem?_cons_zero,List.getElem?_cons_succ] at e0 e1 e2
     clear b7
     by_cases hx1:x1=0
     ·subst hx1
      have HC:Hid (orK (dropsW TT) (orK (froms9 TT) (orK (tos9 TT) (houseW TT)))=R):=Lib.hid ((orK_no (x:=(0,x2,x3)) rfl).symm.trans HC1.out)
      clear HC1 HX
      have HN:=Lib.hid HN1.out
      have HM:=Lib.hid (HM1.out)
      clear HN1 HM1
      go_wp2_with fail
      clear e0 e1 e2
      -- step 5: drops
      obtain⟨x1,x2,x3,hx⟩:∃x1 x2 x3:Int,dropsW TT=(x1,x2,x3):=⟨_,_,_,rfl⟩
      have K:Hid (Calls Tryz.prog 71 #[.pointer (some ⟨W.heap.size+8,0,none⟩)] z4 fun e w'=>e=.returned (.agg #[.int .i64 x1,.int .i64 x2,.int .i64 x3])∧Below z4.heap.size z4 w'):=Lib.hid (by
       have h:=cdrops_any ⟨l0,l1,l2,l3,l4,l5,l6,l7⟩ ⟨o0,o1,o2,o3,o4,o5,o6,o7,c0,c1,c2,c3,c4,c5,c6,c7⟩ (newM W) z4 (HN.out.chk HT.out) HO.out.dr HF.out.l6
       have hx2:=hx
       rw[←HTT.out] at hx2
       unfold wV at h
       rw[hx2] at h
       exact h)
      have cf:z4.cell? ⟨W.heap.size+9,5,none⟩=some (.func (.func 71) #[.pointer (some ⟨W.heap.size+8,0,none⟩)] #[]):=HN.out.kf.cell 5
      have HC1:Hid (orK (x1,x2,x3) (orK (froms9 TT) (orK (tos9 TT) (houseW TT)))=R):=Lib.hid ((congrArg (fun x=>orK x (orK (froms9 TT) (orK (tos9 TT) (houseW TT)))) hx).symm.trans HC.out)
      have HX:=Lib.hid hx
      clear hx HC
      rw[rounds_succ]
      go_wp2_with fail
      (with_reducible refine Calls.mono K.out ?_)
      rintro e w' ⟨rfl,hB⟩
      have HB:=Lib.hid hB
      clear K hB cf
      go_upto_region 6 with fail
      have b7:=Blk.new' w' #[.int .i64 x1,.int .i64 x2,.int .i64 x3] 100
      have hal:Below w'.heap.size w' (w'.alloc (.cells #[.int .i64 x1,.int .i64 x2,.int .i64 x3] 100)):=(Below.refl _ _).alloc (Nat.le_refl _) _
      have HN1:=Lib.hid ((HN.out.below HB.out).below hal)
      have HM1:=Lib.hid ((HM.out.below HB.out).below hal)
      obtain⟨z5,hz⟩:∃z,w'.alloc (.cells #[.int .i64 x1,.int .i64 x2,.int .i64 x3] 100)=z:=⟨_,rfl⟩
      rw[hz] at b7 HN1 HM1 ⊢
      obtain⟨g5,hg⟩:∃g,w'.heap.size=g:=⟨_,rfl⟩
      rw[hg] at b7 ⊢
      clear hz hg HB hal HN HM
      have e0:=b7.cell 0
      have e1:=b7.cell 1
      have e2:=b7.cell 2
      dsimp only[List.getElem?_cons_zero,List.getElem?_cons_succ] at e0 e1 e2
      clear b7
      by_cases hx1:x1=0
      ·subst hx1
       have HC:Hid (orK (froms9 TT) (orK (tos9 TT) (houseW TT))=R):=Lib.hid ((orK_no (x:=(0,x2,x3)) rfl).symm.trans HC1.out)
       clear HC1 HX
       have HN:=Lib.hid HN1.out
       have HM:=Lib.hid (HM1.out)
       clear HN1 HM1
       go_wp2_with fail
       clear e0 e1 e2
       -- step 6: froms
       obtain⟨x1,x2,x3,hx⟩:∃x1 x2 x3:Int,froms9 TT=(x1,x2,x3):=⟨_,_,_,rfl⟩
       have K:Hid (Calls Tryz.prog 72 #[.pointer (some ⟨W.heap.size+8,0,none⟩)] z5 fun e w'=>e=.returned (.agg #[.int .i64 x1,.int .i64 x2,.int .i64 x3])∧Below z5.heap.size z5 w'):=Lib.hid (by
        have h:=cfroms_any ⟨l0,l1,l2,l3,l4,l5,l6,l7⟩ ⟨o0,o1,o2,o3,o4,o5,o6,o7,c0,c1,c2,c3,c4,c5,c6,c7⟩ (newM W) z5 (HN.out.chk HT.out) HM.out (fun m hm=>by have:=(HO.out.mks m hm).2.1;omega) (fun x hx=>(HO.out.fo x hx).1) (fun x hx=>(HO.out.lo x hx).1)
        have hx2:=hx
        rw[←HTT.out] at hx2
        unfold froms9 at hx2;unfold wV at h
        rw[hx2] at h
        exact h)
       have cf:z5.cell? ⟨W.heap.size+9,6,none⟩=some (.func (.func 72) #[.pointer (some ⟨W.heap.size+8,0,none⟩)] #[]):=HN.out.kf.cell 6
       have HC1:Hid (orK (x1,x2,x3) (orK (tos9 TT) (houseW TT))=R):=Lib.hid ((congrArg (fun x=>orK x (orK (tos9 TT) (houseW TT))) hx).symm.trans HC.out)
       have HX:=Lib.hid hx
       clear hx HC
       rw[rounds_succ]
       go_wp2_with fail
       (with_reducible refine Calls.mono K.out ?_)
       rintro e w' ⟨rfl,hB⟩
       have HB:=Lib.hid hB
       clear K hB cf
       go_upto_region 6 with fail
       have b7:=Blk.new' w' #[.int .i64 x1,.int .i64 x2,.int .i64 x3] 100
       have hal:Below w'.heap.size w' (w'.alloc (.cells #[.int .i64 x1,.int .i64 x2,.int .i64 x3] 100)):=(Below.refl _ _).alloc (Nat.le_refl _) _
       have HN1:=Lib.hid ((HN.out.below HB.out).below hal)
       have HM1:=Lib.hid ((HM.out.below HB.out).below hal)
       obtain⟨z6,hz⟩:∃z,w'.alloc (.cells #[.int .i64 x1,.int .i64 x2,.int .i64 x3] 100)=z:=⟨_,rfl⟩
       rw[hz] at b7 HN1 HM1 ⊢
       obtain⟨g6,hg⟩:∃g,w'.heap.size=g:=⟨_,rfl⟩
       rw[hg] at b7 ⊢
       clear hz hg HB hal HN HM
       have e0:=b7.cell 0
       have e1:=b7.cell 1
       have e2:=b7.cell 2
       dsimp only[List.getElem?_cons_zero,List.getElem?_cons_succ] at e0 e1 e2
       clear b7
       by_cases hx1:x1=0
       ·subst hx1
        have HC:Hid (orK (tos9 TT) (houseW TT)=R):=Lib.hid ((orK_no (x:=(0,x2,x3)) rfl).symm.trans HC1.out)
        clear HC1 HX
        have HN:=Lib.hid HN1.out
        have HM:=Lib.hid (HM1.out)
        clear HN1 HM1
        go_wp2_with fail
        clear e0 e1 e2
        -- step 7: tos
        obtain⟨x1,x2,x3,hx⟩:∃x1 x2 x3:Int,tos9 TT=(x1,x2,x3):=⟨_,_,_,rfl⟩
        have K:Hid (Calls Tryz.prog 73 #[.pointer (some ⟨W.heap.size+8,0,none⟩)] z6 fun e w'=>e=.returned (.agg #[.int .i64 x1,.int .i64 x2,.int .i64 x3])∧Below z6.heap.size (z6.setCell ⟨W.heap.size+7,6,none⟩ (.slice o6 l6.length c6)) w'):=Lib.hid (by
         have h:=ctos_any ⟨l0,l1,l2,l3,l4,l5,l6,l7⟩ ⟨o0,o1,o2,o3,o4,o5,o6,o7,c0,c1,c2,c3,c4,c5,c6,c7⟩ (newM W) z6 (HN.out.chk HT.out) HM.out (by simp[newM]) _ (HN.out.kb.cell 6) (HN.out.kb.frozen 6) (HT.out.below (HN.out.B.setCell (by simp[newM]) _)) (fun m hm=>by have:=(HO.out.mks m hm).2.1;omega) HO.out.dr HF.out.l6 (fun x hx=>⟨(HO.out.fo x hx).2.1,HF.out.small.folds x hx⟩) (fun x hx=>⟨(HO.out.lo x hx).2.1,HF.out.small.looks x hx⟩)
         have hx2:=hx
         rw[←HTT.out] at hx2
         unfold tos9 at hx2;unfold wV at h
         rw[hx2] at h
         exact h)
        have cf:z6.cell? ⟨W.heap.size+9,7,none⟩=some (.func (.func 73) #[.pointer (some ⟨W.heap.size+8,0,none⟩)] #[]):=HN.out.kf.cell 7
        have HC1:Hid (orK (x1,x2,x3) (houseW TT)=R):=Lib.hid ((congrArg (fun x=>orK x (houseW TT)) hx).symm.trans HC.out)
        have HX:=Lib.hid hx
        clear hx HC
        rw[rounds_succ]
        go_wp2_with fail
        (with_reducible refine Calls.mono K.out ?_)
        rintro e w' ⟨rfl,hB⟩
        have HB:=Lib.hid hB
        clear K hB cf
        go_upto_region 6 with fail
        have b7:=Blk.new' w' #[.int .i64 x1,.int .i64 x2,.int .i64 x3] 100
        have hal:Below w'.heap.size w' (w'.alloc (.cells #[.int .i64 x1,.int .i64 x2,.int .i64 x3] 100)):=(Below.refl _ _).alloc (Nat.le_refl _) _
        have HN1:=Lib.hid ((HN.out.set6 _ HB.out).below hal)
        have HM1:=Lib.hid ((HM.out.of_set (HN.out.kb.cell 6) HB.out).below hal)
        obtain⟨z7,hz⟩:∃z,w'.alloc (.cells #[.int .i64 x1,.int .i64 x2,.int .i64 x3] 100)=z:=⟨_,rfl⟩
        rw[hz] at b7 HN1 HM1 ⊢
        obtain⟨g7,hg⟩:∃g,w'.heap.size=g:=⟨_,rfl⟩
        rw[hg] at b7 ⊢
        clear hz hg HB hal HN HM
        have e0:=b7.cell 0
        have e1:=b7.cell 1
        have e2:=b7.cell 2
        dsimp only[List.getElem?_cons_zero,List.getElem?_cons_succ] at e0 e1 e2
        clear b7
        by_cases hx1:x1=0
        ·subst hx1
         have HC:Hid (houseW TT=R):=Lib.hid ((orK_no (x:=(0,x2,x3)) rfl).symm.trans HC1.out)
         clear HC1 HX
         have HN:=Lib.hid HN1.out
         have HM:=Lib.hid (HM1.out)
         clear HN1 HM1
         go_wp2_with fail
         clear e0 e1 e2
         -- step 8: house
         obtain⟨x1,x2,x3,hx⟩:∃x1 x2 x3:Int,houseW TT=(x1,x2,x3):=⟨_,_,_,rfl⟩
         have K:Hid (Calls Tryz.prog 74 #[.pointer (some ⟨W.heap.size+8,0,none⟩)] z7 fun e w'=>e=.returned (.agg #[.int .i64 x1,.int .i64 x2,.int .i64 x3])∧Below z7.heap.size z7 w'):=Lib.hid (by
          have h:=chouse_any ⟨l0,l1,l2,l3,l4,l5,l6,l7⟩ ⟨o0,o1,o2,o3,o4,o5,o6,o7,c0,c1,c2,c3,c4,c5,c6,c7⟩ (newM W) z7 (HN.out.chk HT.out) HO.out.com HO.out.al HF.out.l1 HF.out.l7 (fun x hx=>(HO.out.fo x hx).2.1) (fun x hx=>(HO.out.lo x hx).2.1)
          have hx2:=hx
          rw[←HTT.out] at hx2
          unfold wV at h
          rw[hx2] at h
          exact h)
         have cf:z7.cell? ⟨W.heap.size+9,8,none⟩=some (.func (.func 74) #[.pointer (some ⟨W.heap.size+8,0,none⟩)] #[]):=HN.out.kf.cell 8
         have HC1:Hid ((x1,x2,x3)=R):=Lib.hid (hx.symm.trans HC.out)
         have HX:=Lib.hid hx
         clear hx HC
         rw[rounds_succ]
         go_wp2_with fail
         (with_reducible refine Calls.mono K.out ?_)
         rintro e w' ⟨rfl,hB⟩
         have HB:=Lib.hid hB
         clear K hB cf
         go_upto_region 6 with fail
         have b7:=Blk.new' w' #[.int .i64 x1,.int .i64 x2,.int .i64 x3] 100
         have hal:Below w'.heap.size w' (w'.alloc (.cells #[.int .i64 x1,.int .i64 x2,.int .i64 x3] 100)):=(Below.refl _ _).alloc (Nat.le_refl _) _
         have HN1:=Lib.hid ((HN.out.below HB.out).below hal)
         have HM1:=Lib.hid ((HM.out.below HB.out).below hal)
         obtain⟨z8,hz⟩:∃z,w'.alloc (.cells #[.int .i64 x1,.int .i64 x2,.int .i64 x3] 100)=z:=⟨_,rfl⟩
         rw[hz] at b7 HN1 HM1 ⊢
         obtain⟨g8,hg⟩:∃g,w'.heap.size=g:=⟨_,rfl⟩
         rw[hg] at b7 ⊢
         clear hz hg HB hal HN HM
         have e0:=b7.cell 0
         have e1:=b7.cell 1
         have e2:=b7.cell 2
         dsimp only[List.getElem?_cons_zero,List.getElem?_cons_succ] at e0 e1 e2
         clear b7
         by_cases hx1:x1=0
         ·subst hx1
          have HRz:Hid ((checkW ⟨l0,l1,l2,l3,l4,l5,l6,l7⟩).1=0):=Lib.hid (by rw[HTT.out,HR.out,←HC1.out])
          clear HC1 HX
          have HN:=Lib.hid HN1.out
          have HM:=Lib.hid (HM1.out)
          clear HN1 HM1
          go_wp2_with fail
          clear e0 e1 e2
          rw[rounds_succ]
          go_upto_region 9 with fail
          have HCp:Hid (∀U:World,Below z8.heap.size z8 U→Calls Tryz.prog 75 #[.agg #[.slice o0 l0.length c0,.slice o1 l1.length c1,.slice o2 l2.length c2,.slice o3 l3.length c3,.slice o4 l4.length c4,.slice o5 l5.length c5,.slice o6 l6.length c6,.slice o7 l7.length c7]] U fun e w'=>∃(p0 p1 p2 p3 p4 p5 p6 p7:Option Addr) (d0 d1 d2 d3 d4 d5 d6 d7:Nat),e=.returned (.agg #[.slice p0 l0.length d0,.slice p1 l1.length d1,.slice p2 l2.length d2,.slice p3 l3.length d3,.slice p4 l4.length d4,.slice p5 l5.length d5,.slice p6 l6.length d6,.slice p7 l7.length d7])∧Hid (TabAt w' ⟨l0,l1,l2,l3,l4,l5,l6,l7⟩ ⟨p0,p1,p2,p3,p4,p5,p6,p7,d0,d1,d2,d3,d4,d5,d6,d7⟩∧TabNew U.heap.size w' ⟨l0,l1,l2,l3,l4,l5,l6,l7⟩ ⟨p0,p1,p2,p3,p4,p5,p6,p7,d0,d1,d2,d3,d4,d5,d6,d7⟩∧Below U.heap.size U w')):=Lib.hid (fun U hU=>(copied_any ⟨l0,l1,l2,l3,l4,l5,l6,l7⟩ ⟨o0,o1,o2,o3,o4,o5,o6,o7,c0,c1,c2,c3,c4,c5,c6,c7⟩ U ((HT.out.below HN.out.B).below hU) HF.out).mono fun e w' hh=>by
           obtain⟨⟨p0,p1,p2,p3,p4,p5,p6,p7,d0,d1,d2,d3,d4,d5,d6,d7⟩,he,h1,h2,h3⟩:=hh
           exact⟨p0,p1,p2,p3,p4,p5,p6,p7,d0,d1,d2,d3,d4,d5,d6,d7,he,Lib.hid ⟨h1,h2,h3⟩⟩)
          have hc8:z8.cell? ⟨W.heap.size+8,8,none⟩=some (.pointer (some ⟨W.heap.size+7,0,none⟩)):=HN.out.kc.cell 8
          have hp0:z8.cell? ⟨W.heap.size,0,none⟩=some (.slice o0 l0.length c0):=HN.out.k0.cell 0
          have hp1:z8.cell? ⟨W.heap.size,1,none⟩=some (.slice o1 l1.length c1):=HN.out.k0.cell 1
          have hp2:z8.cell? ⟨W.heap.size,2,none⟩=some (.slice o2 l2.length c2):=HN.out.k0.cell 2
          have hp3:z8.cell? ⟨W.heap.size,3,none⟩=some (.slice o3 l3.length c3):=HN.out.k0.cell 3
          have hp4:z8.cell? ⟨W.heap.size,4,none⟩=some (.slice o4 l4.length c4):=HN.out.k0.cell 4
          have hp5:z8.cell? ⟨W.heap.size,5,none⟩=some (.slice o5 l5.length c5):=HN.out.k0.cell 5
          have hp6:z8.cell? ⟨W.heap.size,6,none⟩=some (.slice o6 l6.length c6):=HN.out.k0.cell 6
          have hp7:z8.cell? ⟨W.heap.size,7,none⟩=some (.slice o7 l7.length c7):=HN.out.k0.cell 7
          have HQ0:Hid (z8.cell? ⟨W.heap.size+7,0,none⟩=some (.slice none 0 0)):=Lib.hid (HN.out.kb.cell 0)
          have HQ1:Hid (z8.cell? ⟨W.heap.size+7,1,none⟩=some (.slice none 0 0)):=Lib.hid (HN.out.kb.cell 1)
          have HQ2:Hid (z8.cell? ⟨W.heap.size+7,2,none⟩=some (.slice none 0 0)):=Lib.hid (HN.out.kb.cell 2)
          have HQ3:Hid (z8.cell? ⟨W.heap.size+7,3,none⟩=some (.slice none 0 0)):=Lib.hid (HN.out.kb.cell 3)
          have HQ4:Hid (z8.cell? ⟨W.heap.size+7,4,none⟩=some (.slice none 0 0)):=Lib.hid (HN.out.kb.cell 4)
          have HQ5:Hid (z8.cell? ⟨W.heap.size+7,5,none⟩=some (.slice none 0 0)):=Lib.hid (HN.out.kb.cell 5)
          have HQ6:Hid (z8.cell? ⟨W.heap.size+7,6,none⟩=some (.slice o6 l6.length c6)):=Lib.hid (HN.out.kb.cell 6)
          have HQ7:Hid (z8.cell? ⟨W.heap.size+7,7,none⟩=some (.slice none 0 0)):=Lib.hid (HN.out.kb.cell 7)
          have HS2:Hid (∀w',Keep (fun k=>k=W.heap.size+7) z8 w'→w'.cell? ⟨W.heap.size+8,8,none⟩=some (.pointer (some ⟨W.heap.size+7,0,none⟩))∧w'.cell? ⟨W.heap.size,0,none⟩=some (.slice o0 l0.length c0)∧w'.cell? ⟨W.heap.size,1,none⟩=some (.slice o1 l1.length c1)∧w'.cell? ⟨W.heap.size,2,none⟩=some (.slice o2 l2.length c2)∧w'.cell? ⟨W.heap.size,3,none⟩=some (.slice o3 l3.length c3)∧w'.cell? ⟨W.heap.size,4,none⟩=some (.slice o4 l4.length c4)∧w'.cell? ⟨W.heap.size,5,none⟩=some (.slice o5 l5.length c5)∧w'.cell? ⟨W.heap.size,6,none⟩=some (.slice o6 l6.length c6)∧w'.cell? ⟨W.heap.size,7,none⟩=some (.slice o7 l7.length c7)):=Lib.hid (fun w' hk=>⟨(hk.cell (cell_lt hc8) (by simp)).trans hc8,(hk.cell (cell_lt hp0) (by simp)).trans hp0,(hk.cell (cell_lt hp1) (by simp)).trans hp1,(hk.cell (cell_lt hp2) (by simp)).trans hp2,(hk.cell (cell_lt hp3) (by simp)).trans hp3,(hk.cell (cell_lt hp4) (by simp)).trans hp4,(hk.cell (cell_lt hp5) (by simp)).trans hp5,(hk.cell (cell_lt hp6) (by simp)).trans hp6,(hk.cell (cell_lt hp7) (by simp)).trans hp7⟩)
          clear hc8 hp0 hp1 hp2 hp3 hp4 hp5 hp6 hp7
          have hy0:=(Below.refl z8.heap.size z8).drew
          go_region_held3 (fun w'=>w'.cell? ⟨W.heap.size+8,8,none⟩=some (.pointer (some ⟨W.heap.size+7,0,none⟩))∧w'.cell? ⟨W.heap.size,0,none⟩=some (.slice o0 l0.length c0)∧w'.cell? ⟨W.heap.size,1,none⟩=some (.slice o1 l1.length c1)∧w'.cell? ⟨W.heap.size,2,none⟩=some (.slice o2 l2.length c2)∧w'.cell? ⟨W.heap.size,3,none⟩=some (.slice o3 l3.length c3)∧w'.cell? ⟨W.heap.size,4,none⟩=some (.slice o4 l4.length c4)∧w'.cell? ⟨W.heap.size,5,none⟩=some (.slice o5 l5.length c5)∧w'.cell? ⟨W.heap.size,6,none⟩=some (.slice o6 l6.length c6)∧w'.cell? ⟨W.heap.size,7,none⟩=some (.slice o7 l7.length c7)) (first | (with_reducible exact HS2.out _ (keep_set8 (Keep.of_below hz _) (fun _=>rfl))) | (with_reducible exact HS2.out _ (Keep.of_below hz _)) | (with_reducible exact HS2.out _ (Keep.of_below hy0 _))) ((go_at_call 75;(with_reducible refine Calls.mono (HCp.out _ hy0) ?_);rintro e w' ⟨p0,p1,p2,p3,p4,p5,p6,p7,d0,d1,d2,d3,d4,d5,d6,d7,rfl,K⟩;have hz:=hy0.trans (K.out.2.2.mono hy0.size);have g0:=cell_bel hz HQ0.out;have f0:=(hz.frozen (cell_lt HQ0.out)).trans (HN.out.kb.frozen 0);have g1:=cell_bel hz HQ1.out;have f1:=(hz.frozen (cell_lt HQ1.out)).trans (HN.out.kb.frozen 1);have g2:=cell_bel hz HQ2.out;have f2:=(hz.frozen (cell_lt HQ2.out)).trans (HN.out.kb.frozen 2);have g3:=cell_bel hz HQ3.out;have f3:=(hz.frozen (cell_lt HQ3.out)).trans (HN.out.kb.frozen 3);have g4:=cell_bel hz HQ4.out;have f4:=(hz.frozen (cell_lt HQ4.out)).trans (HN.out.kb.frozen 4);have g5:=cell_bel hz HQ5.out;have f5:=(hz.frozen (cell_lt HQ5.out)).trans (HN.out.kb.frozen 5);have g6:=cell_bel hz HQ6.out;have f6:=(hz.frozen (cell_lt HQ6.out)).trans (HN.out.kb.frozen 6);have g7:=cell_bel hz HQ7.out;have f7:=(hz.frozen (cell_lt HQ7.out)).trans (HN.out.kb.frozen 7)))
          all_goals (refine ?hN9)
          clear g0 f0 g1 f1 g2 f2 g3 f3 g4 f4 g5 f5 g6 f6 g7 f7 hy0 HS2 HCp
          have hbk:Blk ((((((((w'.setCell ⟨W.heap.size+7,0,none⟩ (.slice p0 l0.length d0)).setCell ⟨W.heap.size+7,1,none⟩ (.slice p1 l1.length d1)).setCell ⟨W.heap.size+7,2,none⟩ (.slice p2 l2.length d2)).setCell ⟨W.heap.size+7,3,none⟩ (.slice p3 l3.length d3)).setCell ⟨W.heap.size+7,4,none⟩ (.slice p4 l4.length d4)).setCell ⟨W.heap.size+7,5,none⟩ (.slice p5 l5.length d5)).setCell ⟨W.heap.size+7,6,none⟩ (.slice p6 l6.length d6)).setCell ⟨W.heap.size+7,7,none⟩ (.slice p7 l7.length d7)) (W.heap.size+7) (([.slice p0 l0.length d0,.slice p1 l1.length d1,.slice p2 l2.length d2,.slice p3 l3.length d3,.slice p4 l4.length d4,.slice p5 l5.length d5,.slice p6 l6.length d6,.slice p7 l7.length d7]:List Value)++[.map (some (W.heap.size+2)),.map (some (W.heap.size+3)),.map (some (W.heap.size+4)),.map (some (W.heap.size+5)),.map (some (W.heap.size+6))]) 126:=(((((((((HN.out.kb.keep (Keep.of_below hz (fun _=>False)) (by simp)).set 0 (.slice p0 l0.length d0)).set 1 (.slice p1 l1.length d1)).set 2 (.slice p2 l2.length d2)).set 3 (.slice p3 l3.length d3)).set 4 (.slice p4 l4.length d4)).set 5 (.slice p5 l5.length d5)).set 6 (.slice p6 l6.length d6)).set 7 (.slice p7 l7.length d7))
          have hk7:Keep (fun k=>k=W.heap.size+7) w' ((((((((w'.setCell ⟨W.heap.size+7,0,none⟩ (.slice p0 l0.length d0)).setCell ⟨W.heap.size+7,1,none⟩ (.slice p1 l1.length d1)).setCell ⟨W.heap.size+7,2,none⟩ (.slice p2 l2.length d2)).setCell ⟨W.heap.size+7,3,none⟩ (.slice p3 l3.length d3)).setCell ⟨W.heap.size+7,4,none⟩ (.slice p4 l4.length d4)).setCell ⟨W.heap.size+7,5,none⟩ (.slice p5 l5.length d5)).setCell ⟨W.heap.size+7,6,none⟩ (.slice p6 l6.length d6)).setCell ⟨W.heap.size+7,7,none⟩ (.slice p7 l7.length d7)):=keep_set8 (Keep.refl _ _) (fun _=>rfl)
          obtain⟨z9,hz9⟩:∃z,((((((((w'.setCell ⟨W.heap.size+7,0,none⟩ (.slice p0 l0.length d0)).setCell ⟨W.heap.size+7,1,none⟩ (.slice p1 l1.length d1)).setCell ⟨W.heap.size+7,2,none⟩ (.slice p2 l2.length d2)).setCell ⟨W.heap.size+7,3,none⟩ (.slice p3 l3.length d3)).setCell ⟨W.heap.size+7,4,none⟩ (.slice p4 l4.length d4)).setCell ⟨W.heap.size+7,5,none⟩ (.slice p5 l5.length d5)).setCell ⟨W.heap.size+7,6,none⟩ (.slice p6 l6.length d6)).setCell ⟨W.heap.size+7,7,none⟩ (.slice p7 l7.length d7))=z:=⟨_,rfl⟩
          rw[hz9] at hbk hk7 ⊢
          clear hz9
          have hk8:=(Keep.of_below hz (fun k=>k=W.heap.size+7)).trans hk7
          have e8:z9.cell? ⟨W.heap.size+8,8,none⟩=some (.pointer (some ⟨W.heap.size+7,0,none⟩)):=(hk8.cell (cell_lt (HN.out.kc.cell 8)) (by simp)).trans (HN.out.kc.cell 8)
          have hb1:=HN.out.k1.keep hk8 (by simp)
          have e0:z9.cell? ⟨W.heap.size+1,0,none⟩=some (.int .i64 0):=hb1.cell 0
          have f0:=hb1.frozen 0
          have e1:z9.cell? ⟨W.heap.size+1,1,none⟩=some (.int .i64 0):=hb1.cell 1
          have f1:=hb1.frozen 1
          have e2:z9.cell? ⟨W.heap.size+1,2,none⟩=some (.int .i64 0):=hb1.cell 2
          have f2:=hb1.frozen 2
          have HBk:=Lib.hid hbk
          have HK7:=Lib.hid hk7
          have HB1:=Lib.hid hb1
          have HZ9:=Lib.hid hz
          clear hbk hk7 hk8 hb1 hz
          go_wp2_with fail
          have b3:=((HB1.out.set 0 (.int .i64 0)).set 1 (.int .i64 0)).set 2 (.int .i64 0)
          have r0:=b3.cell 0
          have r1:=b3.cell 1
          have r2:=b3.cell 2
          refine bodyPost_ret (v:=.tuple #[.pointer (some ⟨W.heap.size+7,0,none⟩),.agg #[.int .i64 0,.int .i64 0,.int .i64 0]]) (res_new Hres.out (by rfl) (by rfl) r0 r1 r2) rfl ?_
          exact new_fin HN.out HM.out HRz.out HO.out HZ9.out K.out.1 (TabNew.mono K.out.2.1 (Nat.le_refl _)) HK7.out (((Keep.refl (fun i=>i=W.heap.size+1) z9).setCell (p:=⟨W.heap.size+1,0,none⟩) (fun _=>rfl) _).setCell (p:=⟨W.heap.size+1,1,none⟩) (fun _=>rfl) _ |>.setCell (p:=⟨W.heap.size+1,2,none⟩) (fun _=>rfl) _) (((HBk.out.other (by simp) _).other (by simp) _).other (by simp) _)
         ·have hd:(x1 != 0)=true:=by simpa using hx1
          have HE:Hid (R=(x1,x2,x3)):=Lib.hid (HC1.out.symm)
          have Hne:=Lib.hid hx1
          have hc0:=HN1.out.k1.cell 0
          have hc1:=HN1.out.k1.cell 1
          have hc2:=HN1.out.k1.cell 2
          have hf0:=HN1.out.k1.frozen 0
          have hf1:=HN1.out.k1.frozen 1
          have hf2:=HN1.out.k1.frozen 2
          clear hx1 HC1
          dsimp only[List.getElem?_cons_zero,List.getElem?_cons_succ] at hc0 hc1 hc2
          go_upto_region 7 with fail
          go_big_region
          all_goals (refine ?hN8)
          clear hc0 hc1 hc2 hf0 hf1 hf2 e0 e1 e2 hd
          try go_wp2_with fail
          have b3:=((HN1.out.k1.drew.set 0 (.int .i64 x1)).set 1 (.int .i64 x2)).set 2 (.int .i64 x3)
          have r0:=b3.cell 0
          have r1:=b3.cell 1
          have r2:=b3.cell 2
          refine bodyPost_ret (v:=.tuple #[.pointer none,.agg #[.int .i64 x1,.int .i64 x2,.int .i64 x3]]) (res_new Hres.out (by rfl) (by rfl) r0 r1 r2) rfl ?_
          exact⟨set3_below HN1.out.B.drew (by omega),Or.inl ⟨by rw[HTT.out,HR.out,HE.out];exact Hne.out,by rw[HTT.out,HR.out,HE.out];rfl⟩⟩
        ·have hd:(x1 != 0)=true:=by simpa using hx1
         have HE:Hid (R=(x1,x2,x3)):=Lib.hid (HC1.out.symm.trans (orK_yes (x:=(x1,x2,x3)) hx1))
         have Hne:=Lib.hid hx1
         have hc0:=HN1.out.k1.cell 0
         have hc1:=HN1.out.k1.cell 1
         have hc2:=HN1.out.k1.cell 2
         have hf0:=HN1.out.k1.frozen 0
         have hf1:=HN1.out.k1.frozen 1
         have hf2:=HN1.out.k1.frozen 2
         clear hx1 HC1
         dsimp only[List.getElem?_cons_zero,List.getElem?_cons_succ] at hc0 hc1 hc2
         go_upto_region 7 with fail
         go_big_region
         all_goals (refine ?hN7)
         clear hc0 hc1 hc2 hf0 hf1 hf2 e0 e1 e2 hd
         try go_wp2_with fail
         have b3:=((HN1.out.k1.drew.set 0 (.int .i64 x1)).set 1 (.int .i64 x2)).set 2 (.int .i64 x3)
         have r0:=b3.cell 0
         have r1:=b3.cell 1
         have r2:=b3.cell 2
         refine bodyPost_ret (v:=.tuple #[.pointer none,.agg #[.int .i64 x1,.int .i64 x2,.int .i64 x3]]) (res_new Hres.out (by rfl) (by rfl) r0 r1 r2) rfl ?_
         exact⟨set3_below HN1.out.B.drew (by omega),Or.inl ⟨by rw[HTT.out,HR.out,HE.out];exact Hne.out,by rw[HTT.out,HR.out,HE.out];rfl⟩⟩
       ·have hd:(x1 != 0)=true:=by simpa using hx1
        have HE:Hid (R=(x1,x2,x3)):=Lib.hid (HC1.out.symm.trans (orK_yes (x:=(x1,x2,x3)) hx1))
        have Hne:=Lib.hid hx1
        have hc0:=HN1.out.k1.cell 0
        have hc1:=HN1.out.k1.cell 1
        have hc2:=HN1.out.k1.cell 2
        have hf0:=HN1.out.k1.frozen 0
        have hf1:=HN1.out.k1.frozen 1
        have hf2:=HN1.out.k1.frozen 2
        clear hx1 HC1
        dsimp only[List.getElem?_cons_zero,List.getElem?_cons_succ] at hc0 hc1 hc2
        go_upto_region 7 with fail
        go_big_region
        all_goals (refine ?hN6)
        clear hc0 hc1 hc2 hf0 hf1 hf2 e0 e1 e2 hd
        try go_wp2_with fail
        have b3:=((HN1.out.k1.drew.set 0 (.int .i64 x1)).set 1 (.int .i64 x2)).set 2 (.int .i64 x3)
        have r0:=b3.cell 0
        have r1:=b3.cell 1
        have r2:=b3.cell 2
        refine bodyPost_ret (v:=.tuple #[.pointer none,.agg #[.int .i64 x1,.int .i64 x2,.int .i64 x3]]) (res_new Hres.out (by rfl) (by rfl) r0 r1 r2) rfl ?_
        exact⟨set3_below HN1.out.B.drew (by omega),Or.inl ⟨by rw[HTT.out,HR.out,HE.out];exact Hne.out,by rw[HTT.out,HR.out,HE.out];rfl⟩⟩
      ·have hd:(x1 != 0)=true:=by simpa using hx1
       have HE:Hid (R=(x1,x2,x3)):=Lib.hid (HC1.out.symm.trans (orK_yes (x:=(x1,x2,x3)) hx1))
       have Hne:=Lib.hid hx1
       have hc0:=HN1.out.k1.cell 0
       have hc1:=HN1.out.k1.cell 1
       have hc2:=HN1.out.k1.cell 2
       have hf0:=HN1.out.k1.frozen 0
       have hf1:=HN1.out.k1.frozen 1
       have hf2:=HN1.out.k1.frozen 2
       clear hx1 HC1
       dsimp only[List.getElem?_cons_zero,List.getElem?_cons_succ] at hc0 hc1 hc2
       go_upto_region 7 with fail
       go_big_region
       all_goals (refine ?hN5)
       clear hc0 hc1 hc2 hf0 hf1 hf2 e0 e1 e2 hd
       try go_wp2_with fail
       have b3:=((HN1.out.k1.drew.set 0 (.int .i64 x1)).set 1 (.int .i64 x2)).set 2 (.int .i64 x3)
       have r0:=b3.cell 0
       have r1:=b3.cell 1
       have r2:=b3.cell 2
       refine bodyPost_ret (v:=.tuple #[.pointer none,.agg #[.int .i64 x1,.int .i64 x2,.int .i64 x3]]) (res_new Hres.out (by rfl) (by rfl) r0 r1 r2) rfl ?_
       exact⟨set3_below HN1.out.B.drew (by omega),Or.inl ⟨by rw[HTT.out,HR.out,HE.out];exact Hne.out,by rw[HTT.out,HR.out,HE.out];rfl⟩⟩
     ·have hd:(x1 != 0)=true:=by simpa using hx1
      have HE:Hid (R=(x1,x2,x3)):=Lib.hid (HC1.out.symm.trans (orK_yes (x:=(x1,x2,x3)) hx1))
      have Hne:=Lib.hid hx1
      have hc0:=HN1.out.k1.cell 0
      have hc1:=HN1.out.k1.cell 1
      have hc2:=HN1.out.k1.cell 2
      have hf0:=HN1.out.k1.frozen 0
      have hf1:=HN1.out.k1.frozen 1
      have hf2:=HN1.out.k1.frozen 2
      clear hx1 HC1
      dsimp only[List.getElem?_cons_zero,List.getElem?_cons_succ] at hc0 hc1 hc2
      go_upto_region 7 with fail
      go_big_region
      all_goals (refine ?hN4)
      clear hc0 hc1 hc2 hf0 hf1 hf2 e0 e1 e2 hd
      try go_wp2_with fail
      have b3:=((HN1.out.k1.drew.set 0 (.int .i64 x1)).set 1 (.int .i64 x2)).set 2 (.int .i64 x3)
      have r0:=b3.cell 0
      have r1:=b3.cell 1
      have r2:=b3.cell 2
      refine bodyPost_ret (v:=.tuple #[.pointer none,.agg #[.int .i64 x1,.int .i64 x2,.int .i64 x3]]) (res_new Hres.out (by rfl) (by rfl) r0 r1 r2) rfl ?_
      exact⟨set3_below HN1.out.B.drew (by omega),Or.inl ⟨by rw[HTT.out,HR.out,HE.out];exact Hne.out,by rw[HTT.out,HR.out,HE.out];rfl⟩⟩
    ·have hd:(x1 != 0)=true:=by simpa using hx1
     have HE:Hid (R=(x1,x2,x3)):=Lib.hid (HC1.out.symm.trans (orK_yes (x:=(x1,x2,x3)) hx1))
     have Hne:=Lib.hid hx1
     have hc0:=HN1.out.k1.cell 0
     have hc1:=HN1.out.k1.cell 1
     have hc2:=HN1.out.k1.cell 2
     have hf0:=HN1.out.k1.frozen 0
     have hf1:=HN1.out.k1.frozen 1
     have hf2:=HN1.out.k1.frozen 2
     clear hx1 HC1
     dsimp only[List.getElem?_cons_zero,List.getElem?_cons_succ] at hc0 hc1 hc2
     go_upto_region 7 with fail
     go_big_region
     all_goals (refine ?hN3)
     clear hc0 hc1 hc2 hf0 hf1 hf2 e0 e1 e2 hd
     try go_wp2_with fail
     have b3:=((HN1.out.k1.drew.set 0 (.int .i64 x1)).set 1 (.int .i64 x2)).set 2 (.int .i64 x3)
     have r0:=b3.cell 0
     have r1:=b3.cell 1
     have r2:=b3.cell 2
     refine bodyPost_ret (v:=.tuple #[.pointer none,.agg #[.int .i64 x1,.int .i64 x2,.int .i64 x3]]) (res_new Hres.out (by rfl) (by rfl) r0 r1 r2) rfl ?_
     exact⟨set3_below HN1.out.B.drew (by omega),Or.inl ⟨by rw[HTT.out,HR.out,HE.out];exact Hne.out,by rw[HTT.out,HR.out,HE.out];rfl⟩⟩
   ·have hd:(x1 != 0)=true:=by simpa using hx1
    have HE:Hid (R=(x1,x2,x3)):=Lib.hid (HC1.out.symm.trans (orK_yes (x:=(x1,x2,x3)) hx1))
    have Hne:=Lib.hid hx1
    have hc0:=HN1.out.k1.cell 0
    have hc1:=HN1.out.k1.cell 1
    have hc2:=HN1.out.k1.cell 2
    have hf0:=HN1.out.k1.frozen 0
    have hf1:=HN1.out.k1.frozen 1
    have hf2:=HN1.out.k1.frozen 2
    clear hx1 HC1
    dsimp only[List.getElem?_cons_zero,List.getElem?_cons_succ] at hc0 hc1 hc2
    go_upto_region 7 with fail
    go_big_region
    all_goals (refine ?hN2)
    clear hc0 hc1 hc2 hf0 hf1 hf2 e0 e1 e2 hd
    try go_wp2_with fail
    have b3:=((HN1.out.k1.drew.set 0 (.int .i64 x1)).set 1 (.int .i64 x2)).set 2 (.int .i64 x3)
    have r0:=b3.cell 0
    have r1:=b3.cell 1
    have r2:=b3.cell 2
    refine bodyPost_ret (v:=.tuple #[.pointer none,.agg #[.int .i64 x1,.int .i64 x2,.int .i64 x3]]) (res_new Hres.out (by rfl) (by rfl) r0 r1 r2) rfl ?_
    exact⟨set3_below HN1.out.B.drew (by omega),Or.inl ⟨by rw[HTT.out,HR.out,HE.out];exact Hne.out,by rw[HTT.out,HR.out,HE.out];rfl⟩⟩
  ·have hd:(x1 != 0)=true:=by simpa using hx1
   have HE:Hid (R=(x1,x2,x3)):=Lib.hid (HC1.out.symm.trans (orK_yes (x:=(x1,x2,x3)) hx1))
   have Hne:=Lib.hid hx1
   have hc0:=HN1.out.k1.cell 0
   have hc1:=HN1.out.k1.cell 1
   have hc2:=HN1.out.k1.cell 2
   have hf0:=HN1.out.k1.frozen 0
   have hf1:=HN1.out.k1.frozen 1
   have hf2:=HN1.out.k1.frozen 2
   clear hx1 HC1
   dsimp only[List.getElem?_cons_zero,List.getElem?_cons_succ] at hc0 hc1 hc2
   go_upto_region 7 with fail
   go_big_region
   all_goals (refine ?hN1)
   clear hc0 hc1 hc2 hf0 hf1 hf2 e0 e1 e2 hd
   try go_wp2_with fail
   have b3:=((HN1.out.k1.drew.set 0 (.int .i64 x1)).set 1 (.int .i64 x2)).set 2 (.int .i64 x3)
   have r0:=b3.cell 0
   have r1:=b3.cell 1
   have r2:=b3.cell 2
   refine bodyPost_ret (v:=.tuple #[.pointer none,.agg #[.int .i64 x1,.int .i64 x2,.int .i64 x3]]) (res_new Hres.out (by rfl) (by rfl) r0 r1 r2) rfl ?_
   exact⟨set3_below HN1.out.B.drew (by omega),Or.inl ⟨by rw[HTT.out,HR.out,HE.out];exact Hne.out,by rw[HTT.out,HR.out,HE.out];rfl⟩⟩
 ·have hd:(x1 != 0)=true:=by simpa using hx1
  have HE:Hid (R=(x1,x2,x3)):=Lib.hid (HC1.out.symm.trans (orK_yes (x:=(x1,x2,x3)) hx1))
  have Hne:=Lib.hid hx1
  have hc0:=HN1.out.k1.cell 0
  have hc1:=HN1.out.k1.cell 1
  have hc2:=HN1.out.k1.cell 2
  have hf0:=HN1.out.k1.frozen 0
  have hf1:=HN1.out.k1.frozen 1
  have hf2:=HN1.out.k1.frozen 2
  clear hx1 HC1
  dsimp only[List.getElem?_cons_zero,List.getElem?_cons_succ] at hc0 hc1 hc2
  go_upto_region 7 with fail
  go_big_region
  all_goals (refine ?hN0)
  clear hc0 hc1 hc2 hf0 hf1 hf2 e0 e1 e2 hd
  try go_wp2_with fail
  have b3:=((HN1.out.k1.drew.set 0 (.int .i64 x1)).set 1 (.int .i64 x2)).set 2 (.int .i64 x3)
  have r0:=b3.cell 0
  have r1:=b3.cell 1
  have r2:=b3.cell 2
  refine bodyPost_ret (v:=.tuple #[.pointer none,.agg #[.int .i64 x1,.int .i64 x2,.int .i64 x3]]) (res_new Hres.out (by rfl) (by rfl) r0 r1 r2) rfl ?_
  exact⟨set3_below HN1.out.B.drew (by omega),Or.inl ⟨by rw[HTT.out,HR.out,HE.out];exact Hne.out,by rw[HTT.out,HR.out,HE.out];rfl⟩⟩
end Go.Proofs.YtioehfhdoohdmaaGreatDoor
