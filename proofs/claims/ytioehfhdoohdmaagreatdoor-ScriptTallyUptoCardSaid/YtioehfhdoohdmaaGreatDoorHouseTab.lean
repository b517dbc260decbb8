/- guisebook.House: a small right table. Printed by gen_house.py. -/
import Derived.Test.YtioehfhdoohdmaaGreatDoorCloneA
set_option linter.unusedVariables false
set_option linter.unusedSimpArgs false
namespace Go.Proofs.YtioehfhdoohdmaaGreatDoor
open Go.RowKit Go.Shelf BigFrame
def houseT:Tab:=⟨[(⟨#[108,97,116,105,110]⟩,[(65,90),(97,122),(232,234),(7865,7871)]),(⟨#[103,114,101,101,107]⟩,[(945,969)]),(⟨#[99,121,114,105,108,108,105,99]⟩,[(1072,1103)])],[(45,57)],[(769,230),(770,230),(803,220)],[(233,101,769),(234,101,770),(7865,101,803),(7871,234,769)],[(65,⟨#[97]⟩),(69,⟨#[101]⟩)],[(1072,⟨#[97]⟩),(49,⟨#[108]⟩),(109,⟨#[114,110]⟩)],[(8205,8205)],[(45,45),(48,57),(97,122),(232,234),(769,770),(803,803),(945,969),(1072,1103),(7865,7871)]⟩
theorem Blk.rd {W:World}{b:Nat}{vs:List Value}{T:TypeId}(h:Blk W b vs T):Rd W (some ⟨b,0,none⟩) vs:=fun j u hj=>⟨b,0,rfl,by rw[Nat.zero_add];exact (h.cell j).trans hj⟩
theorem houseT_small:∀x∈houseT.scripts,x.1.size≤maxLen∧x.2.length≤maxLen:=by decide
def HousePost (W:World) (e:Ending) (w':World):Prop:=∃a:TAddr,e=.returned (.agg (tabCells houseT a))∧TabAt w' houseT a∧Below W.heap.size W w'
set_option maxRecDepth 100000 in
set_option maxHeartbeats 40000000 in
theorem house_table (W:World):Calls Tryz.prog 43 #[] W (HousePost W):=by
 obtain⟨V1,hV1⟩:∃V,W.alloc (.cells #[.slice (some ⟨W.heap.size+4,0,none⟩) 3 3,.slice (some ⟨W.heap.size+5,0,none⟩) 1 1,.slice (some ⟨W.heap.size+6,0,none⟩) 3 3,.slice (some ⟨W.heap.size+7,0,none⟩) 4 4,.slice (some ⟨W.heap.size+8,0,none⟩) 2 2,.slice (some ⟨W.heap.size+9,0,none⟩) 3 3,.slice (some ⟨W.heap.size+10,0,none⟩) 1 1,.slice (some ⟨W.heap.size+11,0,none⟩) 9 9] 28)=V:=⟨_,rfl⟩
 have s1:V1.heap.size=W.heap.size+1:=by rw[←hV1];simp
 have B1:Below W.heap.size W V1:=by rw[←hV1];exact (Below.refl _ _).alloc (Nat.le_refl _) _
 have k0:Blk V1 (W.heap.size+0) [.slice (some ⟨W.heap.size+4,0,none⟩) 3 3,.slice (some ⟨W.heap.size+5,0,none⟩) 1 1,.slice (some ⟨W.heap.size+6,0,none⟩) 3 3,.slice (some ⟨W.heap.size+7,0,none⟩) 4 4,.slice (some ⟨W.heap.size+8,0,none⟩) 2 2,.slice (some ⟨W.heap.size+9,0,none⟩) 3 3,.slice (some ⟨W.heap.size+10,0,none⟩) 1 1,.slice (some ⟨W.heap.size+11,0,none⟩) 9 9] 28:=by rw[←hV1];have:=Blk.new' W #[.slice (some ⟨W.heap.size+4,0,none⟩) 3 3,.slice (some ⟨W.heap.size+5,0,none⟩) 1 1,.slice (some ⟨W.heap.size+6,0,none⟩) 3 3,.slice (some ⟨W.heap.size+7,0,none⟩) 4 4,.slice (some ⟨W.heap.size+8,0,none⟩) 2 2,.slice (some ⟨W.heap.size+9,0,none⟩) 3 3,.slice (some ⟨W.heap.size+10,0,none⟩) 1 1,.slice (some ⟨W.heap.size+11,0,none⟩) 9 9] 28;exact this
 obtain⟨V2,hV2⟩:∃V,V1.alloc (.cells #[.int .i32 65,.int .i32 90,.int .i32 97,.int .i32 122,.int .i32 232,.int .i32 234,.int .i32 7865,.int .i32 7871] 137)=V:=⟨_,rfl⟩
 have s2:V2.heap.size=W.heap.size+2:=by rw[←hV2];simp[s1]
 have B2:Below V1.heap.size V1 V2:=by rw[←hV2];exact (Below.refl _ _).alloc (Nat.le_refl _) _
 have k1:Blk V2 (W.heap.size+1) [.int .i32 65,.int .i32 90,.int .i32 97,.int .i32 122,.int .i32 232,.int .i32 234,.int .i32 7865,.int .i32 7871] 137:=by rw[←hV2];have:=Blk.new' V1 #[.int .i32 65,.int .i32 90,.int .i32 97,.int .i32 122,.int .i32 232,.int .i32 234,.int .i32 7865,.int .i32 7871] 137;rw[s1] at this;exact this
 obtain⟨V3,hV3⟩:∃V,V2.alloc (.cells #[.int .i32 945,.int .i32 969] 137)=V:=⟨_,rfl⟩
 have s3:V3.heap.size=W.heap.size+3:=by rw[←hV3];simp[s2]
 have B3:Below V2.heap.size V2 V3:=by rw[←hV3];exact (Below.refl _ _).alloc (Nat.le_refl _) _
 have k2:Blk V3 (W.heap.size+2) [.int .i32 945,.int .i32 969] 137:=by rw[←hV3];have:=Blk.new' V2 #[.int .i32 945,.int .i32 969] 137;rw[s2] at this;exact this
 obtain⟨V4,hV4⟩:∃V,V3.alloc (.cells #[.int .i32 1072,.int .i32 1103] 137)=V:=⟨_,rfl⟩
 have s4:V4.heap.size=W.heap.size+4:=by rw[←hV4];simp[s3]
 have B4:Below V3.heap.size V3 V4:=by rw[←hV4];exact (Below.refl _ _).alloc (Nat.le_refl _) _
 have k3:Blk V4 (W.heap.size+3) [.int .i32 1072,.int .i32 1103] 137:=by rw[←hV4];have:=Blk.new' V3 #[.int .i32 1072,.int .i32 1103] 137;rw[s3] at this;exact this
 obtain⟨V5,hV5⟩:∃V,V4.alloc (.cells #[.string ⟨#[108,97,116,105,110]⟩,.slice (some ⟨W.heap.size+1,0,none⟩) 4 4,.string ⟨#[103,114,101,101,107]⟩,.slice (some ⟨W.heap.size+2,0,none⟩) 1 1,.string ⟨#[99,121,114,105,108,108,105,99]⟩,.slice (some ⟨W.heap.size+3,0,none⟩) 1 1] 128)=V:=⟨_,rfl⟩
 have s5:V5.heap.size=W.heap.size+5:=by rw[←hV5];simp[s4]
 have B5:Below V4.heap.size V4 V5:=by rw[←hV5];exact (Below.refl _ _).alloc (Nat.le_refl _) _
 have k4:Blk V5 (W.heap.size+4) [.string ⟨#[108,97,116,105,110]⟩,.slice (some ⟨W.heap.size+1,0,none⟩) 4 4,.string ⟨#[103,114,101,101,107]⟩,.slice (some ⟨W.heap.size+2,0,none⟩) 1 1,.string ⟨#[99,121,114,105,108,108,105,99]⟩,.slice (some ⟨W.heap.size+3,0,none⟩) 1 1] 128:=by rw[←hV5];have:=Blk.new' V4 #[.string ⟨#[108,97,116,105,110]⟩,.slice (some ⟨W.heap.size+1,0,none⟩) 4 4,.string ⟨#[103,114,101,101,107]⟩,.slice (some ⟨W.heap.size+2,0,none⟩) 1 1,.string ⟨#[99,121,114,105,108,108,105,99]⟩,.slice (some ⟨W.heap.size+3,0,none⟩) 1 1] 128;rw[s4] at this;exact this
 obtain⟨V6,hV6⟩:∃V,V5.alloc (.cells #[.int .i32 45,.int .i32 57] 137)=V:=⟨_,rfl⟩
 have s6:V6.heap.size=W.heap.size+6:=by rw[←hV6];simp[s5]
 have B6:Below V5.heap.size V5 V6:=by rw[←hV6];exact (Below.refl _ _).alloc (Nat.le_refl _) _
 have k5:Blk V6 (W.heap.size+5) [.int .i32 45,.int .i32 57] 137:=by rw[←hV6];have:=Blk.new' V5 #[.int .i32 45,.int .i32 57] 137;rw[s5] at this;exact this
 obtain⟨V7,hV7⟩:∃V,V6.alloc (.cells #[.int .i32 769,.int .i64 230,.int .i32 770,.int .i64 230,.int .i32 803,.int .i64 220] 139)=V:=⟨_,rfl⟩
 have s7:V7.heap.size=W.heap.size+7:=by rw[←hV7];simp[s6]
 have B7:Below V6.heap.size V6 V7:=by rw[←hV7];exact (Below.refl _ _).alloc (Nat.le_refl _) _
 have k6:Blk V7 (W.heap.size+6) [.int .i32 769,.int .i64 230,.int .i32 770,.int .i64 230,.int .i32 803,.int .i64 220] 139:=by rw[←hV7];have:=Blk.new' V6 #[.int .i32 769,.int .i64 230,.int .i32 770,.int .i64 230,.int .i32 803,.int .i64 220] 139;rw[s6] at this;exact this
 obtain⟨V8,hV8⟩:∃V,V7.alloc (.cells #[.int .i32 233,.int .i32 101,.int .i32 769,.int .i32 234,.int .i32 101,.int .i32 770,.int .i32 7865,.int .i32 101,.int .i32 803,.int .i32 7871,.int .i32 234,.int .i32 769] 141)=V:=⟨_,rfl⟩
 have s8:V8.heap.size=W.heap.size+8:=by rw[←hV8];simp[s7]
 have B8:Below V7.heap.size V7 V8:=by rw[←hV8];exact (Below.refl _ _).alloc (Nat.le_refl _) _
 have k7:Blk V8 (W.heap.size+7) [.int .i32 233,.int .i32 101,.int .i32 769,.int .i32 234,.int .i32 101,.int .i32 770,.int .i32 7865,.int .i32 101,.int .i32 803,.int .i32 7871,.int .i32 234,.int .i32 769] 141:=by rw[←hV8];have:=Blk.new' V7 #[.int .i32 233,.int .i32 101,.int .i32 769,.int .i32 234,.int .i32 101,.int .i32 770,.int .i32 7865,.int .i32 101,.int .i32 803,.int .i32 7871,.int .i32 234,.int .i32 769] 141;rw[s7] at this;exact this
 obtain⟨V9,hV9⟩:∃V,V8.alloc (.cells #[.int .i32 65,.string ⟨#[97]⟩,.int .i32 69,.string ⟨#[101]⟩] 143)=V:=⟨_,rfl⟩
 have s9:V9.heap.size=W.heap.size+9:=by rw[←hV9];simp[s8]
 have B9:Below V8.heap.size V8 V9:=by rw[←hV9];exact (Below.refl _ _).alloc (Nat.le_refl _) _
 have k8:Blk V9 (W.heap.size+8) [.int .i32 65,.string ⟨#[97]⟩,.int .i32 69,.string ⟨#[101]⟩] 143:=by rw[←hV9];have:=Blk.new' V8 #[.int .i32 65,.string ⟨#[97]⟩,.int .i32 69,.string ⟨#[101]⟩] 143;rw[s8] at this;exact this
 obtain⟨V10,hV10⟩:∃V,V9.alloc (.cells #[.int .i32 1072,.string ⟨#[97]⟩,.int .i32 49,.string ⟨#[108]⟩,.int .i32 109,.string ⟨#[114,110]⟩] 143)=V:=⟨_,rfl⟩
 have s10:V10.heap.size=W.heap.size+10:=by rw[←hV10];simp[s9]
 have B10:Below V9.heap.size V9 V10:=by rw[←hV10];exact (Below.refl _ _).alloc (Nat.le_refl _) _
 have k9:Blk V10 (W.heap.size+9) [.int .i32 1072,.string ⟨#[97]⟩,.int .i32 49,.string ⟨#[108]⟩,.int .i32 109,.string ⟨#[114,110]⟩] 143:=by rw[←hV10];have:=Blk.new' V9 #[.int .i32 1072,.string ⟨#[97]⟩,.int .i32 49,.string ⟨#[108]⟩,.int .i32 109,.string ⟨#[114,110]⟩] 143;rw[s9] at this;exact this
 obtain⟨V11,hV11⟩:∃V,V10.alloc (.cells #[.int .i32 8205,.int .i32 8205] 137)=V:=⟨_,rfl⟩
 have s11:V11.heap.size=W.heap.size+11:=by rw[←hV11];simp[s10]
 have B11:Below V10.heap.size V10 V11:=by rw[←hV11];exact (Below.refl _ _).alloc (Nat.le_refl _) _
 have k10:Blk V11 (W.heap.size+10) [.int .i32 8205,.int .i32 8205] 137:=by rw[←hV11];have:=Blk.new' V10 #[.int .i32 8205,.int .i32 8205] 137;rw[s10] at this;exact this
 obtain⟨V12,hV12⟩:∃V,V11.alloc (.cells #[.int .i32 45,.int .i32 45,.int .i32 48,.int .i32 57,.int .i32 97,.int .i32 122,.int .i32 232,.int .i32 234,.int .i32 769,.int .i32 770,.int .i32 803,.int .i32 803,.int .i32 945,.int .i32 969,.int .i32 1072,.int .i32 1103,.int .i32 7865,.int .i32 7871] 137)=V:=⟨_,rfl⟩
 have s12:V12.heap.size=W.heap.size+12:=by rw[←hV12];simp[s11]
 have B12:Below V11.heap.size V11 V12:=by rw[←hV12];exact (Below.refl _ _).alloc (Nat.le_refl _) _
 have k11:Blk V12 (W.heap.size+11) [.int .i32 45,.int .i32 45,.int .i32 48,.int .i32 57,.int .i32 97,.int .i32 122,.int .i32 232,.int .i32 234,.int .i32 769,.int .i32 770,.int .i32 803,.int .i32 803,.int .i32 945,.int .i32 969,.int .i32 1072,.int .i32 1103,.int .i32 7865,.int .i32 7871] 137:=by rw[←hV12];have:=Blk.new' V11 #[.int .i32 45,.int .i32 45,.int .i32 48,.int .i32 57,.int .i32 97,.int .i32 122,.int .i32 232,.int .i32 234,.int .i32 769,.int .i32 770,.int .i32 803,.int .i32 803,.int .i32 945,.int .i32 969,.int .i32 1072,.int .i32 1103,.int .i32 7865,.int .i32 7871] 137;rw[s11] at this;exact this
 replace k0:=k0.keep (Keep.of_below B2 (fun _=>False)) (by simp)
 replace k0:=k0.keep (Keep.of_below B3 (fun _=>False)) (by simp)
 replace k0:=k0.keep (Keep.of_below B4 (fun _=>False)) (by simp)
 replace k0:=k0.keep (Keep.of_below B5 (fun _=>False)) (by simp)
 replace k0:=k0.keep (Keep.of_below B6 (fun _=>False)) (by simp)
 replace k0:=k0.keep (Keep.of_below B7 (fun _=>False)) (by simp)
 replace k0:=k0.keep (Keep.of_below B8 (fun _=>False)) (by simp)
 replace k0:=k0.keep (Keep.of_below B9 (fun _=>False)) (by simp)
 replace k0:=k0.keep (Keep.of_below B10 (fun _=>False)) (by simp)
 replace k0:=k0.keep (Keep.of_below B11 (fun _=>False)) (by simp)
 replace k0:=k0.keep (Keep.of_below B12 (fun _=>False)) (by simp)
 replace k1:=k1.keep (Keep.of_below B3 (fun _=>False)) (by simp)
 replace k1:=k1.keep (Keep.of_below B4 (fun _=>False)) (by simp)
 replace k1:=k1.keep (Keep.of_below B5 (fun _=>False)) (by simp)
 replace k1:=k1.keep (Keep.of_below B6 (fun _=>False)) (by simp)
 replace k1:=k1.keep (Keep.of_below B7 (fun _=>False)) (by simp)
 replace k1:=k1.keep (Keep.of_below B8 (fun _=>False)) (by simp)
 replace k1:=k1.keep (Keep.of_below B9 (fun _=>False)) (by simp)
 replace k1:=k1.keep (Keep.of_below B10 (fun _=>False)) (by simp)
 replace k1:=k1.keep (Keep.of_below B11 (fun _=>False)) (by simp)
 replace k1:=k1.keep (Keep.of_below B12 (fun _=>False)) (by simp)
 replace k2:=k2.keep (Keep.of_below B4 (fun _=>False)) (by simp)
 replace k2:=k2.keep (Keep.of_below B5 (fun _=>False)) (by simp)
 replace k2:=k2.keep (Keep.of_below B6 (fun _=>False)) (by simp)
 replace k2:=k2.keep (Keep.of_below B7 (fun _=>False)) (by simp)
 replace k2:=k2.keep (Keep.of_below B8 (fun _=>False)) (by simp)
 replace k2:=k2.keep (Keep.of_below B9 (fun _=>False)) (by simp)
 replace k2:=k2.keep (Keep.of_below B10 (fun _=>False)) (by simp)
 replace k2:=k2.keep (Keep.of_below B11 (fun _=>False)) (by simp)
 replace k2:=k2.keep (Keep.of_below B12 (fun _=>False)) (by simp)
 replace k3:=k3.keep (Keep.of_below B5 (fun _=>False)) (by simp)
 replace k3:=k3.keep (Keep.of_below B6 (fun _=>False)) (by simp)
 replace k3:=k3.keep (Keep.of_below B7 (fun _=>False)) (by simp)
 replace k3:=k3.keep (Keep.of_below B8 (fun _=>False)) (by simp)
 replace k3:=k3.keep (Keep.of_below B9 (fun _=>False)) (by simp)
 replace k3:=k3.keep (Keep.of_below B10 (fun _=>False)) (by simp)
 replace k3:=k3.keep (Keep.of_below B11 (fun _=>False)) (by simp)
 replace k3:=k3.keep (Keep.of_below B12 (fun _=>False)) (by simp)
 replace k4:=k4.keep (Keep.of_below B6 (fun _=>False)) (by simp)
 replace k4:=k4.keep (Keep.of_below B7 (fun _=>False)) (by simp)
 replace k4:=k4.keep (Keep.of_below B8 (fun _=>False)) (by simp)
 replace k4:=k4.keep (Keep.of_below B9 (fun _=>False)) (by simp)
 replace k4:=k4.keep (Keep.of_below B10 (fun _=>False)) (by simp)
 replace k4:=k4.keep (Keep.of_below B11 (fun _=>False)) (by simp)
 replace k4:=k4.keep (Keep.of_below B12 (fun _=>False)) (by simp)
 replace k5:=k5.keep (Keep.of_below B7 (fun _=>False)) (by simp)
 replace k5:=k5.keep (Keep.of_below B8 (fun _=>False)) (by simp)
 replace k5:=k5.keep (Keep.of_below B9 (fun _=>False)) (by simp)
 replace k5:=k5.keep (Keep.of_below B10 (fun _=>False)) (by simp)
 replace k5:=k5.keep (Keep.of_below B11 (fun _=>False)) (by simp)
 replace k5:=k5.keep (Keep.of_below B12 (fun _=>False)) (by simp)
 replace k6:=k6.keep (Keep.of_below B8 (fun _=>False)) (by simp)
 replace k6:=k6.keep (Keep.of_below B9 (fun _=>False)) (by simp)
 replace k6:=k6.keep (Keep.of_below B10 (fun _=>False)) (by simp)
 replace k6:=k6.keep (Keep.of_below B11 (fun _=>False)) (by simp)
 replace k6:=k6.keep (Keep.of_below B12 (fun _=>False)) (by simp)
 replace k7:=k7.keep (Keep.of_below B9 (fun _=>False)) (by simp)
 replace k7:=k7.keep (Keep.of_below B10 (fun _=>False)) (by simp)
 replace k7:=k7.keep (Keep.of_below B11 (fun _=>False)) (by simp)
 replace k7:=k7.keep (Keep.of_below B12 (fun _=>False)) (by simp)
 replace k8:=k8.keep (Keep.of_below B10 (fun _=>False)) (by simp)
 replace k8:=k8.keep (Keep.of_below B11 (fun _=>False)) (by simp)
 replace k8:=k8.keep (Keep.of_below B12 (fun _=>False)) (by simp)
 replace k9:=k9.keep (Keep.of_below B11 (fun _=>False)) (by simp)
 replace k9:=k9.keep (Keep.of_below B12 (fun _=>False)) (by simp)
 replace k10:=k10.keep (Keep.of_below B12 (fun _=>False)) (by simp)
 have C1:=B1
 have C2:=C1.trans (B2.mono C1.size)
 have C3:=C2.trans (B3.mono C2.size)
 have C4:=C3.trans (B4.mono C3.size)
 have C5:=C4.trans (B5.mono C4.size)
 have C6:=C5.trans (B6.mono C5.size)
 have C7:=C6.trans (B7.mono C6.size)
 have C8:=C7.trans (B8.mono C7.size)
 have C9:=C8.trans (B9.mono C8.size)
 have C10:=C9.trans (B10.mono C9.size)
 have C11:=C10.trans (B11.mono C10.size)
 have C12:=C11.trans (B12.mono C11.size)
 have HV1:=Lib.hid hV1
 have HV2:=Lib.hid hV2
 have HV3:=Lib.hid hV3
 have HV4:=Lib.hid hV4
 have HV5:=Lib.hid hV5
 have HV6:=Lib.hid hV6
 have HV7:=Lib.hid hV7
 have HV8:=Lib.hid hV8
 have HV9:=Lib.hid hV9
 have HV10:=Lib.hid hV10
 have HV11:=Lib.hid hV11
 have HV12:=Lib.hid hV12
 have HK0:=Lib.hid k0
 have HK1:=Lib.hid k1
 have HK2:=Lib.hid k2
 have HK3:=Lib.hid k3
 have HK4:=Lib.hid k4
 have HK5:=Lib.hid k5
 have HK6:=Lib.hid k6
 have HK7:=Lib.hid k7
 have HK8:=Lib.hid k8
 have HK9:=Lib.hid k9
 have HK10:=Lib.hid k10
 have HK11:=Lib.hid k11
 have HC:=Lib.hid C12
 clear hV1 s1 B1 C1 hV2 s2 B2 C2 hV3 s3 B3 C3 hV4 s4 B4 C4 hV5 s5 B5 C5 hV6 s6 B6 C6 hV7 s7 B7 C7 hV8 s8 B8 C8 hV9 s9 B9 C9 hV10 s10 B10 C10 hV11 s11 B11 C11 hV12 s12 B12 C12 k0 k1 k2 k3 k4 k5 k6 k7 k8 k9 k10 k11
 obtain⟨fn,hfn,Hres⟩:∃fn,Tryz.f43=fn∧Hid (fn.results=#[.cell 0 28]):=⟨_,rfl,Lib.hid Tryz.results43⟩
 go_enter Tryz.func43,Tryz.ntmps43
 rw[hfn]
 clear hfn
 go_wp2_with fail
 simp only[Nat.add_assoc,Nat.reduceAdd]
 rw[HV1.out,HV2.out,HV3.out,HV4.out,HV5.out,HV6.out,HV7.out,HV8.out,HV9.out,HV10.out,HV11.out,HV12.out]
 have r0:=HK0.out.cell 0
 have r1:=HK0.out.cell 1
 have r2:=HK0.out.cell 2
 have r3:=HK0.out.cell 3
 have r4:=HK0.out.cell 4
 have r5:=HK0.out.cell 5
 have r6:=HK0.out.cell 6
 have r7:=HK0.out.cell 7
 refine bodyPost_ret (v:=.agg #[.slice (some ⟨W.heap.size+4,0,none⟩) 3 3,.slice (some ⟨W.heap.size+5,0,none⟩) 1 1,.slice (some ⟨W.heap.size+6,0,none⟩) 3 3,.slice (some ⟨W.heap.size+7,0,none⟩) 4 4,.slice (some ⟨W.heap.size+8,0,none⟩) 2 2,.slice (some ⟨W.heap.size+9,0,none⟩) 3 3,.slice (some ⟨W.heap.size+10,0,none⟩) 1 1,.slice (some ⟨W.heap.size+11,0,none⟩) 9 9]) (res_tab Hres.out (by rfl) r0 r1 r2 r3 r4 r5 r6 r7) rfl ?_
 have hsc:ScriptsAt V12 (some ⟨W.heap.size+4,0,none⟩) houseT.scripts:=by
  refine Rd.scripts (p:=fun i=>match i with | 0=>(some ⟨W.heap.size+1,0,none⟩,4) | 1=>(some ⟨W.heap.size+2,0,none⟩,1) | _=>(some ⟨W.heap.size+3,0,none⟩,1)) (by exact HK4.out.rd) (fun i hi=>?_)
  match i,hi with
  | 0,_=>exact⟨(Rd.spans (by exact HK1.out.rd)),houseT_small _ (List.getElem_mem _)⟩
  | 1,_=>exact⟨(Rd.spans (by exact HK2.out.rd)),houseT_small _ (List.getElem_mem _)⟩
  | 2,_=>exact⟨(Rd.spans (by exact HK3.out.rd)),houseT_small _ (List.getElem_mem _)⟩
 exact⟨⟨some ⟨W.heap.size+4,0,none⟩,some ⟨W.heap.size+5,0,none⟩,some ⟨W.heap.size+6,0,none⟩,some ⟨W.heap.size+7,0,none⟩,some ⟨W.heap.size+8,0,none⟩,some ⟨W.heap.size+9,0,none⟩,some ⟨W.heap.size+10,0,none⟩,some ⟨W.heap.size+11,0,none⟩,3,1,3,4,2,3,1,9⟩,rfl,⟨hsc,(Rd.spans (by exact HK5.out.rd)),Rd.marks (by exact HK6.out.rd),Rd.pairs (by exact HK7.out.rd),Rd.maps (by exact HK8.out.rd) (by decide),Rd.maps (by exact HK9.out.rd) (by decide),(Rd.spans (by exact HK10.out.rd)),(Rd.spans (by exact HK11.out.rd)),by decide,by decide,by decide,by decide,by decide,by decide,by decide,by decide⟩,HC.out⟩
end Go.Proofs.YtioehfhdoohdmaaGreatDoor
