/- LexA: LexLive, LexSeq. -/
import Derived.Lib.DecodeN
import Derived.Shelf.Unicode.DecodeSlow
set_option linter.unusedVariables false
set_option linter.unusedSimpArgs false
namespace Go.Proofs.YtioehfhdoohdmaaGreatDoor
open Go
def B (s:ByteArray) (i:Nat):Nat:=if h:i<s.size then (s[i]'h).toNat else 0
theorem B_lt (s:ByteArray) (i:Nat):B s i<256:=by
 unfold B;split
 ·exact UInt8.toNat_lt _
 ·decide
theorem B_at {s:ByteArray}{i:Nat}(h:i<s.size):B s i=(s[i]'h).toNat:=dif_pos h
theorem B_out {s:ByteArray}{i:Nat}(h:s.size≤i):B s i=0:=dif_neg (by omega)
def smallB (c:Nat):Bool:=decide (97≤c) && decide (c≤122)
def digitB (c:Nat):Bool:=decide (48≤c) && decide (c≤57)
def goodAt (s:ByteArray) (i:Nat):Bool:=!((Utf8.decode s i).2 == 1) || decide (B s i<128)
def needN (c:Nat):Option (Nat×Nat×Nat):=
 if c<128 then some (0,0,0)
 else if 194≤c∧c≤223 then some (1,128,191)
 else if c=224 then some (2,160,191)
 else if c=237 then some (2,128,159)
 else if 225≤c∧c≤239 then some (2,128,191)
 else if c=240 then some (3,144,191)
 else if 241≤c∧c≤243 then some (3,128,191)
 else if c=244 then some (3,128,143)
 else none
def wrongGo (s:ByteArray) (p:Nat):Nat→Nat→Nat→Nat→Nat
 | 0,k,_,_=>p+k
 | f+1,k,lo,hi=>if p+k<s.size∧lo≤B s (p+k)∧B s (p+k)≤hi then wrongGo s p f (k+1) 128 191 else p+k
def wrongAt (s:ByteArray) (p:Nat):Nat:=
 match needN (B s p) with
 | none=>p
 | some (n,lo,hi)=>wrongGo s p n 1 lo hi
theorem get_B (s:ByteArray) (i:Nat):(s.get! i).toNat=B s i:=by
 unfold B
 split
 ·rename_i h
  have:=Go.get_at s i h
  rw[Nat.add_zero] at this
  rw[this]
 ·rename_i h
  simp[ByteArray.get!,h];rfl
theorem dec_eq (s:ByteArray) (i:Nat):Utf8.decode s i=Lib.decodeN (s.size - i) (B s i) (B s (i+1)) (B s (i+2)) (B s (i+3)):=by
 rw[Lib.decode_at,get_B,get_B,get_B,get_B]
theorem dec_width (s:ByteArray) (i:Nat):1≤(Utf8.decode s i).2∧(Utf8.decode s i).2≤4:=by
 rw[dec_eq];unfold Lib.decodeN;repeat' split
 all_goals simp
theorem dec_fits {s:ByteArray}{i:Nat}(h:i<s.size):i+(Utf8.decode s i).2≤s.size:=by
 rw[dec_eq];unfold Lib.decodeN;repeat' split
 all_goals (simp;omega)
theorem dec_rune (s:ByteArray) (i:Nat):(Utf8.decode s i).1≤1114111:=by
 rw[dec_eq];unfold Lib.decodeN
 have:=B_lt s i
 repeat' split
 all_goals (simp only[];omega)
theorem B_extract (s:ByteArray) (p q i:Nat) (h:p+i<q) (hq:q≤s.size):B (s.extract p q) i=B s (p+i):=by
 rw[B_at (by simp;omega),B_at (by omega)]
 simp[ByteArray.getElem_extract]
theorem B_tail (s:ByteArray) (p i:Nat) (hp:p≤s.size):B (s.extract p s.size) i=B s (p+i):=by
 by_cases h:p+i<s.size
 ·exact B_extract s p s.size i h (Nat.le_refl _)
 ·rw[B_out (by simp;omega),B_out (by omega)]
theorem dec_tail {s:ByteArray}{p:Nat}(hp:p≤s.size):Utf8.decode (s.extract p s.size) 0=Utf8.decode s p:=by
 rw[dec_eq,dec_eq,B_tail _ _ _ hp,B_tail _ _ _ hp,B_tail _ _ _ hp,B_tail _ _ _ hp]
 simp
def Seq (n b0 b1 b2 b3:Nat):Prop:=
 (n=1∧b0<128) ∨
 (n=2∧194≤b0∧b0≤223∧128≤b1∧b1≤191) ∨
 (n=3∧128≤b2∧b2≤191∧((b0=224∧160≤b1∧b1≤191)∨(b0=237∧128≤b1∧b1≤159)∨(225≤b0∧b0≤239∧b0≠237∧128≤b1∧b1≤191))) ∨
 (n=4∧128≤b2∧b2≤191∧128≤b3∧b3≤191∧((b0=240∧144≤b1∧b1≤191)∨(b0=244∧128≤b1∧b1≤143)∨(241≤b0∧b0≤243∧128≤b1∧b1≤191)))
theorem decodeN_cases (n b0 b1 b2 b3:Nat) (h0:b0<256) (h1:b1<256) (h2:b2<256) (h3:b3<256) :
 (b0<128∧Lib.decodeN n b0 b1 b2 b3=(b0,1)) ∨
 (2≤n∧Seq 2 b0 b1 b2 b3∧Lib.decodeN n b0 b1 b2 b3=(b0 % 32*64+b1 % 64,2)) ∨
 (3≤n∧Seq 3 b0 b1 b2 b3∧Lib.decodeN n b0 b1 b2 b3=(b0 % 16*4096+b1 % 64*64+b2 % 64,3)) ∨
 (4≤n∧Seq 4 b0 b1 b2 b3∧Lib.decodeN n b0 b1 b2 b3=(b0 % 8*262144+b1 % 64*4096+b2 % 64*64+b3 % 64,4)) ∨
 (128≤b0∧¬ (2≤n∧Seq 2 b0 b1 b2 b3)∧¬ (3≤n∧Seq 3 b0 b1 b2 b3)∧¬ (4≤n∧Seq 4 b0 b1 b2 b3)∧Lib.decodeN n b0 b1 b2 b3=(65533,1)):=by
 unfold Lib.decodeN Seq
 by_cases c0:b0<128
 ·rw[if_pos c0];left;exact⟨c0,rfl⟩
 ·rw[if_neg c0]
  right
  by_cases c1:b0 / 32=6∧(1<n∧b1 / 64=2)
  ·rw[if_pos c1]
   by_cases d1:b0 % 32*64+b1 % 64 ≥ 128
   ·rw[if_pos d1];left;exact⟨by omega,by omega,rfl⟩
   ·rw[if_neg d1];right;right;right;exact⟨by omega,by omega,by omega,by omega,rfl⟩
  ·rw[if_neg c1]
   by_cases c2:b0 / 16=14∧(1<n∧b1 / 64=2)∧(2<n∧b2 / 64=2)
   ·rw[if_pos c2]
    right
    by_cases d2:b0 % 16*4096+b1 % 64*64+b2 % 64 ≥ 2048∧(b0 % 16*4096+b1 % 64*64+b2 % 64<55296∨(57344≤b0 % 16*4096+b1 % 64*64+b2 % 64∧b0 % 16*4096+b1 % 64*64+b2 % 64≤1114111))
    ·rw[if_pos d2];left;exact⟨by omega,by omega,rfl⟩
    ·rw[if_neg d2];right;right;exact⟨by omega,by omega,by omega,by omega,rfl⟩
   ·rw[if_neg c2]
    by_cases c3:b0 / 8=30∧(1<n∧b1 / 64=2)∧(2<n∧b2 / 64=2)∧(3<n∧b3 / 64=2)
    ·rw[if_pos c3]
     right;right
     by_cases d3:b0 % 8*262144+b1 % 64*4096+b2 % 64*64+b3 % 64 ≥ 65536∧(b0 % 8*262144+b1 % 64*4096+b2 % 64*64+b3 % 64<55296∨(57344≤b0 % 8*262144+b1 % 64*4096+b2 % 64*64+b3 % 64∧b0 % 8*262144+b1 % 64*4096+b2 % 64*64+b3 % 64≤1114111))
     ·rw[if_pos d3];left;exact⟨by omega,by omega,rfl⟩
     ·rw[if_neg d3];right;exact⟨by omega,by omega,by omega,by omega,rfl⟩
    ·rw[if_neg c3];right;right;right;exact⟨by omega,by omega,by omega,by omega,rfl⟩
theorem false_iff_of {b:Bool}{p:Prop}(h:b=false) (k:b=true↔p):¬ p:=fun hp=>by rw[k.2 hp] at h;cases h
theorem good_iff {s:ByteArray}{p:Nat}:goodAt s p=true↔((Utf8.decode s p).2≠1∨B s p<128):=by
 simp[goodAt]
inductive Seg (s:ByteArray):Nat→Nat→Prop where
 | nil (a:Nat):Seg s a a
 | cons {a b:Nat} (h:a<s.size) (hg:goodAt s a=true) (t:Seg s (a+(Utf8.decode s a).2) b):Seg s a b
theorem Seg.le {s:ByteArray}{a b:Nat}(h:Seg s a b):a≤b:=by
 induction h with
 | nil=>exact Nat.le_refl _
 | cons _ _ _ ih=>omega
theorem Seg.trans {s:ByteArray}{a b c:Nat}(h:Seg s a b) (k:Seg s b c):Seg s a c:=by
 induction h with
 | nil=>exact k
 | cons h1 h2 _ ih=>exact .cons h1 h2 (ih k)
theorem Seg.first {s:ByteArray}{a b:Nat}(h:Seg s a b) (hlt:a<b):a<s.size∧goodAt s a=true∧Seg s (a+(Utf8.decode s a).2) b:=by
 cases h with
 | nil=>omega
 | cons h1 h2 t=>exact⟨h1,h2,t⟩
theorem Seq2 (b0 b1 b2 b3:Nat):Seq 2 b0 b1 b2 b3↔(194≤b0∧b0≤223∧128≤b1∧b1≤191):=by simp[Seq]
theorem Seq3 (b0 b1 b2 b3:Nat):Seq 3 b0 b1 b2 b3↔(128≤b2∧b2≤191∧((b0=224∧160≤b1∧b1≤191)∨(b0=237∧128≤b1∧b1≤159)∨(225≤b0∧b0≤239∧b0≠237∧128≤b1∧b1≤191))):=by simp[Seq]
theorem Seq4 (b0 b1 b2 b3:Nat):Seq 4 b0 b1 b2 b3↔(128≤b2∧b2≤191∧128≤b3∧b3≤191∧((b0=240∧144≤b1∧b1≤191)∨(b0=244∧128≤b1∧b1≤143)∨(241≤b0∧b0≤243∧128≤b1∧b1≤191))):=by simp[Seq]
theorem dec_ascii {s:ByteArray}{i:Nat}(h:B s i<128):Utf8.decode s i=(B s i,1):=by
 rw[dec_eq];unfold Lib.decodeN;rw[if_pos h]
theorem good_ascii {s:ByteArray}{i:Nat}(h:B s i<128):goodAt s i=true:=good_iff.2 (Or.inr h)
end Go.Proofs.YtioehfhdoohdmaaGreatDoor
namespace Go.Proofs.YtioehfhdoohdmaaGreatDoor
open Go
def seqGo (s:ByteArray) (p:Nat):Nat→Nat→Nat→Nat→Nat→Nat×Nat×Bool
 | 0,k,_,_,r=>(r,p+k,true)
 | f+1,k,lo,hi,r=>if p+k<s.size∧lo≤B s (p+k)∧B s (p+k)≤hi then seqGo s p f (k+1) 128 191 (r*64+B s (p+k) % 64) else (0,p+k,false)
def maskN (n c:Nat):Nat:=if n=1 then c % 32 else if n=2 then c % 16 else if n=3 then c % 8 else c
def seqT (s:ByteArray) (p:Nat):Nat×Nat×Bool:=
 if s.size≤p then (0,p,false) else
 match needN (B s p) with
 | none=>(0,p,false)
 | some (n,lo,hi)=>seqGo s p n 1 lo hi (maskN n (B s p))
theorem seqGo_wrong (s:ByteArray) (p:Nat):∀f k lo hi r,(seqGo s p f k lo hi r).2.2=false→seqGo s p f k lo hi r=(0,wrongGo s p f k lo hi,false):=by
 intro f
 induction f with
 | zero=>intro k lo hi r h;cases h
 | succ f ih=>
  intro k lo hi r h
  rw[seqGo] at h ⊢
  rw[wrongGo]
  split
  ·rename_i c
   rw[if_pos c] at h
   exact ih _ _ _ _ h
  ·rfl
theorem lead2 {b0 b1 b2 b3:Nat}(h:Seq 2 b0 b1 b2 b3):194≤b0∧b0≤223∧128≤b1∧b1≤191:=by
 rcases h with ⟨h,_⟩ | ⟨_,h⟩ | ⟨h,_⟩ | ⟨h,_⟩
 ·cases h
 ·exact h
 ·cases h
 ·cases h
theorem lead3 {b0 b1 b2 b3:Nat}(h:Seq 3 b0 b1 b2 b3):128≤b2∧b2≤191∧((b0=224∧160≤b1∧b1≤191)∨(b0=237∧128≤b1∧b1≤159)∨(225≤b0∧b0≤239∧b0≠237∧128≤b1∧b1≤191)):=by
 rcases h with ⟨h,_⟩ | ⟨h,_⟩ | ⟨_,h⟩ | ⟨h,_⟩
 ·cases h
 ·cases h
 ·exact h
 ·cases h
theorem lead4 {b0 b1 b2 b3:Nat}(h:Seq 4 b0 b1 b2 b3):128≤b2∧b2≤191∧128≤b3∧b3≤191∧((b0=240∧144≤b1∧b1≤191)∨(b0=244∧128≤b1∧b1≤143)∨(241≤b0∧b0≤243∧128≤b1∧b1≤191)):=by
 rcases h with ⟨h,_⟩ | ⟨h,_⟩ | ⟨h,_⟩ | ⟨_,h⟩
 ·cases h
 ·cases h
 ·cases h
 ·exact h
theorem m3 (a b c:Nat):(a*64+b)*64+c=a*4096+b*64+c:=by omega
theorem m4 (a b c d:Nat):((a*64+b)*64+c)*64+d=a*262144+b*4096+c*64+d:=by omega
theorem l3 {b0 b1 b2 b3:Nat}(h:Seq 3 b0 b1 b2 b3):224≤b0∧b0≤239:=by
 rcases (lead3 h).2.2 with h | h | h <;> omega
theorem l4 {b0 b1 b2 b3:Nat}(h:Seq 4 b0 b1 b2 b3):240≤b0∧b0≤244:=by
 rcases (lead4 h).2.2.2.2 with h | h | h <;> omega
def Key (s:ByteArray) (p:Nat):Prop:=(goodAt s p=true→seqT s p=((Utf8.decode s p).1,p+(Utf8.decode s p).2,true))∧(goodAt s p=false→(seqT s p).2.2=false)
theorem good_or {s:ByteArray}{p:Nat}:goodAt s p=true↔¬ (Utf8.decode s p).2=1∨B s p<128:=by simp[goodAt]
theorem key_good {s:ByteArray}{p r w:Nat}(h:seqT s p=(r,p+w,true)) (hd:Utf8.decode s p=(r,w)) (hw:¬ w=1∨B s p<128):Key s p:=
 ⟨fun _=>by rw[h,hd],fun hb=>by rw[show goodAt s p=true from good_or.2 (by rw[hd];exact hw)] at hb;cases hb⟩
theorem key_bad {s:ByteArray}{p:Nat}(h:(seqT s p).2.2=false) (hd:(Utf8.decode s p).2=1) (hb:128≤B s p):Key s p:=
 ⟨fun hg=>by have:=good_or.1 hg;omega,fun _=>h⟩
theorem seqT_none {s:ByteArray}{p:Nat}(hp:p<s.size) (h:needN (B s p)=none):seqT s p=(0,p,false):=by
 unfold seqT;rw[if_neg (by omega),h]
theorem seqT_some {s:ByteArray}{p n lo hi:Nat}(hp:p<s.size) (h:needN (B s p)=some (n,lo,hi)):seqT s p=seqGo s p n 1 lo hi (maskN n (B s p)):=by
 unfold seqT;rw[if_neg (by omega),h]
def Hc (s:ByteArray) (p:Nat):Prop:=(B s p<128∧Utf8.decode s p=(B s p,1)) ∨
 (2≤s.size - p∧Seq 2 (B s p) (B s (p+1)) (B s (p+2)) (B s (p+3))∧Utf8.decode s p=(B s p % 32*64+B s (p+1) % 64,2)) ∨
 (3≤s.size - p∧Seq 3 (B s p) (B s (p+1)) (B s (p+2)) (B s (p+3))∧Utf8.decode s p=(B s p % 16*4096+B s (p+1) % 64*64+B s (p+2) % 64,3)) ∨
 (4≤s.size - p∧Seq 4 (B s p) (B s (p+1)) (B s (p+2)) (B s (p+3))∧Utf8.decode s p=(B s p % 8*262144+B s (p+1) % 64*4096+B s (p+2) % 64*64+B s (p+3) % 64,4)) ∨
 (128≤B s p∧¬ (2≤s.size - p∧Seq 2 (B s p) (B s (p+1)) (B s (p+2)) (B s (p+3)))∧¬ (3≤s.size - p∧Seq 3 (B s p) (B s (p+1)) (B s (p+2)) (B s (p+3)))∧¬ (4≤s.size - p∧Seq 4 (B s p) (B s (p+1)) (B s (p+2)) (B s (p+3)))∧Utf8.decode s p=(65533,1))
theorem hc_of (s:ByteArray) (p:Nat):Hc s p:=by
 have hc:=decodeN_cases (s.size - p) (B s p) (B s (p+1)) (B s (p+2)) (B s (p+3)) (B_lt s p) (B_lt s (p+1)) (B_lt s (p+2)) (B_lt s (p+3))
 rw[←dec_eq] at hc
 exact hc
theorem key0 {s:ByteArray}{p:Nat}(hp:p<s.size) (h:B s p<128):Key s p:=by
 refine key_good (r:=B s p) (w:=1) ?_ (dec_ascii h) (Or.inr h)
 rw[seqT_some (n:=0) (lo:=0) (hi:=0) hp (by unfold needN;rw[if_pos h])]
 rfl
theorem key_none {s:ByteArray}{p:Nat}(hp:p<s.size) (h:128≤B s p) (hn:¬ (194≤B s p∧B s p≤244)):Key s p:=by
 have e:needN (B s p)=none:=by unfold needN;repeat (first | rw[if_neg (by omega)])
 refine key_bad (by rw[seqT_none hp e]) ?_ h
 rcases hc_of s p with ⟨a,b⟩ | ⟨a,b,c⟩ | ⟨a,b,c⟩ | ⟨a,b,c⟩ | ⟨a,b,c,d,e⟩
 ·omega
 ·have q:=lead2 b;omega
 ·have q:=l3 b;omega
 ·have q:=l4 b;omega
 ·rw[e]
theorem key1 {s:ByteArray}{p:Nat}(hp:p<s.size) (h:194≤B s p∧B s p≤223):Key s p:=by
 have e:needN (B s p)=some (1,128,191):=by unfold needN;rw[if_neg (by omega),if_pos (by omega)]
 have es:=seqT_some hp e
 rw[seqGo] at es
 by_cases c1:p+1<s.size∧128≤B s (p+1)∧B s (p+1)≤191
 ·rw[if_pos c1] at es
  refine key_good (r:=B s p % 32*64+B s (p+1) % 64) (w:=2) es ?_ (Or.inl (by omega))
  rcases hc_of s p with ⟨a,b⟩ | ⟨a,b,c⟩ | ⟨a,b,c⟩ | ⟨a,b,c⟩ | ⟨a,b,c,d,e⟩
  ·omega
  ·exact c
  ·have q:=l3 b;omega
  ·have q:=l4 b;omega
  ·exact absurd ⟨by omega,Or.inr (Or.inl ⟨rfl,h.1,h.2,c1.2.1,c1.2.2⟩)⟩ b
 ·rw[if_neg c1] at es
  refine key_bad (by rw[es]) ?_ (by omega)
  rcases hc_of s p with ⟨a,b⟩ | ⟨a,b,c⟩ | ⟨a,b,c⟩ | ⟨a,b,c⟩ | ⟨a,b,c,d,e⟩
  ·omega
  ·have q:=lead2 b;omega
  ·have q:=l3 b;omega
  ·have q:=l4 b;omega
  ·rw[e]
theorem key2 {s:ByteArray}{p lo hi:Nat}(hp:p<s.size) (h:224≤B s p∧B s p≤239) (e:needN (B s p)=some (2,lo,hi))
 (hl:∀c,(lo≤c∧c≤hi)↔((B s p=224∧160≤c∧c≤191)∨(B s p=237∧128≤c∧c≤159)∨(225≤B s p∧B s p≤239∧B s p≠237∧128≤c∧c≤191))):Key s p:=by
 have es:=seqT_some hp e
 rw[seqGo,seqGo] at es
 by_cases c1:p+1<s.size∧lo≤B s (p+1)∧B s (p+1)≤hi
 ·rw[if_pos c1] at es
  have hl1:=(hl _).1 c1.2
  by_cases c2:p+(1+1)<s.size∧128≤B s (p+(1+1))∧B s (p+(1+1))≤191
  ·rw[if_pos c2] at es
   refine key_good (r:=B s p % 16*4096+B s (p+1) % 64*64+B s (p+2) % 64) (w:=3) ?_ ?_ (Or.inl (by omega))
   ·rw[es]
    show ((B s p % 16*64+B s (p+1) % 64)*64+B s (p+2) % 64,p+3,true)=_
    rw[m3]
   ·rcases hc_of s p with ⟨a,b⟩ | ⟨a,b,c⟩ | ⟨a,b,c⟩ | ⟨a,b,c⟩ | ⟨a,b,c,d,e⟩
    ·omega
    ·have q:=lead2 b;clear hl hl1;omega
    ·exact c
    ·exact absurd (Nat.le_trans (l4 b).1 h.2) (by decide)
    ·exact absurd ⟨by clear hl hl1;omega,(Seq3 _ _ _ _).2 ⟨c2.2.1,c2.2.2,hl1⟩⟩ c
  ·rw[if_neg c2] at es
   refine key_bad (by rw[es]) ?_ (by omega)
   rcases hc_of s p with ⟨a,b⟩ | ⟨a,b,c⟩ | ⟨a,b,c⟩ | ⟨a,b,c⟩ | ⟨a,b,c,d,e⟩
   ·omega
   ·have q:=lead2 b;clear hl;omega
   ·exact absurd ⟨by omega,(lead3 b).1,(lead3 b).2.1⟩ c2
   ·have q:=l4 b;clear hl;omega
   ·rw[e]
 ·rw[if_neg c1] at es
  refine key_bad (by rw[es]) ?_ (by omega)
  rcases hc_of s p with ⟨a,b⟩ | ⟨a,b,c⟩ | ⟨a,b,c⟩ | ⟨a,b,c⟩ | ⟨a,b,c,d,e⟩
  ·omega
  ·have q:=lead2 b;clear hl;omega
  ·have:lo≤B s (p+1)∧B s (p+1)≤hi:=(hl _).2 (lead3 b).2.2
   exact absurd ⟨by omega,this⟩ c1
  ·have q:=l4 b;clear hl;omega
  ·rw[e]
theorem key3 {s:ByteArray}{p lo hi:Nat}(hp:p<s.size) (h:240≤B s p∧B s p≤244) (e:needN (B s p)=some (3,lo,hi))
 (hl:∀c,(lo≤c∧c≤hi)↔((B s p=240∧144≤c∧c≤191)∨(B s p=244∧128≤c∧c≤143)∨(241≤B s p∧B s p≤243∧128≤c∧c≤191))):Key s p:=by
 have es:=seqT_some hp e
 rw[seqGo,seqGo,seqGo] at es
 by_cases c1:p+1<s.size∧lo≤B s (p+1)∧B s (p+1)≤hi
 ·rw[if_pos c1] at es
  have hl1:=(hl _).1 c1.2
  by_cases c2:p+(1+1)<s.size∧128≤B s (p+(1+1))∧B s (p+(1+1))≤191
  ·rw[if_pos c2] at es
   by_cases c3:p+(1+1+1)<s.size∧128≤B s (p+(1+1+1))∧B s (p+(1+1+1))≤191
   ·rw[if_pos c3] at es
    refine key_good (r:=B s p % 8*262144+B s (p+1) % 64*4096+B s (p+2) % 64*64+B s (p+3) % 64) (w:=4) ?_ ?_ (Or.inl (by omega))
    ·rw[es]
     show (((B s p % 8*64+B s (p+1) % 64)*64+B s (p+2) % 64)*64+B s (p+3) % 64,p+4,true)=_
     rw[m4]
    ·rcases hc_of s p with ⟨a,b⟩ | ⟨a,b,c⟩ | ⟨a,b,c⟩ | ⟨a,b,c⟩ | ⟨a,b,c,d,e⟩
     ·omega
     ·have q:=lead2 b;clear hl hl1;omega
     ·exact absurd (Nat.le_trans h.1 (l3 b).2) (by decide)
     ·exact c
     ·exact absurd ⟨by omega,(Seq4 _ _ _ _).2 ⟨c2.2.1,c2.2.2,c3.2.1,c3.2.2,hl1⟩⟩ d
   ·rw[if_neg c3] at es
    refine key_bad (by rw[es]) ?_ (by omega)
    rcases hc_of s p with ⟨a,b⟩ | ⟨a,b,c⟩ | ⟨a,b,c⟩ | ⟨a,b,c⟩ | ⟨a,b,c,d,e⟩
    ·omega
    ·have q:=lead2 b;clear hl;omega
    ·have q:=l3 b;clear hl;omega
    ·exact absurd ⟨by omega,(lead4 b).2.2.1,(lead4 b).2.2.2.1⟩ c3
    ·rw[e]
  ·rw[if_neg c2] at es
   refine key_bad (by rw[es]) ?_ (by omega)
   rcases hc_of s p with ⟨a,b⟩ | ⟨a,b,c⟩ | ⟨a,b,c⟩ | ⟨a,b,c⟩ | ⟨a,b,c,d,e⟩
   ·omega
   ·have q:=lead2 b;clear hl;omega
   ·have q:=l3 b;clear hl;omega
   ·exact absurd ⟨by omega,(lead4 b).1,(lead4 b).2.1⟩ c2
   ·rw[e]
 ·rw[if_neg c1] at es
  refine key_bad (by rw[es]) ?_ (by omega)
  rcases hc_of s p with ⟨a,b⟩ | ⟨a,b,c⟩ | ⟨a,b,c⟩ | ⟨a,b,c⟩ | ⟨a,b,c,d,e⟩
  ·omega
  ·have q:=lead2 b;clear hl;omega
  ·have q:=l3 b;clear hl;omega
  ·have:lo≤B s (p+1)∧B s (p+1)≤hi:=(hl _).2 (lead4 b).2.2.2.2
   exact absurd ⟨by omega,this⟩ c1
  ·rw[e]
theorem key_all {s:ByteArray}{p:Nat}(hp:p<s.size):Key s p:=by
 by_cases h0:B s p<128
 ·exact key0 hp h0
 by_cases h1:194≤B s p∧B s p≤223
 ·exact key1 hp h1
 by_cases hn:194≤B s p∧B s p≤244
 ·by_cases h3:B s p≤239
  ·by_cases a:B s p=224
   ·exact key2 hp (by omega) (by unfold needN;repeat (first | rw[if_pos (by omega)] | rw[if_neg (by omega)])) (fun c=>by omega)
   by_cases b:B s p=237
   ·exact key2 hp (by omega) (by unfold needN;repeat (first | rw[if_pos (by omega)] | rw[if_neg (by omega)])) (fun c=>by omega)
   ·exact key2 hp (by omega) (by unfold needN;repeat (first | rw[if_pos (by omega)] | rw[if_neg (by omega)])) (fun c=>by omega)
  ·by_cases a:B s p=240
   ·exact key3 hp (by omega) (by unfold needN;repeat (first | rw[if_pos (by omega)] | rw[if_neg (by omega)])) (fun c=>by omega)
   by_cases b:B s p=244
   ·exact key3 hp (by omega) (by unfold needN;repeat (first | rw[if_pos (by omega)] | rw[if_neg (by omega)])) (fun c=>by omega)
   ·exact key3 hp (by omega) (by unfold needN;repeat (first | rw[if_pos (by omega)] | rw[if_neg (by omega)])) (fun c=>by omega)
 ·exact key_none hp (by omega) hn
theorem seqT_eq {s:ByteArray}{p:Nat}(hp:p<s.size):seqT s p=if goodAt s p then ((Utf8.decode s p).1,p+(Utf8.decode s p).2,true) else (0,wrongAt s p,false):=by
 have key:=key_all hp
 by_cases h:goodAt s p=true
 ·rw[if_pos h,key.1 h]
 ·have h':goodAt s p=false:=by simpa using h
  have hk:=key.2 h'
  rw[if_neg h]
  unfold wrongAt
  cases e:needN (B s p) with
  | none=>rw[seqT_none hp e]
  | some x=>
   obtain⟨n,lo,hi⟩:=x
   rw[seqT_some hp e] at hk ⊢
   exact seqGo_wrong s p n 1 lo hi _ hk
end Go.Proofs.YtioehfhdoohdmaaGreatDoor
