/- Lex: LexSpec, LexFacts, LexBroken, LexWhere, LexSeg. -/
import Derived.Test.YtioehfhdoohdmaaGreatDoorLexA
import Derived.Lib.DecodeN
import Derived.Shelf.Unicode.DecodeSlow
set_option linter.unusedVariables false
set_option linter.unusedSimpArgs false
namespace Go.Proofs.YtioehfhdoohdmaaGreatDoor
open Go
theorem Seq_lead {n b0 b1 b2 b3:Nat}(h:Seq n b0 b1 b2 b3):(n=1∧b0<128)∨(n=2∧194≤b0∧b0≤223)∨(n=3∧224≤b0∧b0≤239)∨(n=4∧240≤b0∧b0≤244):=by
 rcases h with ⟨h,h1⟩ | ⟨h,h1⟩ | ⟨h,h1⟩ | ⟨h,h1⟩
 ·exact Or.inl ⟨h,h1⟩
 ·exact Or.inr (Or.inl ⟨h,by omega,by omega⟩)
 ·exact Or.inr (Or.inr (Or.inl ⟨h,by omega,by omega⟩))
 ·exact Or.inr (Or.inr (Or.inr ⟨h,by omega,by omega⟩))
def hexB (c:Nat):Bool:=digitB c || (decide (65≤c) && decide (c≤70))
def grownB (c:Nat):Bool:=smallB c || digitB c || (decide (65≤c) && decide (c≤90)) || c == 45 || c == 95
def nameB (c:Nat):Bool:=smallB c || digitB c || c == 45
def hexV (c:Nat):Nat:=if c≤57 then c - 48 else c - 55
def blankB (c:Nat):Bool:=c == 32 || c == 9 || c == 10 || c == 13
def scalarB (r:Nat):Bool:=decide (r≤1114111) && (decide (r<55296) || decide (57343<r))
def whereGo (s:ByteArray) (t:Nat):Nat→Nat→Nat→Nat→Nat×Nat
 | 0,_,l,c=>(l,c)
 | f+1,i,l,c=>
  if i<t then
   (if t<i+(Utf8.decode s i).2 then (l,c)
    else if (Utf8.decode s i).1=10 then whereGo s t f (i+(Utf8.decode s i).2) (l+1) 1
    else whereGo s t f (i+(Utf8.decode s i).2) l (c+1))
  else (l,c)
def whereN (s:ByteArray) (t:Nat):Nat×Nat:=whereGo s t t 0 1 1
def nameGo (s:ByteArray) (p:Nat):Nat→Nat→Nat×Bool
 | 0,i=>(i,true)
 | f+1,i=>if nameB (B s i) then (if i - p=32 then (i,false) else nameGo s p f (i+1)) else (i,true)
def nameN (s:ByteArray) (p:Nat):Nat×Bool:=nameGo s p (s.size - p) p
def numberGo (s:ByteArray) (p:Nat):Nat→Nat→Nat→Nat×Nat×Bool
 | 0,i,n=>(n,i,true)
 | f+1,i,n=>
  if digitB (B s i) then
   (if (p<i∧n=0)∨65535<n*10+(B s i - 48) then (0,i,false) else numberGo s p f (i+1) (n*10+(B s i - 48)))
  else (n,i,true)
def numberN (s:ByteArray) (p:Nat):Nat×Nat×Bool:=numberGo s p (s.size - p) p 0
def tooLong (s:ByteArray) (p i:Nat):Bool:=
 decide (i - p - 2=6) || (decide (4≤i - p - 2) && B s (p+2) == 48) || (decide (i - p - 2=5) && !(B s (p+2) == 49 && B s (p+3) == 48))
def pointEnd (p i r:Nat):Nat×Nat×Bool:=(r,i,decide (6≤i - p) && scalarB r)
def pointGo (s:ByteArray) (p:Nat):Nat→Nat→Nat→Nat×Nat×Bool
 | 0,i,r=>pointEnd p i r
 | f+1,i,r=>
  if hexB (B s i) then (if tooLong s p i then (0,i,false) else pointGo s p f (i+1) (r*16+hexV (B s i)))
  else pointEnd p i r
def pointN (s:ByteArray) (p:Nat):Nat×Nat×Bool:=
 if B s (p+1)=43 then pointGo s p (s.size - (p+2)) (p+2) 0 else (0,p+1,false)
def quotedN (s:ByteArray) (p:Nat):Nat×Nat×Bool:=
 if s.size≤p+1 then (0,p+1,false)
 else if goodAt s (p+1)=false then (0,wrongAt s (p+1),false)
 else if (Utf8.decode s (p+1)).1<32∨(Utf8.decode s (p+1)).1=39∨(Utf8.decode s (p+1)).1=127 then (0,p+1,false)
 else if B s (p+1+(Utf8.decode s (p+1)).2)=39 then ((Utf8.decode s (p+1)).1,p+1+(Utf8.decode s (p+1)).2+1,true)
 else (0,p+1+(Utf8.decode s (p+1)).2,false)
def remarkGo (s:ByteArray):Nat→Nat→Nat×Bool
 | 0,i=>(i,true)
 | f+1,i=>
  if i<s.size∧¬ B s i=10 then (if goodAt s i then remarkGo s f (i+(Utf8.decode s i).2) else (wrongAt s i,false))
  else (i,true)
def remarkN (s:ByteArray) (i:Nat):Nat×Bool:=remarkGo s (s.size - i) i
structure Wd where
 kind:Nat
 fr:Nat
 en:Nat
 txt:ByteArray
 r:Nat
 n:Nat
def signN (c:Nat):Nat:=if c=123 then 4 else if c=125 then 5 else if c=59 then 6 else if c=61 then 7 else if c=43 then 8 else 0
def apartN (s:ByteArray) (w:Wd) (i:Nat):Wd×Nat×Bool:=(w,i,!grownB (B s i))
def wordN (s:ByteArray) (p:Nat):Wd×Nat×Bool:=
 if smallB (B s p) then
  (if (nameN s p).2 then apartN s ⟨1,p,(nameN s p).1,s.extract p (nameN s p).1,0,0⟩ (nameN s p).1 else (⟨0,0,0,ByteArray.empty,0,0⟩,(nameN s p).1,false))
 else if digitB (B s p) then
  (if (numberN s p).2.2 then apartN s ⟨2,p,(numberN s p).2.1,ByteArray.empty,0,(numberN s p).1⟩ (numberN s p).2.1 else (⟨0,0,0,ByteArray.empty,0,0⟩,(numberN s p).2.1,false))
 else if B s p=85 then
  (if (pointN s p).2.2 then apartN s ⟨3,p,(pointN s p).2.1,ByteArray.empty,(pointN s p).1,0⟩ (pointN s p).2.1 else (⟨0,0,0,ByteArray.empty,0,0⟩,(pointN s p).2.1,false))
 else if B s p=39 then (⟨3,p,(quotedN s p).2.1,ByteArray.empty,(quotedN s p).1,0⟩,(quotedN s p).2.1,(quotedN s p).2.2)
 else if B s p=46 then (⟨9,p,p+2,ByteArray.empty,0,0⟩,if B s (p+1)=46 then p+2 else p+1,B s (p+1) == 46)
 else if signN (B s p)=0 then (⟨0,0,0,ByteArray.empty,0,0⟩,p,false)
 else (⟨signN (B s p),p,p+1,ByteArray.empty,0,0⟩,p+1,true)
def lexGo (s:ByteArray):Nat→Nat→List Wd→List Wd×Option Nat
 | 0,_,l=>(l,none)
 | f+1,p,l=>
  if p<s.size then
   (if blankB (B s p) then lexGo s f (p+1) l
    else if B s p=35 then (if (remarkN s p).2 then lexGo s f (remarkN s p).1 l else (l,some (remarkN s p).1))
    else if (wordN s p).2.2 then lexGo s f (wordN s p).2.1 (l++[(wordN s p).1]) else (l,some (wordN s p).2.1))
  else (l,none)
def lexN (s:ByteArray):List Wd×Option Nat:=lexGo s s.size 0 []
end Go.Proofs.YtioehfhdoohdmaaGreatDoor
namespace Go.Proofs.YtioehfhdoohdmaaGreatDoor
open Go
theorem smallB_iff (c:Nat):smallB c=true↔97≤c∧c≤122:=by simp[smallB]
theorem digitB_iff (c:Nat):digitB c=true↔48≤c∧c≤57:=by simp[digitB]
theorem hexB_iff (c:Nat):hexB c=true↔(48≤c∧c≤57)∨(65≤c∧c≤70):=by simp[hexB,digitB]
theorem nameB_iff (c:Nat):nameB c=true↔(97≤c∧c≤122)∨(48≤c∧c≤57)∨c=45:=by simp[nameB,smallB,digitB,or_assoc]
theorem grownB_iff (c:Nat):grownB c=true↔(97≤c∧c≤122)∨(48≤c∧c≤57)∨(65≤c∧c≤90)∨c=45∨c=95:=by simp[grownB,smallB,digitB,or_assoc]
theorem blankB_iff (c:Nat):blankB c=true↔c=32∨c=9∨c=10∨c=13:=by simp[blankB,or_assoc]
theorem scalarB_iff (c:Nat):scalarB c=true↔c≤1114111∧(c<55296∨57343<c):=by simp[scalarB]
theorem not_of {b:Bool}{p:Prop}(h:b=true↔p) (hp:¬ p):¬ b=true:=fun e=>hp (h.1 e)
theorem false_of {b:Bool}{p:Prop}(h:b=true↔p) (hp:¬ p):b=false:=Bool.eq_false_iff.2 (not_of h hp)
theorem decodeGo_tail {s:ByteArray}{p:Nat}(hp:p<s.size):Lib.decodeGo (s.extract p s.size)=Utf8.decode s p:=by
 rw[Lib.decodeGo,if_neg (by simp;omega),dec_tail (by omega)]
end Go.Proofs.YtioehfhdoohdmaaGreatDoor
namespace Go.Proofs.YtioehfhdoohdmaaGreatDoor
open Go
end Go.Proofs.YtioehfhdoohdmaaGreatDoor
namespace Go.Proofs.YtioehfhdoohdmaaGreatDoor
open Go
theorem decodeN_congr {n m b0 b1 b2 b3 c1 c2 c3:Nat}(hb0:b0<256) (hb1:b1<256) (hb2:b2<256) (hb3:b3<256) (hc1:c1<256) (hc2:c2<256) (hc3:c3<256)
 (hg:(Lib.decodeN n b0 b1 b2 b3).2≠1∨b0<128) (hm:(Lib.decodeN n b0 b1 b2 b3).2≤m)
 (h1:2≤(Lib.decodeN n b0 b1 b2 b3).2→c1=b1) (h2:3≤(Lib.decodeN n b0 b1 b2 b3).2→c2=b2) (h3:4≤(Lib.decodeN n b0 b1 b2 b3).2→c3=b3) :
 Lib.decodeN m b0 c1 c2 c3=Lib.decodeN n b0 b1 b2 b3:=by
 have c:=decodeN_cases n b0 b1 b2 b3 hb0 hb1 hb2 hb3
 have d:=decodeN_cases m b0 c1 c2 c3 hb0 hc1 hc2 hc3
 rcases c with ⟨a,b⟩ | ⟨_,a,b⟩ | ⟨_,a,b⟩ | ⟨_,a,b⟩ | ⟨a,a2,a3,a4,b⟩
 ·rw[b]
  rcases d with ⟨x,y⟩ | ⟨_,x,y⟩ | ⟨_,x,y⟩ | ⟨_,x,y⟩ | ⟨x,x2,x3,x4,y⟩
  ·exact y
  ·have hx:=Seq_lead x;exfalso;clear y b h1 h2 h3 hm hg x;omega
  ·have hx:=Seq_lead x;exfalso;clear y b h1 h2 h3 hm hg x;omega
  ·have hx:=Seq_lead x;exfalso;clear y b h1 h2 h3 hm hg x;omega
  ·omega
 ·rw[b] at hm h1 h2 h3 ⊢
  dsimp only at *
  have e1:=h1 (by omega)
  subst e1
  have hl:=Seq_lead a
  rcases d with ⟨x,y⟩ | ⟨_,x,y⟩ | ⟨_,x,y⟩ | ⟨_,x,y⟩ | ⟨x,x2,x3,x4,y⟩
  ·omega
  ·exact y
  ·have hx:=Seq_lead x;exfalso;clear y b h1 h2 h3 hm hg a x;omega
  ·have hx:=Seq_lead x;exfalso;clear y b h1 h2 h3 hm hg a x;omega
  ·exact absurd ⟨hm,(Seq2 _ _ _ _).2 ((Seq2 _ _ _ _).1 a)⟩ x2
 ·rw[b] at hm h1 h2 h3 ⊢
  dsimp only at *
  have e1:=h1 (by omega)
  have e2:=h2 (by omega)
  subst e1 e2
  have hl:=Seq_lead a
  rcases d with ⟨x,y⟩ | ⟨_,x,y⟩ | ⟨_,x,y⟩ | ⟨_,x,y⟩ | ⟨x,x2,x3,x4,y⟩
  ·omega
  ·have hx:=Seq_lead x;exfalso;clear y b h1 h2 h3 hm hg a x;omega
  ·exact y
  ·have hx:=Seq_lead x;exfalso;clear y b h1 h2 h3 hm hg a x;omega
  ·exact absurd ⟨hm,(Seq3 _ _ _ _).2 ((Seq3 _ _ _ _).1 a)⟩ x3
 ·rw[b] at hm h1 h2 h3 ⊢
  dsimp only at *
  have e1:=h1 (by omega)
  have e2:=h2 (by omega)
  have e3:=h3 (by omega)
  subst e1 e2 e3
  have hl:=Seq_lead a
  rcases d with ⟨x,y⟩ | ⟨_,x,y⟩ | ⟨_,x,y⟩ | ⟨_,x,y⟩ | ⟨x,x2,x3,x4,y⟩
  ·omega
  ·have hx:=Seq_lead x;exfalso;clear y b h1 h2 h3 hm hg a x;omega
  ·have hx:=Seq_lead x;exfalso;clear y b h1 h2 h3 hm hg a x;omega
  ·exact y
  ·exact absurd ⟨hm,(Seq4 _ _ _ _).2 ((Seq4 _ _ _ _).1 a)⟩ x4
 ·rw[b] at hg;simp at hg;omega
theorem dec_extract {s:ByteArray}{a b i:Nat}(hb:b≤s.size) (hai:a≤i) (hg:goodAt s i=true) (hfit:i+(Utf8.decode s i).2≤b):Utf8.decode (s.extract a b) (i - a)=Utf8.decode s i:=by
 have hg:=good_iff.1 hg
 have hw:=dec_width s i
 have e:∀k,k<(Utf8.decode s i).2→B (s.extract a b) (i - a+k)=B s (i+k):=fun k hk=>by
  rw[B_extract s a b _ (by omega) hb];congr 1;omega
 have e0:=e 0 (by omega)
 rw[Nat.add_zero,Nat.add_zero] at e0
 rw[dec_eq s i] at hg hfit hw e ⊢
 rw[dec_eq (s.extract a b),e0]
 have hz:(s.extract a b).size=b - a:=by simp;omega
 rw[hz]
 exact decodeN_congr (B_lt _ _) (B_lt _ _) (B_lt _ _) (B_lt _ _) (B_lt _ _) (B_lt _ _) (B_lt _ _) hg (by omega) (fun h=>e 1 (by omega)) (fun h=>e 2 (by omega)) (fun h=>e 3 (by omega))
def lcN (s:ByteArray) (t i l c:Nat):Nat×Nat:=whereGo s t (t - i) i l c
theorem where_fuel (s:ByteArray) (t:Nat):∀d i l c f,t - i=d→d≤f→whereGo s t f i l c=whereGo s t d i l c:=by
 intro d
 induction d using Nat.strongRecOn with
 | _ d ih=>
  intro i l c f hd hf
  cases d with
  | zero=>
   cases f with
   | zero=>rfl
   | succ f=>
    show whereGo s t (f+1) i l c=(l,c)
    rw[whereGo,if_neg (by omega)]
  | succ d=>
   obtain⟨f,rfl⟩:∃g,f=g+1:=⟨f - 1,by omega⟩
   have hw:=dec_width s i
   rw[whereGo,whereGo]
   by_cases h:t<i+(Utf8.decode s i).2
   ·rw[if_pos h,if_pos h]
   ·rw[if_neg h,if_neg h]
    have e:∀l c,whereGo s t f (i+(Utf8.decode s i).2) l c=whereGo s t d (i+(Utf8.decode s i).2) l c:=fun l c=>by
     rw[ih (t - (i+(Utf8.decode s i).2)) (by omega) _ l c f rfl (by omega),ih (t - (i+(Utf8.decode s i).2)) (by omega) _ l c d rfl (by omega)]
    rw[e,e]
theorem lcN_end (s:ByteArray) (t i l c:Nat) (h:t≤i):lcN s t i l c=(l,c):=by
 rw[lcN,show t - i=0 by omega];rfl
theorem lcN_mid {s:ByteArray}{t i:Nat}(l c:Nat) (h:i<t) (h2:t<i+(Utf8.decode s i).2):lcN s t i l c=(l,c):=by
 rw[lcN,show t - i=(t - i - 1)+1 by omega,whereGo,if_pos h,if_pos h2]
theorem lcN_step {s:ByteArray}{t i:Nat}(l c:Nat) (h:i<t) (h2:i+(Utf8.decode s i).2≤t) :
 lcN s t i l c=if (Utf8.decode s i).1=10 then lcN s t (i+(Utf8.decode s i).2) (l+1) 1 else lcN s t (i+(Utf8.decode s i).2) l (c+1):=by
 have hw:=dec_width s i
 rw[lcN,show t - i=(t - i - 1)+1 by omega,whereGo,if_pos h,if_neg (by omega)]
 rw[where_fuel s t (t - (i+(Utf8.decode s i).2)) _ _ _ (t - i - 1) rfl (by omega),where_fuel s t (t - (i+(Utf8.decode s i).2)) _ _ _ (t - i - 1) rfl (by omega)]
 rfl
theorem lcN_le (s:ByteArray) (t:Nat):∀d i l c,t - i=d→i≤t→l≤i+1→c≤i+1→(lcN s t i l c).1≤t+1∧(lcN s t i l c).2≤t+1:=by
 intro d
 induction d using Nat.strongRecOn with
 | _ d ih=>
  intro i l c hd hi hl hc
  by_cases h:i<t
  ·have hw:=dec_width s i
   by_cases h2:i+(Utf8.decode s i).2≤t
   ·rw[lcN_step l c h h2]
    split
    ·exact ih _ (by omega) _ _ _ rfl h2 (by omega) (by omega)
    ·exact ih _ (by omega) _ _ _ rfl h2 (by omega) (by omega)
   ·rw[lcN_mid l c h (by omega)];exact⟨by simp only[];omega,by simp only[];omega⟩
  ·rw[lcN_end s t i l c (by omega)];exact⟨by simp only[];omega,by simp only[];omega⟩
theorem lcN_seg {s:ByteArray}{a b:Nat}(h:Seg s a b):∀(t l c:Nat),b≤t→lcN s t a l c=lcN s t b (lcN s b a l c).1 (lcN s b a l c).2:=by
 induction h with
 | nil a=>intro t l c _;rw[lcN_end s a a l c (Nat.le_refl _)]
 | @cons a b h hg r ih=>
  intro t l c hbt
  have hw:=dec_width s a
  have:=r.le
  rw[lcN_step l c (by omega) (by omega),lcN_step (t:=b) l c (by omega) (by omega)]
  split
  ·exact ih t _ _ hbt
  ·exact ih t _ _ hbt
end Go.Proofs.YtioehfhdoohdmaaGreatDoor
namespace Go.Proofs.YtioehfhdoohdmaaGreatDoor
open Go
theorem seg_one {s:ByteArray}{a b:Nat}(ha:a<s.size) (h:B s a<128) (t:Seg s (a+1) b):Seg s a b:=
 .cons ha (good_ascii h) (by rw[dec_ascii h];exact t)
theorem ascii_seg {s:ByteArray}:∀(d a b:Nat),b - a=d→a≤b→b≤s.size→(∀i,a≤i→i<b→B s i<128)→Seg s a b:=by
 intro d
 induction d with
 | zero=>
  intro a b h1 h2 h3 h4
  obtain rfl:a=b:=by omega
  exact .nil a
 | succ d ih=>intro a b h1 h2 h3 h4;exact seg_one (by omega) (h4 a (Nat.le_refl _) (by omega)) (ih (a+1) b (by omega) (by omega) h3 (fun i hi hb=>h4 i (by omega) hb))
theorem nameGo_spec (s:ByteArray) (p:Nat):∀f i,i+f=s.size→i≤(nameGo s p f i).1∧(nameGo s p f i).1≤s.size∧∀j,i≤j→j<(nameGo s p f i).1→nameB (B s j)=true:=by
 intro f
 induction f with
 | zero=>intro i h;exact⟨Nat.le_refl _,by simp only[nameGo];omega,fun j h1 h2=>by simp only[nameGo] at h2;omega⟩
 | succ f ih=>
  intro i h
  rw[nameGo]
  by_cases hb:nameB (B s i)=true
  ·rw[if_pos hb]
   by_cases h32:i - p=32
   ·rw[if_pos h32];exact⟨Nat.le_refl _,by simp only[];omega,fun j h1 h2=>by simp only[] at h2;omega⟩
   ·rw[if_neg h32]
    obtain⟨a,b,c⟩:=ih (i+1) (by omega)
    refine⟨by omega,b,fun j h1 h2=>?_⟩
    by_cases e:j=i
    ·rw[e];exact hb
    ·exact c j (by omega) h2
  ·rw[if_neg hb];exact⟨Nat.le_refl _,by simp only[];omega,fun j h1 h2=>by simp only[] at h2;omega⟩
theorem nameN_spec {s:ByteArray}{p:Nat}(hp:p<s.size) (h:smallB (B s p)=true):p<(nameN s p).1∧(nameN s p).1≤s.size∧∀j,p≤j→j<(nameN s p).1→nameB (B s j)=true:=by
 obtain⟨a,b,c⟩:=nameGo_spec s p (s.size - p) p (by omega)
 refine⟨?_,b,c⟩
 unfold nameN
 have hs:=(smallB_iff _).1 h
 rw[show s.size - p=(s.size - p - 1)+1 by omega,nameGo,if_pos ((nameB_iff _).2 (by omega)),if_neg (by omega)]
 exact (nameGo_spec s p (s.size - p - 1) (p+1) (by omega)).1
theorem numberGo_spec (s:ByteArray) (p:Nat):∀f i n,i+f=s.size→i≤(numberGo s p f i n).2.1∧(numberGo s p f i n).2.1≤s.size∧∀j,i≤j→j<(numberGo s p f i n).2.1→digitB (B s j)=true:=by
 intro f
 induction f with
 | zero=>intro i n h;exact⟨Nat.le_refl _,by simp only[numberGo];omega,fun j h1 h2=>by simp only[numberGo] at h2;omega⟩
 | succ f ih=>
  intro i n h
  rw[numberGo]
  by_cases hb:digitB (B s i)=true
  ·rw[if_pos hb]
   by_cases h32:(p<i∧n=0)∨65535<n*10+(B s i - 48)
   ·rw[if_pos h32];exact⟨Nat.le_refl _,by simp only[];omega,fun j h1 h2=>by simp only[] at h2;omega⟩
   ·rw[if_neg h32]
    obtain⟨a,b,c⟩:=ih (i+1) (n*10+(B s i - 48)) (by omega)
    refine⟨by omega,b,fun j h1 h2=>?_⟩
    by_cases e:j=i
    ·rw[e];exact hb
    ·exact c j (by omega) h2
  ·rw[if_neg hb];exact⟨Nat.le_refl _,by simp only[];omega,fun j h1 h2=>by simp only[] at h2;omega⟩
theorem numberN_spec {s:ByteArray}{p:Nat}(hp:p<s.size) (h:digitB (B s p)=true):p<(numberN s p).2.1∧(numberN s p).2.1≤s.size∧∀j,p≤j→j<(numberN s p).2.1→digitB (B s j)=true:=by
 obtain⟨a,b,c⟩:=numberGo_spec s p (s.size - p) p 0 (by omega)
 refine⟨?_,b,c⟩
 unfold numberN
 have hs:=(digitB_iff _).1 h
 rw[show s.size - p=(s.size - p - 1)+1 by omega,numberGo,if_pos h,if_neg (by omega)]
 exact (numberGo_spec s p (s.size - p - 1) (p+1) _ (by omega)).1
theorem pointGo_spec (s:ByteArray) (p:Nat):∀f i r,i+f=s.size→i≤(pointGo s p f i r).2.1∧(pointGo s p f i r).2.1≤s.size∧∀j,i≤j→j<(pointGo s p f i r).2.1→hexB (B s j)=true:=by
 intro f
 induction f with
 | zero=>intro i n h;exact⟨Nat.le_refl _,by simp only[pointGo,pointEnd];omega,fun j h1 h2=>by simp only[pointGo,pointEnd] at h2;omega⟩
 | succ f ih=>
  intro i n h
  rw[pointGo]
  by_cases hb:hexB (B s i)=true
  ·rw[if_pos hb]
   by_cases h32:tooLong s p i=true
   ·rw[if_pos h32];exact⟨Nat.le_refl _,by simp only[];omega,fun j h1 h2=>by simp only[] at h2;omega⟩
   ·rw[if_neg h32]
    obtain⟨a,b,c⟩:=ih (i+1) (n*16+hexV (B s i)) (by omega)
    refine⟨by omega,b,fun j h1 h2=>?_⟩
    by_cases e:j=i
    ·rw[e];exact hb
    ·exact c j (by omega) h2
  ·rw[if_neg hb];exact⟨Nat.le_refl _,by simp only[pointEnd];omega,fun j h1 h2=>by simp only[pointEnd] at h2;omega⟩
theorem pointN_spec {s:ByteArray}{p:Nat}(hp:p<s.size) (h:B s p=85):p<(pointN s p).2.1∧(pointN s p).2.1≤s.size∧∀j,p≤j→j<(pointN s p).2.1→B s j<128:=by
 unfold pointN
 by_cases h43:B s (p+1)=43
 ·have hlt:p+1<s.size:=by
   by_cases c:p+1<s.size
   ·exact c
   ·rw[B_out (by omega)] at h43;omega
  rw[if_pos h43]
  obtain⟨a,b,c⟩:=pointGo_spec s p (s.size - (p+2)) (p+2) 0 (by omega)
  refine⟨by omega,b,fun j h1 h2=>?_⟩
  by_cases e:j=p
  ·rw[e,h];omega
  ·by_cases e2:j=p+1
   ·rw[e2,h43];omega
   ·have:=(hexB_iff _).1 (c j (by omega) h2);omega
 ·rw[if_neg h43]
  refine⟨by simp only[];omega,by simp only[];omega,fun j h1 h2=>?_⟩
  simp only[] at h2
  obtain rfl:j=p:=by omega
  rw[h];omega
theorem quotedN_spec {s:ByteArray}{p:Nat}(hp:p<s.size) (h:B s p=39) (hok:(quotedN s p).2.2=true):p<(quotedN s p).2.1∧(quotedN s p).2.1≤s.size∧Seg s p (quotedN s p).2.1:=by
 unfold quotedN at *
 by_cases c1:s.size≤p+1
 ·rw[if_pos c1] at hok;cases hok
 ·rw[if_neg c1] at hok ⊢
  by_cases c2:goodAt s (p+1)=false
  ·rw[if_pos c2] at hok;cases hok
  ·rw[if_neg c2] at hok ⊢
   by_cases c3:(Utf8.decode s (p+1)).1<32∨(Utf8.decode s (p+1)).1=39∨(Utf8.decode s (p+1)).1=127
   ·rw[if_pos c3] at hok;cases hok
   ·rw[if_neg c3] at hok ⊢
    by_cases c4:B s (p+1+(Utf8.decode s (p+1)).2)=39
    ·rw[if_pos c4] at hok ⊢
     have hw:=dec_width s (p+1)
     have hlt:p+1+(Utf8.decode s (p+1)).2<s.size:=by
      by_cases c:p+1+(Utf8.decode s (p+1)).2<s.size
      ·exact c
      ·rw[B_out (by omega)] at c4;omega
     refine⟨by simp only[];omega,by simp only[];omega,?_⟩
     refine seg_one hp (by omega) (.cons (by omega) (by simpa using c2) (seg_one hlt (by omega) (.nil _)))
    ·rw[if_neg c4] at hok;cases hok
theorem remarkGo_spec (s:ByteArray):∀f i,s.size≤i+f→i≤s.size→(remarkGo s f i).2=true→i≤(remarkGo s f i).1∧(remarkGo s f i).1≤s.size∧Seg s i (remarkGo s f i).1:=by
 intro f
 induction f with
 | zero=>intro i h h2 _;exact⟨Nat.le_refl _,h2,.nil i⟩
 | succ f ih=>
  intro i h h2 hok
  rw[remarkGo] at hok ⊢
  by_cases c:i<s.size∧¬ B s i=10
  ·rw[if_pos c] at hok ⊢
   by_cases g:goodAt s i=true
   ·rw[if_pos g] at hok ⊢
    have hw:=dec_width s i
    obtain⟨a,b,d⟩:=ih (i+(Utf8.decode s i).2) (by omega) (dec_fits c.1) hok
    exact⟨by omega,b,.cons c.1 g d⟩
   ·rw[if_neg g] at hok;cases hok
  ·rw[if_neg c];exact⟨Nat.le_refl _,h2,.nil i⟩
theorem remarkN_spec {s:ByteArray}{p:Nat}(hp:p<s.size) (h:B s p=35) (hok:(remarkN s p).2=true):p<(remarkN s p).1∧(remarkN s p).1≤s.size∧Seg s p (remarkN s p).1:=by
 obtain⟨a,b,c⟩:=remarkGo_spec s (s.size - p) p (by omega) (by omega) hok
 refine⟨?_,b,c⟩
 unfold remarkN at *
 rw[show s.size - p=(s.size - p - 1)+1 by omega,remarkGo,if_pos ⟨hp,by omega⟩] at hok ⊢
 have g:goodAt s p=true:=good_ascii (by omega)
 rw[if_pos g] at hok ⊢
 have hd:=dec_ascii (s:=s) (i:=p) (by omega)
 rw[hd] at hok ⊢
 have:=(remarkGo_spec s (s.size - p - 1) (p+1) (by omega) (by omega) hok).1
 exact this
end Go.Proofs.YtioehfhdoohdmaaGreatDoor
