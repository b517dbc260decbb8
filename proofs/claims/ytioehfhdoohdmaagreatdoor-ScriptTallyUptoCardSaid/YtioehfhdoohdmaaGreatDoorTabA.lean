/- TabA: Keep, Own, MapIs, MapEntry, Tab, T6a, T6b, T6c, DecFacts, OfLex, T6e, T6f, Box, ResCell, R6, WK. -/
import Derived.Below
import Derived.OneCell
import Derived.Lib.OthersKept
import Derived.Laws.NewBlocks
import Derived.RowKit3
import Derived.Lib.Hide
import Derived.OwnWalk
import Derived.Maps.Own
import Derived.Maps.Keyed
import Derived.WideKeyEntry
import Derived.WalkKit
import Derived.WalkSpells
import Derived.WalkLawsBesides
import Derived.BigQuiet
import Derived.Deep.QuietTactic
import Derived.Deep.RegionWith
import Derived.Deep.DeepCutAuto
import Derived.Deep.DeepMust
import Derived.Deep.RegionHeld3
import Derived.Outline
import Derived.Handy
import Derived.Lib.DecodeN
import Derived.Test.YtioehfhdoohdmaaGreatDoorShelf
import Derived.Test.YtioehfhdoohdmaaGreatDoorLexA
set_option linter.unusedVariables false
set_option linter.unusedSimpArgs false
namespace Go.Proofs.YtioehfhdoohdmaaGreatDoor
open Go Go.RowKit
structure Keep (S:Nat→Prop) (W W':World):Prop where
 os:W'.os=W.os
 tape:W'.tape=W.tape
 output:W'.output=W.output
 size:W.heap.size≤W'.heap.size
 block:∀k,k<W.heap.size→¬ S k→W'.heap[k]?=W.heap[k]?
theorem Keep.refl (S:Nat→Prop) (W:World):Keep S W W:=⟨rfl,rfl,rfl,Nat.le_refl _,fun _ _ _=>rfl⟩
theorem Keep.trans {S:Nat→Prop}{a b c:World}(h:Keep S a b) (k:Keep S b c):Keep S a c:=
 ⟨k.os.trans h.os,k.tape.trans h.tape,k.output.trans h.output,Nat.le_trans h.size k.size,fun i hi hs=>(k.block i (Nat.lt_of_lt_of_le hi h.size) hs).trans (h.block i hi hs)⟩
theorem Keep.trans' {S T:Nat→Prop}{a b c:World}(h:Keep S a b) (k:Keep T b c) (hst:∀i,i<a.heap.size→¬ S i→¬ T i):Keep S a c:=
 ⟨k.os.trans h.os,k.tape.trans h.tape,k.output.trans h.output,Nat.le_trans h.size k.size,fun i hi hs=>(k.block i (Nat.lt_of_lt_of_le hi h.size) (hst i hi hs)).trans (h.block i hi hs)⟩
theorem Keep.mono {S T:Nat→Prop}{a b:World}(h:Keep S a b) (hst:∀i,i<a.heap.size→S i→T i):Keep T a b:=
 ⟨h.os,h.tape,h.output,h.size,fun i hi hs=>h.block i hi fun k=>hs (hst i hi k)⟩
theorem Keep.alloc {S:Nat→Prop}{a b:World}(h:Keep S a b) (o:Obj):Keep S a (b.alloc o):=
 h.trans ⟨rfl,rfl,rfl,by simp,fun k hk _=>Below.heap_alloc _ _ _ hk⟩
theorem Keep.drew {S:Nat→Prop}{a b:World}(h:Keep S a b):Keep S a b.drew:=⟨h.os,h.tape,h.output,h.size,h.block⟩
theorem Keep.setCell {S:Nat→Prop}{a b:World}(h:Keep S a b) {p:Addr}(hp:p.block<a.heap.size→S p.block) (u:Value):Keep S a (b.setCell p u):=
 ⟨h.os,h.tape,h.output,by rw[show (b.setCell p u).heap.size=b.heap.size by simp[World.setCell]];exact h.size,fun i hi hs=>by
  rw[Below.heap_setCell _ _ _ _ (fun e=>hs (by rw[e];exact hp (by rw[←e];exact hi)))];exact h.block i hi hs⟩
theorem Keep.iterAt {S:Nat→Prop}{a b:World}(h:Keep S a b) {k:Nat}(hk:k<a.heap.size→S k) (s:ByteArray) (pos:Nat):Keep S a (b.iterAt k s pos):=
 ⟨h.os,h.tape,h.output,by rw[Lib.iterAt_size];exact h.size,fun i hi hs=>by
  rw[Lib.iterAt_other _ _ _ _ _ (fun e=>hs (by rw[e];exact hk (by rw[←e];exact hi)))];exact h.block i hi hs⟩
theorem Keep.of_below {W W':World}(h:Below W.heap.size W W') (S:Nat→Prop):Keep S W W':=⟨h.os,h.tape,h.output,h.size,fun k hk _=>h.block k hk⟩
theorem Keep.below {S:Nat→Prop}{W W':World}(h:Keep S W W') {B:Nat}(hB:∀k,k<B→k<W.heap.size∧¬ S k):Below B W W':=
 ⟨h.os,h.tape,h.output,h.size,fun k hk=>h.block k (hB k hk).1 (hB k hk).2⟩
theorem Keep.of_grown {W W':World}{row:Option Nat}(h:W.grownBy W' row) {S:Nat→Prop}(hr:∀k,row=some k→S k):Keep S W W':=
 ⟨h.os,h.tape,h.output,h.size,fun k hk hs=>h.block k hk (fun e=>hs (hr k e.symm))⟩
theorem Keep.cell {S:Nat→Prop}{W W':World}(h:Keep S W W') {p:Addr}(hp:p.block<W.heap.size) (hs:¬ S p.block):W'.cell? p=W.cell? p:=World.cell?_of_block (h.block _ hp hs)
theorem Keep.frozen {S:Nat→Prop}{W W':World}(h:Keep S W W') {p:Addr}(hp:p.block<W.heap.size) (hs:¬ S p.block):W'.frozen? p=W.frozen? p:=World.frozen?_of_block (h.block _ hp hs)
def Blk (W:World) (b:Nat) (vs:List Value) (T:TypeId):Prop:=W.heap[b]?=some (.cells vs.toArray T (0,0))
theorem Blk.lt {W:World}{b:Nat}{vs:List Value}{T:TypeId}(h:Blk W b vs T):b<W.heap.size:=lt_of_block h
theorem Blk.cell {W:World}{b:Nat}{vs:List Value}{T:TypeId}(h:Blk W b vs T) (i:Nat):W.cell? ⟨b,i,none⟩=vs[i]?:=by
 simp[World.cell?,show W.heap[b]?=_ from h]
theorem Blk.frozen {W:World}{b:Nat}{vs:List Value}{T:TypeId}(h:Blk W b vs T) (i:Nat):W.frozen? ⟨b,i,none⟩=false:=by
 simp[World.frozen?,show W.heap[b]?=_ from h]
theorem Blk.new (W:World) (vs:List Value) (T:TypeId):Blk (W.alloc (.cells vs.toArray T)) W.heap.size vs T:=by
 show (W.heap.push _)[W.heap.size]?=_
 simp
theorem Blk.new' (W:World) (A:Array Value) (T:TypeId):Blk (W.alloc (.cells A T)) W.heap.size A.toList T:=by
 show (W.heap.push _)[W.heap.size]?=_
 simp
theorem Blk.keep {S:Nat→Prop}{W W':World}{b:Nat}{vs:List Value}{T:TypeId}(h:Blk W b vs T) (k:Keep S W W') (hs:¬ S b):Blk W' b vs T:=(k.block b h.lt hs).trans h
theorem Blk.alloc {W:World}{b:Nat}{vs:List Value}{T:TypeId}(h:Blk W b vs T) (o:Obj):Blk (W.alloc o) b vs T:=(Below.heap_alloc _ _ _ h.lt).trans h
theorem Blk.drew {W:World}{b:Nat}{vs:List Value}{T:TypeId}(h:Blk W b vs T):Blk W.drew b vs T:=h
theorem Blk.other {W:World}{b:Nat}{vs:List Value}{T:TypeId}(h:Blk W b vs T) {p:Addr}(hp:b≠p.block) (u:Value):Blk (W.setCell p u) b vs T:=(Below.heap_setCell _ _ _ _ hp).trans h
theorem Blk.iterAt {W:World}{b:Nat}{vs:List Value}{T:TypeId}(h:Blk W b vs T) {k:Nat}(hk:b≠k) (s:ByteArray) (pos:Nat):Blk (W.iterAt k s pos) b vs T:=(Lib.iterAt_other _ _ _ _ _ hk).trans h
theorem Blk.set {W:World}{b:Nat}{vs:List Value}{T:TypeId}(h:Blk W b vs T) (i:Nat) (u:Value):Blk (W.setCell ⟨b,i,none⟩ u) b (vs.set i u) T:=by
 have hlt:=h.lt
 have h':W.heap[b]=.cells vs.toArray T (0,0):=by simpa [Array.getElem?_eq_getElem hlt] using (show W.heap[b]?=_ from h)
 show (W.heap.modify b _)[b]?=_
 rw[Array.getElem?_eq_getElem (by simpa using hlt),Array.getElem_modify_self,h']
 simp
theorem Blk.of_eq {W:World}{b:Nat}{vs vs':List Value}{T:TypeId}(h:Blk W b vs T) (e:vs=vs'):Blk W b vs' T:=e ▸ h
def Itr (W:World) (k:Nat) (s:ByteArray) (pos:Nat):Prop:=W.heap[k]?=some (.stringIter s pos)
theorem Itr.lt {W:World}{k:Nat}{s:ByteArray}{pos:Nat}(h:Itr W k s pos):k<W.heap.size:=lt_of_block h
theorem Itr.new (W:World) (s:ByteArray) (pos:Nat):Itr (W.iter s pos) W.heap.size s pos:=World.iter_heap W s pos
theorem Itr.keep {S:Nat→Prop}{W W':World}{k:Nat}{s:ByteArray}{pos:Nat}(h:Itr W k s pos) (kp:Keep S W W') (hs:¬ S k):Itr W' k s pos:=(kp.block k h.lt hs).trans h
theorem Itr.alloc {W:World}{k:Nat}{s:ByteArray}{pos:Nat}(h:Itr W k s pos) (o:Obj):Itr (W.alloc o) k s pos:=(Below.heap_alloc _ _ _ h.lt).trans h
theorem Itr.other {W:World}{k:Nat}{s:ByteArray}{pos:Nat}(h:Itr W k s pos) {p:Addr}(hp:k≠p.block) (u:Value):Itr (W.setCell p u) k s pos:=(Below.heap_setCell _ _ _ _ hp).trans h
theorem Itr.at {W:World}{k:Nat}{s:ByteArray}{pos:Nat}(h:Itr W k s pos) (pos':Nat):Itr (W.iterAt k s pos') k s pos':=Lib.iterAt_heap _ _ _ _ _ h
theorem Keep.iter {S:Nat→Prop}{a b:World}(h:Keep S a b) (s:ByteArray) (pos:Nat):Keep S a (b.iter s pos):=h.alloc _
theorem Blk.iter {W:World}{b:Nat}{vs:List Value}{T:TypeId}(h:Blk W b vs T) (s:ByteArray) (pos:Nat):Blk (W.iter s pos) b vs T:=h.alloc _
end Go.Proofs.YtioehfhdoohdmaaGreatDoor
namespace Go.Proofs.YtioehfhdoohdmaaGreatDoor
open Go Go.RowKit
theorem new_cells (W:World) (b:Nat) (hb:b=W.heap.size) (A:List Value) (T:TypeId):∀j u,A[j]?=some u→(W.alloc (.cells A.toArray T)).cell? ((⟨b,0,none⟩:Addr).add j)=some u:=by
 intro j u h
 have hadd:(⟨b,0,none⟩:Addr).add j=⟨b,j,none⟩:=by unfold Addr.add;split <;> simp_all
 rw[hadd,hb,(Blk.new W A T).cell j,h]
theorem own_later {W W':World}{base:Nat}{e:TypeId}{size:Nat}{v:Value}{n:Nat}{xs:List Value}(h:W.ownsRow base e size v n xs) (hB:Below W.heap.size W W'):W'.ownsRow base e size v n xs:=
 h.kept (row:=none) ⟨hB.os,hB.tape,hB.output,hB.size,fun k hk _=>hB.block k hk⟩ (by cases v.ownBlock <;> simp)
theorem own_nil (W:World) (base:Nat) (e:TypeId) (size:Nat):W.ownsRow base e size (.slice none 0 0) 0 []:=⟨by simp,Or.inl ⟨rfl,rfl⟩⟩
theorem own_base {W:World}{base base':Nat}{e:TypeId}{size:Nat}{v:Value}{n:Nat}{xs:List Value}(h:W.ownsRow base e size v n xs) (hb:base'≤base):W.ownsRow base' e size v n xs:=by
 refine⟨h.1,?_⟩
 rcases h.2 with h1 | ⟨g,cap,cur,hv,h1,h2⟩
 ·exact Or.inl h1
 ·exact Or.inr ⟨g,cap,cur,hv,Nat.le_trans hb h1,h2⟩
theorem own_form {W:World}{base:Nat}{e:TypeId}{size:Nat}{v:Value}{n:Nat}{xs:List Value}(h:W.ownsRow base e size v n xs):∃(o:Option Addr) (c:Nat),v=.slice o n c∧c≤maxLen∧n≤c ∧
 ∀j u,xs[j]?=some u→∃g,o=some ⟨g,0,none⟩∧base≤g∧g<W.heap.size∧W.cell? ⟨g,j,none⟩=some u:=by
 obtain⟨hl,h⟩:=h
 rcases h with ⟨rfl,rfl⟩ | ⟨g,cap,cur,rfl,hb,hg,h1,h2,h3,h4⟩
 ·exact⟨none,0,rfl,Nat.zero_le _,Nat.le_refl _,fun j u hj=>by
   have:xs=[]:=List.eq_nil_of_length_eq_zero (by omega)
   subst this;simp at hj⟩
 ·refine⟨some ⟨g,0,none⟩,cap,rfl,h2,h1,fun j u hj=>⟨g,rfl,hb,lt_of_block hg,?_⟩⟩
  have hj2:cur.toList[j]?=some u:=by
   rw[←h4] at hj
   have hlt:j<n*size:=by
    rcases Nat.lt_or_ge j (n*size) with q | q
    ·exact q
    ·rw[List.getElem?_eq_none (by rw[List.length_take];omega)] at hj;cases hj
   rwa [List.getElem?_take_of_lt hlt] at hj
  simp only[World.cell?,hg]
  simpa using hj2
end Go.Proofs.YtioehfhdoohdmaaGreatDoor
namespace Go.Proofs.YtioehfhdoohdmaaGreatDoor
open Go Go.RowKit Go.MapKept
open Go.Maps (Keyed)
def MapIs (P:Program) (k:TypeId) (W:World) (b:Nat) (l:List (Value×Value)):Prop:=
 ∃es clock,W.heap[b]?=some (.map es clock)∧Stamped es clock∧(∀e∈es.toList,∃lt,keyOf P k e.key=some lt)∧es.toList.map (fun e=>(e.key,e.val))=l
theorem MapIs.lt {P:Program}{k:TypeId}{W:World}{b:Nat}{l:List (Value×Value)}(h:MapIs P k W b l):b<W.heap.size:=by
 obtain⟨es,clock,hb,_⟩:=h;exact lt_of_block hb
theorem MapIs.keep {P:Program}{k:TypeId}{W W':World}{b:Nat}{l:List (Value×Value)}(h:MapIs P k W b l) (hB:Below W.heap.size W W'):MapIs P k W' b l:=by
 have hlt:=h.lt
 obtain⟨es,clock,hb,h⟩:=h
 exact⟨es,clock,(hB.block b hlt).trans hb,h⟩
theorem MapIs.of_block {P:Program}{k:TypeId}{W W':World}{b:Nat}{l:List (Value×Value)}(h:MapIs P k W b l) (e:W'.heap[b]?=W.heap[b]?):MapIs P k W' b l:=by
 obtain⟨es,clock,hb,h⟩:=h
 exact⟨es,clock,e.trans hb,h⟩
theorem MapIs.made (P:Program) (k:TypeId) (W:World):MapIs P k (W.alloc (.map #[] 0)) W.heap.size []:=
 ⟨#[],0,by show (W.heap.push _)[W.heap.size]?=_;simp,stamped_empty 0,by simp,by simp⟩
section
variable {P : Program} {W : World} {t k e : TypeId} {b : Nat} {l : List (Value × Value)}
theorem MapIs.look_no (h:MapIs P k W b l) (K:Keyed P k) (ht:P.underlying t=some (.map k e)) {z:Value}(hz:(zeroValue e).run P W=.ok z W) {x:Value}{lx:Lit}(hx:keyOf P k x=some lx) (hno:∀p∈l,p.1≠x) (c:Bool) :
 (Instr.lookup t (.map (some b)) x c).run P W=.ok (if c then .tuple #[z,.bool false] else z) W:=by
 obtain⟨es,clock,hb,hs,hk,rfl⟩:=h
 rcases K.find W hx es.toList hk with ⟨f1,f2⟩ | ⟨j,e0,f1,f2,f3⟩
 ·simp[Instr.lookup,run_underlying ht,MapKept.run_getObj_map hb,K.check W _ hx,f1,hz,Result.andThen]
 ·exact absurd f3 (hno (e0.key,e0.val) (List.mem_map.2 ⟨e0,List.mem_of_getElem? f2,rfl⟩))
theorem MapIs.look_yes (h:MapIs P k W b l) (K:Keyed P k) (ht:P.underlying t=some (.map k e)) {x v:Value}{lx:Lit}(hx:keyOf P k x=some lx) (hyes:(x,v)∈l) (c:Bool) :
 (Instr.lookup t (.map (some b)) x c).run P W=.ok (if c then .tuple #[v,.bool true] else v) W:=by
 obtain⟨es,clock,hb,hs,hk,rfl⟩:=h
 obtain⟨e1,he1,hev⟩:=List.mem_map.1 hyes
 simp only[Prod.mk.injEq] at hev
 obtain⟨hek,hev⟩:=hev
 rcases K.find W hx es.toList hk with ⟨f1,f2⟩ | ⟨j,e0,f1,f2,f3⟩
 ·exact absurd hek (f2 e1 he1)
 ·have he0:=List.mem_of_getElem? f2
  have heq:e0=e1:=by
   have hn:=hs.2.2
   rw[List.Nodup,List.pairwise_map] at hn
   by_cases q:e0=e1
   ·exact q
   ·obtain⟨i1,hi1,rfl⟩:=List.mem_iff_getElem.1 he1
    obtain⟨i0,hi0,rfl⟩:=List.mem_iff_getElem.1 he0
    exfalso
    rcases Nat.lt_trichotomy i0 i1 with z | z | z
    ·exact List.pairwise_iff_getElem.1 hn i0 i1 hi0 hi1 z (f3.trans hek.symm)
    ·subst z;exact q rfl
    ·exact List.pairwise_iff_getElem.1 hn i1 i0 hi1 hi0 z (hek.trans f3.symm)
  subst heq
  rw[hev] at f1
  simp[Instr.lookup,run_underlying ht,MapKept.run_getObj_map hb,K.check W _ hx,f1,Result.andThen]
def World.put (W:World) (b:Nat) (o:Obj):World:={ W with heap:=W.heap.setIfInBounds b o }
theorem put_block {o:Obj}{i:Nat}(h:i≠b):(World.put W b o).heap[i]?=W.heap[i]?:=by
 show (W.heap.setIfInBounds b o)[i]?=_
 rw[Array.getElem?_setIfInBounds_ne (Ne.symm h)]
theorem put_size {o:Obj}:(World.put W b o).heap.size=W.heap.size:=by simp[World.put]
theorem MapIs.store (h:MapIs P k W b l) (K:Keyed P k) (ht:P.underlying t=some (.map k e)) {x:Value}{lx:Lit}(hx:keyOf P k x=some lx) (hno:∀p∈l,p.1≠x) (v:Value) :
 ∃o,(Instr.mapUpdate t (.map (some b)) x v).run P W=.ok () (World.put W b o)∧MapIs P k (World.put W b o) b (l++[(x,v)]):=by
 obtain⟨es,clock,hb,hs,hk,rfl⟩:=h
 have hne:∀y∈es.toList,y.key≠x:=fun y hy=>hno (y.key,y.val) (List.mem_map.2 ⟨y,hy,rfl⟩)
 rcases K.find W hx es.toList hk with ⟨f1,f2⟩ | ⟨j,e0,f1,f2,f3⟩
 ·refine⟨.map (es.push { key:=x,val:=v,born:=clock }) (clock+1),?_,es.push { key:=x,val:=v,born:=clock },clock+1,?_,stamped_push hs hne,?_,by simp⟩
  ·simp[Instr.mapUpdate,run_underlying ht,MapKept.run_getObj_map hb,K.check W false hx,f1,MapKept.run_setObj_map _ hb,Result.andThen,World.put]
  ·show (W.heap.setIfInBounds b _)[b]?=_
   rw[Array.getElem?_setIfInBounds_self_of_lt (lt_of_block hb)]
  ·intro y hy
   simp only[Array.toList_push,List.mem_append,List.mem_singleton] at hy
   rcases hy with hy | rfl
   ·exact hk y hy
   ·exact⟨_,hx⟩
 ·exact absurd f3 (hne e0 (List.mem_of_getElem? f2))
end
end Go.Proofs.YtioehfhdoohdmaaGreatDoor
namespace Go.Proofs.YtioehfhdoohdmaaGreatDoor
open Go Go.RowKit Go.MapKept
open Go.Maps (Keyed)
theorem MapIs.entry {P:Program}{W:World}{t k e:TypeId}{b:Nat}{l:List (Value×Value)}(h:MapIs P k W b l) (K:Keyed P k) (ht:P.underlying t=some (.map k e)) {z:Value}(hz:∀u:World,(zeroValue e).run P u=.ok z u) {x:Value}{lx:Lit}(hx:keyOf P k x=some lx) (hno:∀p∈l,p.1≠x) (v:Value) :
 ∃(st:Nat) (o1 o2:Obj),(Instr.mapEntry t (.map (some b)) x).run P W=.ok (.tuple #[z,.int .i64 st]) (World.put W b o1) ∧
  ∀W2:World,W2.heap[b]?=some o1→(Instr.entryStore t (.map (some b)) (.int .i64 st) v).run P W2=.ok () (World.put W2 b o2)∧MapIs P k (World.put W2 b o2) b (l++[(x,v)]):=by
 obtain⟨es,clock,hb,hs,hk,rfl⟩:=h
 have hne:∀y∈es.toList,y.key≠x:=fun y hy=>hno (y.key,y.val) (List.mem_map.2 ⟨y,hy,rfl⟩)
 rcases K.find W hx es.toList hk with ⟨f1,f2⟩ | ⟨j,e0,f1,f2,f3⟩
 ·refine⟨clock,.map (es.push { key:=x,val:=z,born:=clock }) (clock+1),.map (es.push { key:=x,val:=v,born:=clock }) (clock+1),?_,fun W2 hW2=>?_⟩
  ·simp[Instr.mapEntry,run_underlying ht,MapKept.run_getObj_map hb,K.check W false hx,f1,hz,MapKept.run_setObj_map _ hb,Result.andThen,World.put,goInt]
  ·have hidx:(es.push ⟨x,z,clock⟩).findIdx? (fun e=>((e.born:Nat):Int) == ((clock:Nat):Int))=some es.size:=by
    rw[WideElems.findIdx_arr]
    have:=WideElems.findIdx_born (l:=(es.push ⟨x,z,clock⟩).toList) (j:=es.size) (e0:=⟨x,z,clock⟩) (by
     simp only[Array.toList_push,List.map_append,List.map_cons,List.map_nil]
     refine List.nodup_append.2 ⟨hs.2.1,by simp,fun a ha c hc e1=>?_⟩
     simp only[List.mem_singleton] at hc
     obtain⟨y,hy,rfl⟩:=List.mem_map.1 ha
     have:=hs.1 y hy
     omega) (by simp)
    exact this
   have hmod:(es.push ⟨x,z,clock⟩).modify es.size (fun e=>{ e with val:=v })=es.push ⟨x,v,clock⟩:=by
    apply Array.ext'
    rw[Array.toList_modify,Array.toList_push,Array.toList_push,←Array.length_toList,WideElems.modify_last]
   refine⟨?_,es.push { key:=x,val:=v,born:=clock },clock+1,?_,stamped_push hs hne,?_,by simp⟩
   ·simp[Instr.entryStore,MapKept.run_getObj_map hW2,asInt,asIntOf,hidx,hmod,MapKept.run_setObj_map _ hW2,Result.andThen,World.put]
   ·show (W2.heap.setIfInBounds b _)[b]?=_
    rw[Array.getElem?_setIfInBounds_self_of_lt (lt_of_block hW2)]
   ·intro y hy
    simp only[Array.toList_push,List.mem_append,List.mem_singleton] at hy
    rcases hy with hy | rfl
    ·exact hk y hy
    ·exact⟨_,hx⟩
 ·exact absurd f3 (hne e0 (List.mem_of_getElem? f2))
end Go.Proofs.YtioehfhdoohdmaaGreatDoor
namespace Go.Proofs.YtioehfhdoohdmaaGreatDoor
open Go.RowKit Go.Shelf
abbrev Span:=Int×Int
structure Tab where
 scripts:List (ByteArray×List Span)
 common:List Span
 marks:List (Int×Int)
 pairs:List (Int×Int×Int)
 folds:List (Int×ByteArray)
 looks:List (Int×ByteArray)
 drops:List Span
 allowed:List Span
def SpansAt (W:World) (o:Option Addr) (l:List Span):Prop:=∀i (h:i<l.length),∃g off,o=some ⟨g,off,none⟩∧g<W.heap.size∧W.cell? ⟨g,off+i*2,none⟩=some (.int .i32 l[i].1)∧W.cell? ⟨g,off+i*2+1,none⟩=some (.int .i32 l[i].2)
def MarksAt (W:World) (o:Option Addr) (l:List (Int×Int)):Prop:=∀i (h:i<l.length),∃g off,o=some ⟨g,off,none⟩∧g<W.heap.size∧W.cell? ⟨g,off+i*2,none⟩=some (.int .i32 l[i].1)∧W.cell? ⟨g,off+i*2+1,none⟩=some (.int .i64 l[i].2)
def PairsAt (W:World) (o:Option Addr) (l:List (Int×Int×Int)):Prop:=∀i (h:i<l.length),∃g off,o=some ⟨g,off,none⟩∧g<W.heap.size∧W.cell? ⟨g,off+i*3,none⟩=some (.int .i32 l[i].1)∧W.cell? ⟨g,off+i*3+1,none⟩=some (.int .i32 l[i].2.1)∧W.cell? ⟨g,off+i*3+2,none⟩=some (.int .i32 l[i].2.2)
def MapsAt (W:World) (o:Option Addr) (l:List (Int×ByteArray)):Prop:=∀i (h:i<l.length),∃g off,o=some ⟨g,off,none⟩∧g<W.heap.size∧W.cell? ⟨g,off+i*2,none⟩=some (.int .i32 l[i].1)∧W.cell? ⟨g,off+i*2+1,none⟩=some (.string l[i].2)∧l[i].2.size≤maxLen
def ScriptsAt (W:World) (o:Option Addr) (l:List (ByteArray×List Span)):Prop:=∀i (h:i<l.length),∃g off so sc,o=some ⟨g,off,none⟩∧g<W.heap.size∧W.cell? ⟨g,off+i*2,none⟩=some (.string l[i].1)∧W.cell? ⟨g,off+i*2+1,none⟩=some (.slice so l[i].2.length sc)∧SpansAt W so l[i].2∧l[i].1.size≤maxLen∧l[i].2.length≤maxLen
theorem SpansAt.below {W W':World}{o:Option Addr}{l:List Span}(h:SpansAt W o l) (hB:Below W.heap.size W W'):SpansAt W' o l:=fun i hi=>by
 obtain⟨g,off,e,hg,c0,c1⟩:=h i hi
 exact⟨g,off,e,Nat.lt_of_lt_of_le hg hB.size,(hB.cell (p:=⟨g,off+i*2,none⟩) hg).trans c0,(hB.cell (p:=⟨g,off+i*2+1,none⟩) hg).trans c1⟩
theorem MarksAt.below {W W':World}{o:Option Addr}{l:List (Int×Int)}(h:MarksAt W o l) (hB:Below W.heap.size W W'):MarksAt W' o l:=fun i hi=>by
 obtain⟨g,off,e,hg,c0,c1⟩:=h i hi
 exact⟨g,off,e,Nat.lt_of_lt_of_le hg hB.size,(hB.cell (p:=⟨g,off+i*2,none⟩) hg).trans c0,(hB.cell (p:=⟨g,off+i*2+1,none⟩) hg).trans c1⟩
theorem PairsAt.below {W W':World}{o:Option Addr}{l:List (Int×Int×Int)}(h:PairsAt W o l) (hB:Below W.heap.size W W'):PairsAt W' o l:=fun i hi=>by
 obtain⟨g,off,e,hg,c0,c1,c2⟩:=h i hi
 exact⟨g,off,e,Nat.lt_of_lt_of_le hg hB.size,(hB.cell (p:=⟨g,off+i*3,none⟩) hg).trans c0,(hB.cell (p:=⟨g,off+i*3+1,none⟩) hg).trans c1,(hB.cell (p:=⟨g,off+i*3+2,none⟩) hg).trans c2⟩
theorem MapsAt.below {W W':World}{o:Option Addr}{l:List (Int×ByteArray)}(h:MapsAt W o l) (hB:Below W.heap.size W W'):MapsAt W' o l:=fun i hi=>by
 obtain⟨g,off,e,hg,c0,c1,z⟩:=h i hi
 exact⟨g,off,e,Nat.lt_of_lt_of_le hg hB.size,(hB.cell (p:=⟨g,off+i*2,none⟩) hg).trans c0,(hB.cell (p:=⟨g,off+i*2+1,none⟩) hg).trans c1,z⟩
theorem ScriptsAt.below {W W':World}{o:Option Addr}{l:List (ByteArray×List Span)}(h:ScriptsAt W o l) (hB:Below W.heap.size W W'):ScriptsAt W' o l:=fun i hi=>by
 obtain⟨g,off,so,sc,e,hg,c0,c1,hs,z1,z2⟩:=h i hi
 exact⟨g,off,so,sc,e,Nat.lt_of_lt_of_le hg hB.size,(hB.cell (p:=⟨g,off+i*2,none⟩) hg).trans c0,(hB.cell (p:=⟨g,off+i*2+1,none⟩) hg).trans c1,hs.below hB,z1,z2⟩
structure TAddr where
 o0:Option Addr
 o1:Option Addr
 o2:Option Addr
 o3:Option Addr
 o4:Option Addr
 o5:Option Addr
 o6:Option Addr
 o7:Option Addr
 c0:Nat
 c1:Nat
 c2:Nat
 c3:Nat
 c4:Nat
 c5:Nat
 c6:Nat
 c7:Nat
def tabCells (T:Tab) (a:TAddr):Array Value:=#[.slice a.o0 T.scripts.length a.c0,.slice a.o1 T.common.length a.c1,.slice a.o2 T.marks.length a.c2,.slice a.o3 T.pairs.length a.c3,.slice a.o4 T.folds.length a.c4,.slice a.o5 T.looks.length a.c5,.slice a.o6 T.drops.length a.c6,.slice a.o7 T.allowed.length a.c7]
structure TabAt (W:World) (T:Tab) (a:TAddr):Prop where
 scripts:ScriptsAt W a.o0 T.scripts
 common:SpansAt W a.o1 T.common
 marks:MarksAt W a.o2 T.marks
 pairs:PairsAt W a.o3 T.pairs
 folds:MapsAt W a.o4 T.folds
 looks:MapsAt W a.o5 T.looks
 drops:SpansAt W a.o6 T.drops
 allowed:SpansAt W a.o7 T.allowed
 m0:T.scripts.length≤maxLen
 m1:T.common.length≤maxLen
 m2:T.marks.length≤maxLen
 m3:T.pairs.length≤maxLen
 m4:T.folds.length≤maxLen
 m5:T.looks.length≤maxLen
 m6:T.drops.length≤maxLen
 m7:T.allowed.length≤maxLen
theorem TabAt.below {W W':World}{T:Tab}{a:TAddr}(h:TabAt W T a) (hB:Below W.heap.size W W'):TabAt W' T a:=
 ⟨h.scripts.below hB,h.common.below hB,h.marks.below hB,h.pairs.below hB,h.folds.below hB,h.looks.below hB,h.drops.below hB,h.allowed.below hB,h.m0,h.m1,h.m2,h.m3,h.m4,h.m5,h.m6,h.m7⟩
def runeB (r:Int):Bool:=decide (0≤r) && decide (r≤1114111) && (decide (r<55296) || decide (57343<r))
theorem runeB_iff (r:Int):runeB r=true↔(0≤r∧r≤1114111∧(r<55296∨57343<r)):=by simp[runeB,and_assoc]
def firstGo {α:Type}(p:α→Bool):List α→Nat→Int
 | [],_=>-1
 | x::l,i=>if p x then (i:Int) else firstGo p l (i+1)
def firstN {α:Type}(p:α→Bool) (l:List α):Int:=firstGo p l 0
theorem firstGo_some {α:Type}(p:α→Bool):∀(l:List α) (i j:Nat) (h:j<l.length),(∀k (hk:k<l.length),k<j→p l[k]=false)→p l[j]=true→firstGo p l i=((i+j:Nat):Int):=by
 intro l
 induction l with
 | nil=>intro i j h;simp at h
 | cons x t ih=>
  intro i j h hno hyes
  cases j with
  | zero=>rw[firstGo,if_pos (by exact hyes)];rfl
  | succ j=>
   have h0:=hno 0 (by simp) (by omega)
   rw[firstGo,if_neg (by rw[show p x=false from h0];decide),ih (i+1) j (by simpa using h) (fun k hk hkj=>hno (k+1) (by simpa using hk) (by omega)) hyes]
   congr 1;omega
theorem firstGo_none {α:Type}(p:α→Bool):∀(l:List α) (i:Nat),(∀k (hk:k<l.length),p l[k]=false)→firstGo p l i=-1:=by
 intro l
 induction l with
 | nil=>intro i _;rfl
 | cons x t ih=>
  intro i hno
  have h0:=hno 0 (by simp)
  rw[firstGo,if_neg (by rw[show p x=false from h0];decide),ih (i+1) (fun k hk=>hno (k+1) (by simpa using hk))]
theorem firstN_some {α:Type}{p:α→Bool}{l:List α}{j:Nat}(h:j<l.length) (hno:∀k (hk:k<l.length),k<j→p l[k]=false) (hyes:p l[j]=true):firstN p l=(j:Int):=by
 unfold firstN;rw[firstGo_some p l 0 j h hno hyes,Nat.zero_add]
theorem firstN_none {α:Type}{p:α→Bool}{l:List α}(hno:∀k (hk:k<l.length),p l[k]=false):firstN p l=-1:=firstGo_none p l 0 hno
theorem any_some {α:Type}{p:α→Bool}{l:List α}{j:Nat}(h:j<l.length) (hyes:p l[j]=true):l.any p=true:=List.any_eq_true.2 ⟨_,List.getElem_mem h,hyes⟩
theorem any_none {α:Type}{p:α→Bool}{l:List α}(hno:∀k (hk:k<l.length),p l[k]=false):l.any p=false:=by
 rw[List.any_eq_false]
 intro x hx
 obtain⟨i,hi,rfl⟩:=List.mem_iff_getElem.1 hx
 simp[hno i hi]
def spanB (r:Int) (s:Span):Bool:=runeB r && decide (s.1≤r) && decide (r≤s.2)
def ofB (r:Int) (l:List Span):Bool:=l.any (spanB r)
def mkey (r:Int) (m:Int×Int):Bool:=m.1 == r
def pkey (r:Int) (p:Int×Int×Int):Bool:=p.1 == r
def fkey (r:Int) (m:Int×ByteArray):Bool:=m.1 == r
def markB (T:Tab) (r:Int):Bool:=T.marks.any (mkey r)
def wholeN (T:Tab) (r:Int):Int:=firstN (pkey r) T.pairs
def fromN (l:List (Int×ByteArray)) (r:Int):Int:=firstN (fkey r) l
def classN (T:Tab) (r:Int):Int:=((T.marks.find? (mkey r)).map (·.2)).getD 0
theorem find_some {α:Type}{p:α→Bool}:∀ {l:List α}{j:Nat}(h:j<l.length),(∀k (hk:k<l.length),k<j→p l[k]=false)→p l[j]=true→l.find? p=some l[j]:=by
 intro l
 induction l with
 | nil=>intro j h;simp at h
 | cons x t ih=>
  intro j h hno hyes
  cases j with
  | zero=>rw[List.find?_cons_of_pos (by exact hyes)];rfl
  | succ j=>
   have h0:p x=false:=hno 0 (by simp) (by omega)
   rw[List.find?_cons_of_neg (by rw[h0];decide)]
   exact ih (by simpa using h) (fun k hk hkj=>hno (k+1) (by simpa using hk) (by omega)) hyes
theorem find_none {α:Type}{p:α→Bool}{l:List α}(hno:∀k (hk:k<l.length),p l[k]=false):l.find? p=none:=by
 rw[List.find?_eq_none]
 intro x hx
 obtain⟨i,hi,rfl⟩:=List.mem_iff_getElem.1 hx
 simp[hno i hi]
def plainB (T:Tab) (r:Int):Bool:=runeB r && !markB T r && decide (wholeN T r<0) && !ofB r T.drops && decide (fromN T.folds r<0)
end Go.Proofs.YtioehfhdoohdmaaGreatDoor
namespace Go.Proofs.YtioehfhdoohdmaaGreatDoor
open Go.RowKit Go.Shelf
theorem rune_any (r:Int) (W:World):Calls Tryz.prog 124 #[.int .i32 r] W fun e w'=>e=.returned (.bool (runeB r))∧W=w':=by
 by_cases h0:0≤r
 ·by_cases h1:r≤1114111
  ·by_cases h2:r<55296
   ·have E:runeB r=true:=(runeB_iff r).2 ⟨h0,h1,Or.inl h2⟩
    have d2:decide (r<55296)=true:=by simpa using h2
    go_enter Tryz.func124,Tryz.ntmps124
    go_wp2
    go_ret
    exact⟨by first | rfl | (rw[E];rfl),rfl⟩
   ·have d2:decide (r<55296)=false:=by simpa using h2
    by_cases h3:57343<r
    ·have E:runeB r=true:=(runeB_iff r).2 ⟨h0,h1,Or.inr h3⟩
     have d3:decide (57343<r)=true:=by simpa using h3
     go_enter Tryz.func124,Tryz.ntmps124
     go_wp2
     go_ret
     exact⟨by first | rfl | (rw[E];rfl),rfl⟩
    ·have E:runeB r=false:=by rw[←Bool.not_eq_true,runeB_iff];omega
     have d3:decide (57343<r)=false:=by simpa using h3
     go_enter Tryz.func124,Tryz.ntmps124
     go_wp2
     go_ret
     exact⟨by first | rfl | (rw[E];rfl),rfl⟩
  ·have E:runeB r=false:=by rw[←Bool.not_eq_true,runeB_iff];omega
   have d1:decide (r≤1114111)=false:=by simpa using h1
   go_enter Tryz.func124,Tryz.ntmps124
   go_wp2
   go_ret
   exact⟨by first | rfl | (rw[E];rfl),rfl⟩
 ·have E:runeB r=false:=by rw[←Bool.not_eq_true,runeB_iff];omega
  have d0:decide (0≤r)=false:=by simpa using h0
  go_enter Tryz.func124,Tryz.ntmps124
  go_wp2
  go_ret
  exact⟨by first | rfl | (rw[E];rfl),rfl⟩
set_option maxRecDepth 100000 in
set_option maxHeartbeats 2000000 in
theorem of_any (r:Int) (o:Option Addr) (c:Nat) (l:List Span) (W:World) (h:SpansAt W o l) (hm:l.length≤maxLen):Calls Tryz.prog 93 #[.int .i32 r,.slice o l.length c] W fun e w'=>e=.returned (.bool (ofB r l))∧W=w':=by
 have hmx:l.length≤9223372036854775807:=hm
 have H:=Lib.hid h
 have HR:=Lib.hid (rune_any r)
 clear h hm
 go_enter Tryz.func93,Tryz.ntmps93
 go_wp2_with fail
 go_loopw [5] (fun v5 wr=>∃i:Nat,v5=.int .i64 i∧i≤l.length∧Hid (∀k (hk:k<l.length),k<i→spanB r l[k]=false)∧wr=W) (fun v5 _=>l.length - (intOf v5).toNat)
 case atStart=>exact⟨0,rfl,Nat.zero_le _,Lib.hid (fun k _ h=>absurd h (by omega)),rfl⟩
 case round=>
  obtain⟨i,rfl,hi,Hno,rfl⟩:=hrel
  have i0:(0:Int)≤(i:Int):=Int.natCast_nonneg _
  by_cases hlt:i<l.length
  ·have i1:(i:Int)<(l.length:Int):=by omega
   obtain⟨g,off,rfl,hg,c0,c1⟩:=H.out i hlt
   have HY:=Lib.hid (fun e=>any_some (p:=spanB r) hlt e)
   have HN:Hid (spanB r l[i]=false→∀k (hk:k<l.length),k<i+1→spanB r l[k]=false):=Lib.hid (fun e k hk hki=>by
    by_cases q:k=i
    ·subst q;exact e
    ·exact Hno.out k hk (by omega))
   generalize l[i]=x at *
   cases hr:runeB r with
   | false=>
    have HN2:=Lib.hid (HN.out (by unfold spanB;rw[hr];rfl))
    rw[hr] at HR
    clear HN HY
    go_wp2_with fail
    refine Calls.mono (HR.out _) ?_
    rintro e w' ⟨rfl,rfl⟩
    go_wp2_with fail
    exact⟨⟨i+1,by go_num,by omega,HN2,by first | rfl | trivial⟩,by simp[intOf];omega⟩
   | true=>
    rw[hr] at HR
    by_cases hx1:x.1≤r
    ·have d1:decide (x.1≤r)=true:=by simpa using hx1
     by_cases hx2:r≤x.2
     ·have d2:decide (r≤x.2)=true:=by simpa using hx2
      have HY2:=Lib.hid (HY.out (by unfold spanB;simp only[hr,d1,d2];rfl))
      clear HN HY
      go_wp2_with fail
      refine Calls.mono (HR.out _) ?_
      rintro e w' ⟨rfl,rfl⟩
      go_wp2_with fail
      go_ret
      exact⟨by unfold ofB;rw[HY2.out];rfl,rfl⟩
     ·have d2:decide (r≤x.2)=false:=by simpa using hx2
      have HN2:=Lib.hid (HN.out (by unfold spanB;simp only[hr,d1,d2];rfl))
      clear HN HY
      go_wp2_with fail
      refine Calls.mono (HR.out _) ?_
      rintro e w' ⟨rfl,rfl⟩
      go_wp2_with fail
      exact⟨⟨i+1,by go_num,by omega,HN2,by first | rfl | trivial⟩,by simp[intOf];omega⟩
    ·have d1:decide (x.1≤r)=false:=by simpa using hx1
     have HN2:=Lib.hid (HN.out (by unfold spanB;simp only[hr,d1];rfl))
     clear HN HY
     go_wp2_with fail
     refine Calls.mono (HR.out _) ?_
     rintro e w' ⟨rfl,rfl⟩
     go_wp2_with fail
     exact⟨⟨i+1,by go_num,by omega,HN2,by first | rfl | trivial⟩,by simp[intOf];omega⟩
  ·obtain rfl:i=l.length:=by omega
   have HR2:=Lib.hid (any_none (l:=l) (p:=spanB r) (fun k hk=>Hno.out k hk hk))
   clear hi hlt i0 Hno
   go_wp2_with fail
   go_ret
   exact⟨by unfold ofB;rw[HR2.out];rfl,rfl⟩
end Go.Proofs.YtioehfhdoohdmaaGreatDoor
namespace Go.Proofs.YtioehfhdoohdmaaGreatDoor
open Go.RowKit Go.Shelf
set_option maxRecDepth 100000 in
set_option maxHeartbeats 2000000 in
theorem mark_any (T:Tab) (a:TAddr) (r:Int) (W:World) (h:TabAt W T a):Calls Tryz.prog 127 #[.agg (tabCells T a),.int .i32 r] W fun e w'=>e=.returned (.bool (markB T r))∧Below W.heap.size W w':=by
 have hB:Below W.heap.size W (W.alloc (.cells (tabCells T a) 28)):=(Below.refl _ W).alloc (Nat.le_refl _) _
 have hT:=h.below hB
 have bB:=Blk.new' W (tabCells T a) 28
 have cB:(W.alloc (.cells (tabCells T a) 28)).cell? ⟨W.heap.size,2,none⟩=some (.slice a.o2 T.marks.length a.c2):=bB.cell 2
 have hmx:T.marks.length≤9223372036854775807:=hT.m2
 have H:=Lib.hid hT.marks
 have HB:=Lib.hid hB
 clear hT bB hB h
 obtain⟨s0,s1,s2,s3,s4,s5,s6,s7,hs⟩:∃s0 s1 s2 s3 s4 s5 s6 s7,tabCells T a=#[s0,s1,s2,s3,s4,s5,s6,s7]:=⟨_,_,_,_,_,_,_,_,rfl⟩
 obtain⟨W0,hW0⟩:∃W0,W.alloc (.cells #[s0,s1,s2,s3,s4,s5,s6,s7] 28)=W0:=⟨_,rfl⟩
 rw[hs,hW0] at cB H HB
 rw[hs]
 have HW0:=Lib.hid hW0
 clear hW0 hs
 unfold markB
 generalize T.marks=L at *
 generalize a.o2=oo at *
 go_enter Tryz.func127,Tryz.ntmps127
 go_wp2_with fail
 rw[HW0.out]
 go_loopw [5] (fun v5 wr=>∃i:Nat,v5=.int .i64 i∧i≤L.length∧Hid (∀k (hk:k<L.length),k<i→mkey r L[k]=false)∧wr=W0) (fun v5 _=>L.length - (intOf v5).toNat)
 case atStart=>exact⟨0,rfl,Nat.zero_le _,Lib.hid (fun k _ h=>absurd h (by omega)),rfl⟩
 case round=>
  obtain⟨i,rfl,hi,Hno,rfl⟩:=hrel
  have i0:(0:Int)≤(i:Int):=Int.natCast_nonneg _
  by_cases hlt:i<L.length
  ·have i1:(i:Int)<(L.length:Int):=by omega
   obtain⟨g,off,ho,hg,c0,c1⟩:=H.out i hlt
   subst ho
   have HY:=Lib.hid (fun e=>any_some (p:=mkey r) hlt e)
   have HN:Hid (mkey r L[i]=false→∀k (hk:k<L.length),k<i+1→mkey r L[k]=false):=Lib.hid (fun e k hk hki=>by
    by_cases q:k=i
    ·subst q;exact e
    ·exact Hno.out k hk (by omega))
   generalize L[i]=x at *
   cases hx:mkey r x with
   | true=>
    have dx:(x.1 == r)=true:=hx
    have HY2:=Lib.hid (HY.out hx)
    clear HY HN
    go_wp2_with fail
    go_ret
    exact⟨by rw[HY2.out];rfl,HB.out⟩
   | false=>
    have dx:(x.1 == r)=false:=hx
    have HN2:=Lib.hid (HN.out hx)
    clear HY HN
    go_wp2_with fail
    exact⟨⟨i+1,by go_num,by omega,HN2,by first | rfl | trivial⟩,by simp[intOf];omega⟩
  ·obtain rfl:i=L.length:=by omega
   have HR2:=Lib.hid (any_none (p:=mkey r) (fun k hk=>Hno.out k hk hk))
   clear hi hlt i0 Hno
   go_wp2_with fail
   go_ret
   exact⟨by rw[HR2.out];rfl,HB.out⟩
set_option maxRecDepth 100000 in
set_option maxHeartbeats 2000000 in
theorem whole_any (T:Tab) (a:TAddr) (r:Int) (W:World) (h:TabAt W T a):Calls Tryz.prog 129 #[.agg (tabCells T a),.int .i32 r] W fun e w'=>e=.returned (.int .i64 (wholeN T r))∧Below W.heap.size W w':=by
 have hB:Below W.heap.size W (W.alloc (.cells (tabCells T a) 28)):=(Below.refl _ W).alloc (Nat.le_refl _) _
 have hT:=h.below hB
 have bB:=Blk.new' W (tabCells T a) 28
 have cB:(W.alloc (.cells (tabCells T a) 28)).cell? ⟨W.heap.size,3,none⟩=some (.slice a.o3 T.pairs.length a.c3):=bB.cell 3
 have hmx:T.pairs.length≤9223372036854775807:=hT.m3
 have H:=Lib.hid hT.pairs
 have HB:=Lib.hid hB
 clear hT bB hB h
 obtain⟨s0,s1,s2,s3,s4,s5,s6,s7,hs⟩:∃s0 s1 s2 s3 s4 s5 s6 s7,tabCells T a=#[s0,s1,s2,s3,s4,s5,s6,s7]:=⟨_,_,_,_,_,_,_,_,rfl⟩
 obtain⟨W0,hW0⟩:∃W0,W.alloc (.cells #[s0,s1,s2,s3,s4,s5,s6,s7] 28)=W0:=⟨_,rfl⟩
 rw[hs,hW0] at cB H HB
 rw[hs]
 have HW0:=Lib.hid hW0
 clear hW0 hs
 unfold wholeN
 generalize T.pairs=L at *
 generalize a.o3=oo at *
 go_enter Tryz.func129,Tryz.ntmps129
 go_wp2_with fail
 rw[HW0.out]
 go_loopw [5] (fun v5 wr=>∃i:Nat,v5=.int .i64 i∧i≤L.length∧Hid (∀k (hk:k<L.length),k<i→pkey r L[k]=false)∧wr=W0) (fun v5 _=>L.length - (intOf v5).toNat)
 case atStart=>exact⟨0,rfl,Nat.zero_le _,Lib.hid (fun k _ h=>absurd h (by omega)),rfl⟩
 case round=>
  obtain⟨i,rfl,hi,Hno,rfl⟩:=hrel
  have i0:(0:Int)≤(i:Int):=Int.natCast_nonneg _
  by_cases hlt:i<L.length
  ·have i1:(i:Int)<(L.length:Int):=by omega
   obtain⟨g,off,ho,hg,c0,c1,c2⟩:=H.out i hlt
   subst ho
   have HY:=Lib.hid (fun e=>firstN_some (p:=pkey r) hlt Hno.out e)
   have HN:Hid (pkey r L[i]=false→∀k (hk:k<L.length),k<i+1→pkey r L[k]=false):=Lib.hid (fun e k hk hki=>by
    by_cases q:k=i
    ·subst q;exact e
    ·exact Hno.out k hk (by omega))
   generalize L[i]=x at *
   cases hx:pkey r x with
   | true=>
    have dx:(x.1 == r)=true:=hx
    have HY2:=Lib.hid (HY.out hx)
    clear HY HN
    go_wp2_with fail
    go_ret
    exact⟨by rw[HY2.out];rfl,HB.out⟩
   | false=>
    have dx:(x.1 == r)=false:=hx
    have HN2:=Lib.hid (HN.out hx)
    clear HY HN
    go_wp2_with fail
    exact⟨⟨i+1,by go_num,by omega,HN2,by first | rfl | trivial⟩,by simp[intOf];omega⟩
  ·obtain rfl:i=L.length:=by omega
   have HR2:=Lib.hid (firstN_none (p:=pkey r) (fun k hk=>Hno.out k hk hk))
   clear hi hlt i0 Hno
   go_wp2_with fail
   go_ret
   exact⟨by rw[HR2.out];rfl,HB.out⟩
set_option maxRecDepth 100000 in
set_option maxHeartbeats 2000000 in
theorem class_any (T:Tab) (a:TAddr) (r:Int) (W:World) (h:TabAt W T a):Calls Tryz.prog 94 #[.agg (tabCells T a),.int .i32 r] W fun e w'=>e=.returned (.int .i64 (classN T r))∧Below W.heap.size W w':=by
 have hB:Below W.heap.size W (W.alloc (.cells (tabCells T a) 28)):=(Below.refl _ W).alloc (Nat.le_refl _) _
 have hT:=h.below hB
 have bB:=Blk.new' W (tabCells T a) 28
 have cB:(W.alloc (.cells (tabCells T a) 28)).cell? ⟨W.heap.size,2,none⟩=some (.slice a.o2 T.marks.length a.c2):=bB.cell 2
 have hmx:T.marks.length≤9223372036854775807:=hT.m2
 have H:=Lib.hid hT.marks
 have HB:=Lib.hid hB
 clear hT bB hB h
 obtain⟨s0,s1,s2,s3,s4,s5,s6,s7,hs⟩:∃s0 s1 s2 s3 s4 s5 s6 s7,tabCells T a=#[s0,s1,s2,s3,s4,s5,s6,s7]:=⟨_,_,_,_,_,_,_,_,rfl⟩
 obtain⟨W0,hW0⟩:∃W0,W.alloc (.cells #[s0,s1,s2,s3,s4,s5,s6,s7] 28)=W0:=⟨_,rfl⟩
 rw[hs,hW0] at cB H HB
 rw[hs]
 have HW0:=Lib.hid hW0
 clear hW0 hs
 unfold classN
 generalize T.marks=L at *
 generalize a.o2=oo at *
 go_enter Tryz.func94,Tryz.ntmps94
 go_wp2_with fail
 rw[HW0.out]
 go_loopw [5] (fun v5 wr=>∃i:Nat,v5=.int .i64 i∧i≤L.length∧Hid (∀k (hk:k<L.length),k<i→mkey r L[k]=false)∧wr=W0) (fun v5 _=>L.length - (intOf v5).toNat)
 case atStart=>exact⟨0,rfl,Nat.zero_le _,Lib.hid (fun k _ h=>absurd h (by omega)),rfl⟩
 case round=>
  obtain⟨i,rfl,hi,Hno,rfl⟩:=hrel
  have i0:(0:Int)≤(i:Int):=Int.natCast_nonneg _
  by_cases hlt:i<L.length
  ·have i1:(i:Int)<(L.length:Int):=by omega
   obtain⟨g,off,ho,hg,c0,c1⟩:=H.out i hlt
   subst ho
   have HY:=Lib.hid (fun e=>find_some (p:=mkey r) hlt Hno.out e)
   have HN:Hid (mkey r L[i]=false→∀k (hk:k<L.length),k<i+1→mkey r L[k]=false):=Lib.hid (fun e k hk hki=>by
    by_cases q:k=i
    ·subst q;exact e
    ·exact Hno.out k hk (by omega))
   generalize L[i]=x at *
   cases hx:mkey r x with
   | true=>
    have dx:(x.1 == r)=true:=hx
    have HY2:=Lib.hid (HY.out hx)
    clear HY HN
    go_wp2_with fail
    go_ret
    exact⟨by rw[HY2.out];rfl,HB.out⟩
   | false=>
    have dx:(x.1 == r)=false:=hx
    have HN2:=Lib.hid (HN.out hx)
    clear HY HN
    go_wp2_with fail
    exact⟨⟨i+1,by go_num,by omega,HN2,by first | rfl | trivial⟩,by simp[intOf];omega⟩
  ·obtain rfl:i=L.length:=by omega
   have HR2:=Lib.hid (find_none (p:=mkey r) (fun k hk=>Hno.out k hk hk))
   clear hi hlt i0 Hno
   go_wp2_with fail
   go_ret
   exact⟨by rw[HR2.out];rfl,HB.out⟩
set_option maxRecDepth 100000 in
set_option maxHeartbeats 2000000 in
theorem from_any (l:List (Int×ByteArray)) (o:Option Addr) (c:Nat) (r:Int) (W:World) (h:MapsAt W o l) (hm:l.length≤maxLen):Calls Tryz.prog 126 #[.slice o l.length c,.int .i32 r] W fun e w'=>e=.returned (.int .i64 (fromN l r))∧W=w':=by
 have hmx:l.length≤9223372036854775807:=hm
 have H:=Lib.hid h
 clear h hm
 go_enter Tryz.func126,Tryz.ntmps126
 go_wp2_with fail
 go_loopw [5] (fun v5 wr=>∃i:Nat,v5=.int .i64 i∧i≤l.length∧Hid (∀k (hk:k<l.length),k<i→fkey r l[k]=false)∧wr=W) (fun v5 _=>l.length - (intOf v5).toNat)
 case atStart=>exact⟨0,rfl,Nat.zero_le _,Lib.hid (fun k _ h=>absurd h (by omega)),rfl⟩
 case round=>
  obtain⟨i,rfl,hi,Hno,rfl⟩:=hrel
  have i0:(0:Int)≤(i:Int):=Int.natCast_nonneg _
  by_cases hlt:i<l.length
  ·have i1:(i:Int)<(l.length:Int):=by omega
   obtain⟨g,off,ho,hg,c0,c1,z⟩:=H.out i hlt
   subst ho
   have HY:=Lib.hid (fun e=>firstN_some (p:=fkey r) hlt Hno.out e)
   have HN:Hid (fkey r l[i]=false→∀k (hk:k<l.length),k<i+1→fkey r l[k]=false):=Lib.hid (fun e k hk hki=>by
    by_cases q:k=i
    ·subst q;exact e
    ·exact Hno.out k hk (by omega))
   generalize l[i]=x at *
   cases hx:fkey r x with
   | true=>
    have dx:(x.1 == r)=true:=hx
    have HY2:=Lib.hid (HY.out hx)
    clear HY HN
    go_wp2_with fail
    go_ret
    exact⟨by unfold fromN;rw[HY2.out];rfl,rfl⟩
   | false=>
    have dx:(x.1 == r)=false:=hx
    have HN2:=Lib.hid (HN.out hx)
    clear HY HN
    go_wp2_with fail
    exact⟨⟨i+1,by go_num,by omega,HN2,by first | rfl | trivial⟩,by simp[intOf];omega⟩
  ·obtain rfl:i=l.length:=by omega
   have HR2:=Lib.hid (firstN_none (p:=fkey r) (fun k hk=>Hno.out k hk hk))
   clear hi hlt i0 Hno
   go_wp2_with fail
   go_ret
   exact⟨by unfold fromN;rw[HR2.out];rfl,rfl⟩
end Go.Proofs.YtioehfhdoohdmaaGreatDoor
namespace Go.Proofs.YtioehfhdoohdmaaGreatDoor
open Go.RowKit Go.Shelf
def firstE (f:Nat→Int) (n:Nat):Int×Int:=match (List.range n).find? (fun i=>f i != 0) with
 | some i=>(f i,(i:Int))
 | none=>(0,0)
theorem firstE_some {f:Nat→Int}{n j:Nat}(h:j<n) (hno:∀k,k<j→f k=0) (hyes:¬ f j=0):firstE f n=(f j,(j:Int)):=by
 have e:(List.range n).find? (fun i=>f i != 0)=some j:=by
  have:=find_some (p:=fun i=>f i != 0) (l:=List.range n) (j:=j) (by simpa using h) (fun k hk hkj=>by simp[hno k hkj]) (by simp;exact hyes)
  simpa using this
 unfold firstE;rw[e]
theorem firstE_none {f:Nat→Int}{n:Nat}(hno:∀k,k<n→f k=0):firstE f n=(0,0):=by
 have e:(List.range n).find? (fun i=>f i != 0)=none:=find_none (p:=fun i=>f i != 0) (l:=List.range n) (fun k hk=>by simp at hk;simp[hno k hk])
 unfold firstE;rw[e]
def wV (x:Int×Int×Int):Value:=.agg #[.int .i64 x.1,.int .i64 x.2.1,.int .i64 x.2.2]
def spanE (l:List Span) (i:Nat):Int:=
 if runeB (l.getD i (0,0)).1=false∨runeB (l.getD i (0,0)).2=false then 12
 else if (l.getD i (0,0)).2<(l.getD i (0,0)).1 then 11
 else if 0<i∧(l.getD i (0,0)).1≤(l.getD (i - 1) (0,0)).2 then 13 else 0
def spansE (l:List Span):Int×Int:=firstE (spanE l) l.length
def wrV (list:Int) (e:Int×Int):Value:=if e.1=0 then .agg #[.int .i64 0,.int .i64 0,.int .i64 0] else .agg #[.int .i64 e.1,.int .i64 list,.int .i64 e.2]
theorem getD_at {α:Type}{l:List α}{i:Nat}{d:α}(h:i<l.length):l.getD i d=l[i]:=by rw[List.getD_eq_getElem?_getD,List.getElem?_eq_getElem h];rfl
set_option maxRecDepth 100000 in
set_option maxHeartbeats 2000000 in
theorem span_any (o:Option Addr) (c:Nat) (l:List Span) (i:Nat) (hi:i<l.length) (W:World) (h:SpansAt W o l) (hm:l.length≤maxLen):Calls Tryz.prog 147 #[.slice o l.length c,.int .i64 i] W fun e w'=>e=.returned (.int .i64 (spanE l i))∧∃m,w'=W.drewN m:=by
 have hmx:l.length≤9223372036854775807:=hm
 have i0:(0:Int)≤(i:Int):=Int.natCast_nonneg _
 have i1:(i:Int)<(l.length:Int):=by omega
 obtain⟨g,off,rfl,hg,c0,c1⟩:=h i hi
 obtain⟨E,hE⟩:∃E,spanE l i=E:=⟨_,rfl⟩
 rw[hE]
 unfold spanE at hE
 rw[getD_at hi] at hE
 have HP:Hid (0<i→W.cell? ⟨g,off+(i - 1)*2+1,none⟩=some (.int .i32 (l.getD (i - 1) (0,0)).2)):=Lib.hid fun h0=>by
  obtain⟨g',off',e,_,_,c3⟩:=h (i - 1) (by omega)
  simp only[Option.some.injEq,Addr.mk.injEq] at e
  obtain⟨rfl,rfl,_⟩:=e
  rw[getD_at (by omega)]
  exact c3
 generalize (l.getD (i - 1) (0,0)).2=ph at *
 generalize l[i]=s at *
 have HE:=Lib.hid hE
 have HR1:=Lib.hid (rune_any s.1)
 have HR2:=Lib.hid (rune_any s.2)
 clear h hE hm
 cases h1:runeB s.1 with
 | false=>
  rw[h1] at HE HR1
  simp only[true_or,if_true] at HE
  go_enter Tryz.func147,Tryz.ntmps147
  go_wp2_with fail
  refine Calls.mono (HR1.out _) ?_
  rintro e w' ⟨rfl,rfl⟩
  go_wp2_with fail
  go_ret
  exact⟨by rw[←HE.out];rfl,0,rfl⟩
 | true=>
  rw[h1] at HE HR1
  cases h2:runeB s.2 with
  | false=>
   rw[h2] at HE HR2
   simp only[or_true,if_true] at HE
   go_enter Tryz.func147,Tryz.ntmps147
   go_wp2_with fail
   refine Calls.mono (HR1.out _) ?_
   rintro e w' ⟨rfl,rfl⟩
   go_wp2_with fail
   refine Calls.mono (HR2.out _) ?_
   rintro e w' ⟨rfl,rfl⟩
   go_wp2_with fail
   go_ret
   exact⟨by rw[←HE.out];rfl,0,rfl⟩
  | true=>
   rw[h2] at HE HR2
   simp only[Bool.true_eq_false,or_self,if_false] at HE
   by_cases h3:s.2<s.1
   ·have d3:decide (s.2<s.1)=true:=by simpa using h3
    rw[if_pos h3] at HE
    clear h3
    go_enter Tryz.func147,Tryz.ntmps147
    go_wp2_with fail
    refine Calls.mono (HR1.out _) ?_
    rintro e w' ⟨rfl,rfl⟩
    go_wp2_with fail
    refine Calls.mono (HR2.out _) ?_
    rintro e w' ⟨rfl,rfl⟩
    go_wp2_with fail
    go_quiet (fail)
    go_wp2_with fail
    go_ret
    exact⟨by rw[←HE.out];rfl,_,by first | rfl | exact World.drewN_drewN _ _ _⟩
   ·have d3:decide (s.2<s.1)=false:=by simpa using h3
    rw[if_neg h3] at HE
    clear h3
    by_cases h4:0<i
    ·have d4:decide ((0:Int)<(i:Int))=true:=by rw[decide_eq_true_iff];omega
     have c2:=HP.out h4
     have e4:((i:Int) - 1)=((i - 1:Nat):Int):=by omega
     have j0:(0:Int)≤((i - 1:Nat):Int):=Int.natCast_nonneg _
     have j1:((i - 1:Nat):Int)<(l.length:Int):=by omega
     by_cases h5:s.1≤ph
     ·have d5:decide (s.1≤ph)=true:=by simpa using h5
      rw[if_pos ⟨h4,h5⟩] at HE
      clear h5
      generalize i - 1=j at *
      go_enter Tryz.func147,Tryz.ntmps147
      go_wp2_with fail
      refine Calls.mono (HR1.out _) ?_
      rintro e w' ⟨rfl,rfl⟩
      go_wp2_with fail
      refine Calls.mono (HR2.out _) ?_
      rintro e w' ⟨rfl,rfl⟩
      go_wp2_with fail
      go_quiet (fail)
      go_wp2_with fail
      go_quiet (fail)
      go_wp2_with fail
      go_ret
      exact⟨by rw[←HE.out];rfl,_,by first | rfl | exact World.drewN_drewN _ _ _⟩
     ·have d5:decide (s.1≤ph)=false:=by simpa using h5
      rw[if_neg (fun x=>h5 x.2)] at HE
      clear h5
      generalize i - 1=j at *
      go_enter Tryz.func147,Tryz.ntmps147
      go_wp2_with fail
      refine Calls.mono (HR1.out _) ?_
      rintro e w' ⟨rfl,rfl⟩
      go_wp2_with fail
      refine Calls.mono (HR2.out _) ?_
      rintro e w' ⟨rfl,rfl⟩
      go_wp2_with fail
      go_quiet (fail)
      go_wp2_with fail
      go_quiet (fail)
      go_wp2_with fail
      go_ret
      exact⟨by rw[←HE.out];rfl,_,by first | rfl | exact World.drewN_drewN _ _ _⟩
    ·obtain rfl:i=0:=by omega
     rw[if_neg (fun x=>h4 x.1)] at HE
     clear h4
     simp only[Nat.zero_mul,Nat.add_zero,Nat.zero_add] at c0 c1
     show Calls Tryz.prog _ #[.slice (some ⟨g,off,none⟩) l.length c,.int .i64 0] W _
     have i2:(0:Int)<(l.length:Int):=by omega
     clear i0 i1
     go_enter Tryz.func147,Tryz.ntmps147
     go_wp2_with fail
     refine Calls.mono (HR1.out _) ?_
     rintro e w' ⟨rfl,rfl⟩
     go_wp2_with fail
     refine Calls.mono (HR2.out _) ?_
     rintro e w' ⟨rfl,rfl⟩
     go_wp2_with fail
     go_quiet (fail)
     go_wp2_with fail
     go_quiet (fail)
     go_wp2_with fail
     go_ret
     exact⟨by rw[←HE.out];rfl,_,by first | rfl | exact World.drewN_drewN _ _ _⟩
theorem blk_drew {W:World}{b:Nat}{vs:List Value}{T:TypeId}(h:Blk W b vs T) (n:Nat):Blk (W.drewN n) b vs T:=h
theorem below_drewN {W:World}(n:Nat):Below W.heap.size W (W.drewN n):=⟨rfl,rfl,rfl,Nat.le_refl _,fun _ _=>rfl⟩
set_option maxRecDepth 100000 in
set_option maxHeartbeats 2000000 in
theorem spans_any (o:Option Addr) (c:Nat) (l:List Span) (list:Int) (hl:0≤list∧list≤100) (W:World) (h:SpansAt W o l) (hm:l.length≤maxLen):Calls Tryz.prog 123 #[.slice o l.length c,.int .i64 list] W fun e w'=>e=.returned (wrV list (spansE l))∧Below W.heap.size W w':=by
 have hmx:l.length≤9223372036854775807:=hm
 have hB0:Below W.heap.size W (W.alloc (.cells #[.int .i64 0,.int .i64 0,.int .i64 0] 100)):=(Below.refl _ W).alloc (Nat.le_refl _) _
 have bA0:=Blk.new' W #[.int .i64 0,.int .i64 0,.int .i64 0] 100
 have H:=Lib.hid (fun W' (hB:Below W.heap.size W W')=>h.below hB)
 have HM:=Lib.hid hm
 clear h hm
 go_enter Tryz.func123,Tryz.ntmps123
 go_wp2_with fail
 generalize W.alloc (.cells #[.int .i64 0,.int .i64 0,.int .i64 0] 100)=W0 at *
 go_loopw [5] (fun v5 wr=>∃i:Nat,v5=.int .i64 i∧i≤l.length∧Hid (∀k,k<i→spanE l k=0)∧Blk wr W.heap.size [.int .i64 0,.int .i64 0,.int .i64 0] 100∧Below W.heap.size W wr) (fun v5 _=>l.length - (intOf v5).toNat)
 case atStart=>exact⟨0,rfl,Nat.zero_le _,Lib.hid (fun k h=>absurd h (by omega)),bA0,hB0⟩
 case round=>
  clear bA0 hB0
  obtain⟨i,rfl,hi,Hno,bA,hB⟩:=hrel
  have i0:(0:Int)≤(i:Int):=Int.natCast_nonneg _
  have a0:=bA.cell 0
  have a1:=bA.cell 1
  have a2:=bA.cell 2
  have f0:=bA.frozen 0
  have f1:=bA.frozen 1
  have f2:=bA.frozen 2
  by_cases hlt:i<l.length
  ·have i1:(i:Int)<(l.length:Int):=by omega
   have HS:=Lib.hid (span_any o c l i hlt wr (H.out wr hB) HM.out)
   have HY:=Lib.hid (fun e=>firstE_some (f:=spanE l) hlt Hno.out e)
   have HN:Hid (spanE l i=0→∀k,k<i+1→spanE l k=0):=Lib.hid (fun e k hki=>by
    by_cases q:k=i
    ·subst q;exact e
    ·exact Hno.out k (by omega))
   generalize spanE l i=E at *
   by_cases hE:E=0
   ·have HN2:=Lib.hid (HN.out hE)
    subst hE
    clear HY HN
    go_wp2_with fail
    refine Calls.mono HS.out ?_
    rintro e w' ⟨rfl,m,rfl⟩
    go_wp2_with fail
    exact⟨⟨i+1,by go_num,by omega,HN2,blk_drew bA m,hB.trans ((below_drewN m).mono hB.size)⟩,by simp[intOf];omega⟩
   ·have dE:(E != 0)=true:=by simpa using hE
    have HY2:=Lib.hid (HY.out hE)
    have HE:=Lib.hid hE
    clear HY HN hE
    go_wp2_with fail
    refine Calls.mono HS.out ?_
    rintro e w' ⟨rfl,m,rfl⟩
    go_wp2_with fail
    have b3:=((blk_drew bA m).set 0 (.int .i64 E)).set 1 (.int .i64 list) |>.set 2 (.int .i64 i)
    have r0:=b3.cell 0
    have r1:=b3.cell 1
    have r2:=b3.cell 2
    refine bodyPost_ret (v:=.agg #[.int .i64 E,.int .i64 list,.int .i64 i]) (by simp[results,Tryz.results123,go_sem,r0,r1,r2]) rfl ?_
    refine⟨by unfold spansE wrV;rw[HY2.out];rw[if_neg HE.out],?_⟩
    exact ((((hB.trans ((below_drewN m).mono hB.size)).setCell (p:=⟨W.heap.size,0,none⟩) (Nat.le_refl _) _).setCell (p:=⟨W.heap.size,1,none⟩) (Nat.le_refl _) _).setCell (p:=⟨W.heap.size,2,none⟩) (Nat.le_refl _) _)
  ·obtain rfl:i=l.length:=by omega
   have HR2:=Lib.hid (firstE_none (f:=spanE l) Hno.out)
   clear hi hlt i0 Hno
   go_wp2_with fail
   have b3:=(bA.set 0 (.int .i64 0)).set 1 (.int .i64 0) |>.set 2 (.int .i64 0)
   have r0:=b3.cell 0
   have r1:=b3.cell 1
   have r2:=b3.cell 2
   refine bodyPost_ret (v:=.agg #[.int .i64 0,.int .i64 0,.int .i64 0]) (by simp[results,Tryz.results123,go_sem,r0,r1,r2]) rfl ?_
   refine⟨by unfold spansE wrV;rw[HR2.out];rfl,?_⟩
   exact (((hB.setCell (p:=⟨W.heap.size,0,none⟩) (Nat.le_refl _) _).setCell (p:=⟨W.heap.size,1,none⟩) (Nat.le_refl _) _).setCell (p:=⟨W.heap.size,2,none⟩) (Nat.le_refl _) _)
end Go.Proofs.YtioehfhdoohdmaaGreatDoor
namespace Go.Proofs.YtioehfhdoohdmaaGreatDoor
open Go.RowKit Go.Shelf
def Two (b0 b1:Nat):Prop:=(b0=224∧160≤b1∧b1≤191)∨(b0=237∧128≤b1∧b1≤159)∨(225≤b0∧b0≤239∧b0≠237∧128≤b1∧b1≤191)
def Four (b0 b1:Nat):Prop:=(b0=240∧144≤b1∧b1≤191)∨(b0=244∧128≤b1∧b1≤143)∨(241≤b0∧b0≤243∧128≤b1∧b1≤191)
instance (a b:Nat):Decidable (Two a b):=inferInstanceAs (Decidable (_∨_∨_))
instance (a b:Nat):Decidable (Four a b):=inferInstanceAs (Decidable (_∨_∨_))
theorem runeLen_dec {s:ByteArray}{p:Nat}(hp:p<s.size) (h:goodAt s p=true):Lib.runeLen (Utf8.decode s p).1=(Utf8.decode s p).2:=by
 have c:=decodeN_cases (s.size - p) (B s p) (B s (p+1)) (B s (p+2)) (B s (p+3)) (B_lt _ _) (B_lt _ _) (B_lt _ _) (B_lt _ _)
 rw[←dec_eq] at c
 rw[good_iff] at h
 rcases c with ⟨a,b⟩ | ⟨_,a,b⟩ | ⟨_,a,b⟩ | ⟨_,a,b⟩ | ⟨a,a2,a3,a4,b⟩
 ·rw[b];unfold Lib.runeLen;simp only[];rw[if_neg (by omega),if_pos (by omega)];rfl
 ·rw[Seq2] at a;rw[b];unfold Lib.runeLen;simp only[];rw[if_neg (by omega),if_neg (by omega),if_pos (by omega)];rfl
 ·rw[Seq3] at a;rw[b];unfold Lib.runeLen;simp only[];rw[if_neg (by omega),if_neg (by omega),if_neg (by omega),if_neg (by omega),if_pos (by omega)];rfl
 ·rw[Seq4] at a;rw[b];unfold Lib.runeLen;simp only[];rw[if_neg (by omega),if_neg (by omega),if_neg (by omega),if_neg (by omega),if_neg (by omega),if_pos (by omega)];rfl
 ·rw[b] at h;simp at h;omega
theorem bad_rune {s:ByteArray}{p:Nat}(hp:p<s.size) (h:goodAt s p=false):(Utf8.decode s p).1=65533:=by
 have c:=decodeN_cases (s.size - p) (B s p) (B s (p+1)) (B s (p+2)) (B s (p+3)) (B_lt _ _) (B_lt _ _) (B_lt _ _) (B_lt _ _)
 rw[←dec_eq] at c
 have h:=false_iff_of h good_iff
 rcases c with ⟨a,b⟩ | ⟨_,a,b⟩ | ⟨_,a,b⟩ | ⟨_,a,b⟩ | ⟨a,a2,a3,a4,b⟩
 ·omega
 ·rw[b] at h;simp at h
 ·rw[b] at h;simp at h
 ·rw[b] at h;simp at h
 ·rw[b]
theorem B_list (s:ByteArray) (i:Nat):B s i=(s.data.toList.getD i 0).toNat:=by
 unfold B
 by_cases h:i<s.size
 ·rw[dif_pos h,List.getD_eq_getElem?_getD,List.getElem?_eq_getElem (by simpa using h)];simp;rfl
 ·rw[dif_neg h,List.getD_eq_getElem?_getD,List.getElem?_eq_none (by simpa using h)];rfl
theorem prefix3 (x:ByteArray) (a b c:UInt8):Lib.hasPrefix x.data.toList [a,b,c]=true↔3≤x.size∧B x 0=a.toNat∧B x 1=b.toNat∧B x 2=c.toNat:=by
 rw[B_list,B_list,B_list]
 have hz:x.size=x.data.toList.length:=by simp
 rw[hz]
 generalize x.data.toList=l
 match l with
 | []=>simp[Lib.hasPrefix,List.isPrefixOf]
 | [_]=>simp[Lib.hasPrefix,List.isPrefixOf]
 | [_,_]=>simp[Lib.hasPrefix,List.isPrefixOf]
 | x0::x1::x2::r=>
  simp only[Lib.hasPrefix,List.isPrefixOf,Bool.and_eq_true,beq_iff_eq,and_true,List.getD_cons_zero,List.getD_cons_succ,UInt8.toNat_inj,List.length_cons]
  constructor
  ·rintro⟨h1,h2,h3⟩;exact⟨by omega,h1.symm,h2.symm,h3.symm⟩
  ·rintro⟨_,h1,h2,h3⟩;exact⟨h1.symm,h2.symm,h3.symm⟩
theorem fffd_prefix {s:ByteArray}{p:Nat}(hp:p<s.size) (h:(Utf8.decode s p).1=65533):Lib.hasPrefix (s.extract p s.size).data.toList [239,191,189]=goodAt s p:=by
 rw[Bool.eq_iff_iff,prefix3,B_tail _ _ _ (by omega),B_tail _ _ _ (by omega),B_tail _ _ _ (by omega),good_iff]
 have hz:(s.extract p s.size).size=s.size - p:=by simp
 rw[hz]
 show 3≤s.size - p∧B s (p+0)=239∧B s (p+1)=191∧B s (p+2)=189↔_
 rw[Nat.add_zero]
 have c:=decodeN_cases (s.size - p) (B s p) (B s (p+1)) (B s (p+2)) (B s (p+3)) (B_lt _ _) (B_lt _ _) (B_lt _ _) (B_lt _ _)
 rw[←dec_eq] at c
 rcases c with ⟨a,b⟩ | ⟨_,a,b⟩ | ⟨_,a,b⟩ | ⟨_,a,b⟩ | ⟨a,a2,a3,a4,b⟩
 ·rw[b] at h;simp at h;omega
 ·rw[b] at h;simp only[] at h;rw[Seq2] at a;omega
 ·rw[b] at h ⊢;simp only[] at h;rw[Seq3] at a;simp;omega
 ·rw[b] at h;simp only[] at h;rw[Seq4] at a;omega
 ·rw[b];rw[Seq3] at a3;simp;omega
theorem runeLen_any (r:Nat) (w:World):Calls Tryz.prog 85 #[.int .i32 r] w fun e w'=>e=.returned (.int .i64 (Lib.runeLen r))∧w=w':=
 (Tryz.utf8_RuneLen r w).mono fun _ _ ⟨h,k⟩=>⟨h,k.symm⟩
end Go.Proofs.YtioehfhdoohdmaaGreatDoor
namespace Go.Proofs.YtioehfhdoohdmaaGreatDoor
open Go
def SpOk (l:List Span):Prop:=∀i,i<l.length→spanE l i=0
theorem spOk_of {l:List Span}(h:(spansE l).1=0):SpOk l:=by
 intro i hi
 unfold spansE firstE at h
 cases e:(List.range l.length).find? (fun i=>spanE l i != 0) with
 | none=>
  rw[List.find?_eq_none] at e
  have:=e i (List.mem_range.2 hi)
  simpa using this
 | some j=>
  rw[e] at h
  have:=List.find?_some e
  simp only[bne_iff_ne] at this
  exact absurd h this
theorem spOk_at {l:List Span}(h:SpOk l) {i:Nat}(hi:i<l.length):runeB l[i].1=true∧runeB l[i].2=true∧l[i].1≤l[i].2∧(∀j,j+1=i→∀(hj:j<l.length),l[j].2<l[i].1):=by
 have e:=h i hi
 unfold spanE at e
 rw[getD_at hi] at e
 by_cases c1:runeB l[i].1=false∨runeB l[i].2=false
 ·rw[if_pos c1] at e;cases e
 rw[if_neg c1] at e
 by_cases c2:l[i].2<l[i].1
 ·rw[if_pos c2] at e;cases e
 rw[if_neg c2] at e
 by_cases c3:0<i∧l[i].1≤(l.getD (i - 1) (0,0)).2
 ·rw[if_pos c3] at e;cases e
 refine⟨by cases q:runeB l[i].1 with | true=>rfl | false=>exact absurd (Or.inl q) c1,by cases q:runeB l[i].2 with | true=>rfl | false=>exact absurd (Or.inr q) c1,by omega,fun j hj hjl=>?_⟩
 subst hj
 rw[Nat.add_sub_cancel,getD_at hjl] at c3
 have:¬ l[j+1].1≤l[j].2:=fun z=>c3 ⟨by omega,z⟩
 omega
theorem spOk_lt {l:List Span}(h:SpOk l):∀(d j:Nat) (hk:j+d+1<l.length),l[j].2<l[j+d+1].1:=by
 intro d
 induction d with
 | zero=>intro j hk;exact (spOk_at h hk).2.2.2 j rfl (by omega)
 | succ d ih=>
  intro j hk
  have h1:=ih j (by omega)
  have h2:=(spOk_at h (i:=j+d+1) (by omega)).2.2.1
  have h3:=(spOk_at h (i:=j+(d+1)+1) hk).2.2.2 (j+d+1) (by omega) (by omega)
  exact Int.lt_trans (Int.lt_of_lt_of_le h1 h2) h3
def Cut (l:List Span) (r:Int) (i:Nat):Prop:=i≤l.length∧(∀k (hk:k<l.length),k<i→l[k].1<r)∧(∀k (hk:k<l.length),i≤k→r≤l[k].1)
def atB (l:List Span) (r:Int) (i:Nat):Bool:=match l[i]? with | some x=>x.1 == r | none=>false
theorem of_cut {l:List Span}(h:SpOk l) {r:Int}(hr:runeB r=true) {i:Nat}(hc:Cut l r i):ofB r l=(atB l r i || (decide (0<i) && decide (r≤(l.getD (i - 1) (0,0)).2))):=by
 obtain⟨hi,h1,h2⟩:=hc
 rw[Bool.eq_iff_iff]
 constructor
 ·intro ho
  unfold ofB at ho
  obtain⟨x,hx,hs⟩:=List.any_eq_true.1 ho
  obtain⟨k,hk,rfl⟩:=List.mem_iff_getElem.1 hx
  unfold spanB at hs
  simp only[hr,Bool.true_and,Bool.and_eq_true,decide_eq_true_eq] at hs
  rcases Nat.lt_or_ge k i with q | q
  ·have hki:k=i - 1:=by
    rcases Nat.lt_or_ge k (i - 1) with z | z
    ·exfalso
     have a:=spOk_lt h (i - 1 - k - 1) k (by omega)
     have b:=h1 (i - 1) (by omega) (by omega)
     have e:k+(i - 1 - k - 1)+1=i - 1:=by omega
     simp only[e] at a
     omega
    ·omega
   subst hki
   rw[getD_at hk]
   simp only[Bool.or_eq_true,Bool.and_eq_true,decide_eq_true_eq]
   exact Or.inr ⟨by omega,hs.2⟩
  ·have a:=h2 k hk q
   have hki:k=i:=by
    rcases Nat.lt_or_ge i k with z | z
    ·exfalso
     have a':=spOk_lt h (k - i - 1) i (by omega)
     have e:i+(k - i - 1)+1=k:=by omega
     simp only[e] at a'
     have b:=(spOk_at h (i:=i) (by omega)).2.2.1
     have c:=h2 i (by omega) (Nat.le_refl _)
     omega
    ·omega
   subst hki
   unfold atB
   rw[List.getElem?_eq_getElem hk]
   simp only[Bool.or_eq_true,beq_iff_eq]
   exact Or.inl (by omega)
 ·intro ho
  simp only[Bool.or_eq_true,Bool.and_eq_true,decide_eq_true_eq] at ho
  unfold ofB
  rcases ho with ho | ⟨h0,ho⟩
  ·unfold atB at ho
   cases e:l[i]? with
   | none=>rw[e] at ho;cases ho
   | some x=>
    rw[e] at ho
    obtain⟨hil,rfl⟩:=List.getElem?_eq_some_iff.1 e
    simp only[beq_iff_eq] at ho
    refine List.any_eq_true.2 ⟨_,List.getElem_mem hil,?_⟩
    have b:=(spOk_at h hil).2.2.1
    unfold spanB
    simp only[hr,Bool.true_and,Bool.and_eq_true,decide_eq_true_eq]
    omega
  ·have hil:i - 1<l.length:=by omega
   rw[getD_at hil] at ho
   refine List.any_eq_true.2 ⟨_,List.getElem_mem hil,?_⟩
   have b:=h1 (i - 1) hil (by omega)
   unfold spanB
   simp only[hr,Bool.true_and,Bool.and_eq_true,decide_eq_true_eq]
   omega
theorem of_bad {l:List Span}{r:Int}(hr:runeB r=false):ofB r l=false:=by
 unfold ofB
 rw[List.any_eq_false]
 intro x _
 unfold spanB
 simp[hr]
theorem cut_lo {l:List Span}(h:SpOk l) {r:Int}{i m:Nat}(hm:m<l.length) (hlo:∀k (hk:k<l.length),k<i→l[k].1<r) (hx:l[m].1<r):∀k (hk:k<l.length),k<m+1→l[k].1<r:=by
 intro k hk hkm
 rcases Nat.lt_or_ge k m with q | q
 ·have a:=spOk_lt h (m - k - 1) k (by omega)
  have e:k+(m - k - 1)+1=m:=by omega
  simp only[e] at a
  have b:=(spOk_at h hk).2.2.1
  omega
 ·obtain rfl:k=m:=by omega
  exact hx
theorem cut_hi {l:List Span}(h:SpOk l) {r:Int}{m:Nat}(hm:m<l.length) (hx:r≤l[m].1):∀k (hk:k<l.length),m≤k→r≤l[k].1:=by
 intro k hk hkm
 rcases Nat.lt_or_ge m k with q | q
 ·have a:=spOk_lt h (k - m - 1) m (by omega)
  have e:m+(k - m - 1)+1=k:=by omega
  simp only[e] at a
  have b:=(spOk_at h hm).2.2.1
  omega
 ·obtain rfl:k=m:=by omega
  exact hx
end Go.Proofs.YtioehfhdoohdmaaGreatDoor
namespace Go.Proofs.YtioehfhdoohdmaaGreatDoor
open Go.RowKit Go.Shelf
def snameC (c:Nat) (i:Nat):Bool:=smallB c || (decide (0<i) && (c == 45 || digitB c))
def snameB (s:ByteArray):Bool:=(List.range s.size).all (fun i=>snameC (B s i) i) && decide (1≤s.size) && decide (s.size≤32)
theorem sname_false {s:ByteArray}{i:Nat}(h:i<s.size) (e:snameC (B s i) i=false):snameB s=false:=by
 unfold snameB
 have:(List.range s.size).all (fun i=>snameC (B s i) i)=false:=by
  rw[List.all_eq_false]
  exact⟨i,List.mem_range.2 h,by rw[e];decide⟩
 rw[this];rfl
theorem sname_end {s:ByteArray}(h:∀i,i<s.size→snameC (B s i) i=true):snameB s=(decide (1≤s.size) && decide (s.size≤32)):=by
 unfold snameB
 have:(List.range s.size).all (fun i=>snameC (B s i) i)=true:=List.all_eq_true.2 fun i hi=>h i (List.mem_range.1 hi)
 rw[this];simp
set_option maxRecDepth 100000 in
set_option maxHeartbeats 2000000 in
theorem sname_any (s:ByteArray) (W:World) (hs:s.size≤maxLen):Calls Tryz.prog 146 #[.string s] W fun e w'=>e=.returned (.bool (snameB s))∧W=w':=by
 have hmx:s.size≤9223372036854775807:=hs
 clear hs
 go_enter Tryz.func146,Tryz.ntmps146
 go_wp2_with fail
 go_loopw [3] (fun v3 wr=>∃i:Nat,v3=.int .i64 i∧i≤s.size∧Hid (∀k,k<i→snameC (B s k) k=true)∧wr=W) (fun v3 _=>s.size - (intOf v3).toNat)
 case atStart=>exact⟨0,rfl,Nat.zero_le _,Lib.hid (fun k h=>absurd h (by omega)),rfl⟩
 case round=>
  obtain⟨i,rfl,hi,Hno,rfl⟩:=hrel
  have i0:(0:Int)≤(i:Int):=Int.natCast_nonneg _
  by_cases hlt:i<s.size
  ·have i1:(i:Int)<(s.size:Int):=by omega
   have hba:=B_at hlt
   have HF:=Lib.hid (fun e=>sname_false hlt e)
   have HN:Hid (snameC (B s i) i=true→∀k,k<i+1→snameC (B s k) k=true):=Lib.hid (fun e k hki=>by
    by_cases q:k=i
    ·subst q;exact e
    ·exact Hno.out k (by omega))
   by_cases k1:97≤B s i
   ·have d1:decide ((97:Int)≤((s[i]'hlt).toNat:Int))=true:=by rw[decide_eq_true_iff];omega
    by_cases k2:B s i≤122
    ·have d2:decide (((s[i]'hlt).toNat:Int)≤122)=true:=by rw[decide_eq_true_iff];omega
     have HN2:=Lib.hid (HN.out (by simp[snameC,smallB,k1,k2]))
     clear HN HF hba k1 k2
     go_wp2_with fail
     exact⟨⟨i+1,by go_num,by omega,HN2,by first | rfl | trivial⟩,by simp[intOf];omega⟩
    ·have d2:decide (((s[i]'hlt).toNat:Int)≤122)=false:=by rw[decide_eq_false_iff_not];omega
     have HF2:=Lib.hid (HF.out (by simp[snameC,smallB,digitB];omega))
     by_cases k3:i=0
     ·have d3:((i:Int) == 0)=true:=by rw[beq_iff_eq];omega
      clear HN HF hba k1 k2 k3
      go_wp2_with fail
      go_ret
      exact⟨by rw[HF2.out];rfl,rfl⟩
     ·have d3:((i:Int) == 0)=false:=by rw[beq_eq_false_iff_ne];omega
      have d4:(((s[i]'hlt).toNat:Int) != 45)=true:=by rw[bne_iff_ne];omega
      have d5:decide (((s[i]'hlt).toNat:Int)<48)=false:=by rw[decide_eq_false_iff_not];omega
      have d6:decide ((57:Int)<((s[i]'hlt).toNat:Int))=true:=by rw[decide_eq_true_iff];omega
      clear HN HF hba k1 k2 k3
      go_wp2_with fail
      go_ret
      exact⟨by rw[HF2.out];rfl,rfl⟩
   ·have d1:decide ((97:Int)≤((s[i]'hlt).toNat:Int))=false:=by rw[decide_eq_false_iff_not];omega
    by_cases k3:i=0
    ·have d3:((i:Int) == 0)=true:=by rw[beq_iff_eq];omega
     have HF2:=Lib.hid (HF.out (by simp[snameC,smallB,digitB,k3] at *;omega))
     clear HN HF hba k1 k3
     go_wp2_with fail
     go_ret
     exact⟨by rw[HF2.out];rfl,rfl⟩
    ·have d3:((i:Int) == 0)=false:=by rw[beq_eq_false_iff_ne];omega
     by_cases k4:B s i=45
     ·have d4:(((s[i]'hlt).toNat:Int) != 45)=false:=by rw[bne_eq_false_iff_eq];omega
      have HN2:=Lib.hid (HN.out (by simp[snameC,k4];omega))
      clear HN HF hba k1 k3 k4
      go_wp2_with fail
      exact⟨⟨i+1,by go_num,by omega,HN2,by first | rfl | trivial⟩,by simp[intOf];omega⟩
     ·have d4:(((s[i]'hlt).toNat:Int) != 45)=true:=by rw[bne_iff_ne];omega
      by_cases k5:B s i<48
      ·have d5:decide (((s[i]'hlt).toNat:Int)<48)=true:=by rw[decide_eq_true_iff];omega
       have HF2:=Lib.hid (HF.out (by simp[snameC,smallB,digitB];omega))
       clear HN HF hba k1 k3 k4 k5
       go_wp2_with fail
       go_ret
       exact⟨by rw[HF2.out];rfl,rfl⟩
      ·have d5:decide (((s[i]'hlt).toNat:Int)<48)=false:=by rw[decide_eq_false_iff_not];omega
       by_cases k6:57<B s i
       ·have d6:decide ((57:Int)<((s[i]'hlt).toNat:Int))=true:=by rw[decide_eq_true_iff];omega
        have HF2:=Lib.hid (HF.out (by simp[snameC,smallB,digitB];omega))
        clear HN HF hba k1 k3 k4 k5 k6
        go_wp2_with fail
        go_ret
        exact⟨by rw[HF2.out];rfl,rfl⟩
       ·have d6:decide ((57:Int)<((s[i]'hlt).toNat:Int))=false:=by rw[decide_eq_false_iff_not];omega
        have HN2:=Lib.hid (HN.out (by simp[snameC,smallB,digitB];omega))
        clear HN HF hba k1 k3 k4 k5 k6
        go_wp2_with fail
        exact⟨⟨i+1,by go_num,by omega,HN2,by first | rfl | trivial⟩,by simp[intOf];omega⟩
  ·obtain rfl:i=s.size:=by omega
   have HE:=Lib.hid (sname_end Hno.out)
   clear hi hlt i0 Hno
   by_cases k1:1≤s.size
   ·have d1:decide ((1:Int)≤(s.size:Int))=true:=by rw[decide_eq_true_iff];omega
    by_cases k2:s.size≤32
    ·have d2:decide ((s.size:Int)≤32)=true:=by rw[decide_eq_true_iff];omega
     have HE2:Hid (snameB s=true):=Lib.hid (by rw[HE.out];simp[k1,k2])
     go_wp2_with fail
     go_ret
     exact⟨by rw[HE2.out];rfl,rfl⟩
    ·have d2:decide ((s.size:Int)≤32)=false:=by rw[decide_eq_false_iff_not];omega
     have HE2:Hid (snameB s=false):=Lib.hid (by rw[HE.out];simp[k2])
     go_wp2_with fail
     go_ret
     exact⟨by rw[HE2.out];rfl,rfl⟩
   ·have d1:decide ((1:Int)≤(s.size:Int))=false:=by rw[decide_eq_false_iff_not];omega
    have HE2:Hid (snameB s=false):=Lib.hid (by rw[HE.out];simp[k1])
    go_wp2_with fail
    go_ret
    exact⟨by rw[HE2.out];rfl,rfl⟩
end Go.Proofs.YtioehfhdoohdmaaGreatDoor
namespace Go.Proofs.YtioehfhdoohdmaaGreatDoor
open Go.RowKit Go.Shelf
def scriptE (x:ByteArray×List Span):Int:=if snameB x.1 then (spansE x.2).1 else 38
set_option maxRecDepth 100000 in
set_option maxHeartbeats 2000000 in
theorem script_any (nm:ByteArray) (l:List Span) (so:Option Addr) (sc:Nat) (W:World) (h:SpansAt W so l) (hn:nm.size≤maxLen) (hm:l.length≤maxLen) :
 Calls Tryz.prog 122 #[.agg #[.string nm,.slice so l.length sc]] W fun e w'=>e=.returned (.int .i64 (scriptE (nm,l)))∧Below W.heap.size W w':=by
 have hB:Below W.heap.size W (W.alloc (.cells #[.string nm,.slice so l.length sc] 128)):=(Below.refl _ W).alloc (Nat.le_refl _) _
 have bS:=Blk.new' W #[.string nm,.slice so l.length sc] 128
 have hS:=Lib.hid (h.below hB)
 have HN:=Lib.hid (fun W=>sname_any nm W hn)
 have HM:=Lib.hid hm
 have c0:=bS.cell 0
 have c1:=bS.cell 1
 simp only[List.getElem?_cons_zero,List.getElem?_cons_succ] at c0 c1
 clear h bS hm
 go_enter Tryz.func122,Tryz.ntmps122
 go_wp2_with fail
 generalize W.alloc (.cells #[.string nm,.slice so l.length sc] 128)=W0 at *
 refine Calls.mono (HN.out _) ?_
 rintro e w' ⟨rfl,rfl⟩
 cases hb:snameB nm with
 | false=>
  have HE:Hid (scriptE (nm,l)=38):=Lib.hid (by unfold scriptE;simp only[hb];rfl)
  go_wp2_with fail
  go_ret
  exact⟨by rw[HE.out];rfl,hB⟩
 | true=>
  have HE:Hid (scriptE (nm,l)=(spansE l).1):=Lib.hid (by unfold scriptE;simp only[hb];rfl)
  have HSp:=Lib.hid (spans_any so sc l 1 (by decide) W0 hS.out HM.out)
  unfold wrV at HSp
  generalize spansE l=E at *
  go_wp2_with fail
  by_cases h0:E.1=0
  ·rw[if_pos h0] at HSp
   refine Calls.mono HSp.out ?_
   rintro e w2 ⟨rfl,hB2⟩
   have hB3:=hB.trans (hB2.mono hB.size)
   go_wp2_with fail
   go_ret
   exact⟨by rw[HE.out,h0];rfl,hB3.alloc hB3.size _⟩
  ·rw[if_neg h0] at HSp
   refine Calls.mono HSp.out ?_
   rintro e w2 ⟨rfl,hB2⟩
   have hB3:=hB.trans (hB2.mono hB.size)
   go_wp2_with fail
   go_ret
   exact⟨by rw[HE.out];rfl,hB3.alloc hB3.size _⟩
def lowB (r:Int):Bool:=decide (r<128) || r == 65533
def setB (r:Int):Bool:=decide (r<32) || r == 45 || r == 46 || r == 65533
theorem low_any (r:Int) (W:World):Calls Tryz.prog 148 #[.int .i32 r] W fun e w'=>e=.returned (.bool (lowB r))∧W=w':=by
 by_cases h:r<128
 ·have d:decide (r<128)=true:=by simpa using h
  have E:lowB r=true:=by simp[lowB,h]
  go_enter Tryz.func148,Tryz.ntmps148
  go_wp2
  go_ret
  exact⟨by first | rfl | (rw[E];rfl),rfl⟩
 ·have d:decide (r<128)=false:=by simpa using h
  by_cases h2:r=65533
  ·subst h2
   have E:lowB 65533=true:=by decide
   go_enter Tryz.func148,Tryz.ntmps148
   go_wp2
   go_ret
   exact⟨by first | rfl | (rw[E];rfl),rfl⟩
  ·have d2:(r == 65533)=false:=by simpa using h2
   have E:lowB r=false:=by simp[lowB,h,h2]
   go_enter Tryz.func148,Tryz.ntmps148
   go_wp2
   go_ret
   exact⟨by first | rfl | (rw[E];rfl),rfl⟩
end Go.Proofs.YtioehfhdoohdmaaGreatDoor
namespace Go.Proofs.YtioehfhdoohdmaaGreatDoor
open Go.RowKit Go.Shelf
theorem cell_lt {W:World}{p:Addr}{v:Value}(h:W.cell? p=some v):p.block<W.heap.size:=by
 rcases Nat.lt_or_ge p.block W.heap.size with h1 | h1
 ·exact h1
 ·simp[World.cell?,Array.getElem?_eq_none h1] at h
theorem cell_bel {W W':World}(hB:Below W.heap.size W W') {p:Addr}{v:Value}(h:W.cell? p=some v):W'.cell? p=some v:=(hB.cell (cell_lt h)).trans h
theorem bel_drewN {n:Nat}{W w:World}(h:Below n W w) (m:Nat):Below n W (w.drewN m):=⟨h.os,h.tape,h.output,h.size,h.block⟩
theorem set3_below {n:Nat}{W w:World}{b:Nat}{u v x:Value}(h:Below n W w) (hb:n≤b):Below n W (((w.setCell ⟨b,0,none⟩ u).setCell ⟨b,1,none⟩ v).setCell ⟨b,2,none⟩ x):=
 ((h.setCell (p:=⟨b,0,none⟩) hb _).setCell (p:=⟨b,1,none⟩) hb _).setCell (p:=⟨b,2,none⟩) hb _
theorem box1 {W:World}{T:Tab}{a:TAddr}(h:TabAt W T a) :
 TabAt (W.alloc (.cells (tabCells T a) 28)) T a∧(∀k v,(tabCells T a)[k]?=some v→(W.alloc (.cells (tabCells T a) 28)).cell? ⟨W.heap.size,k,none⟩=some v) ∧
 Below W.heap.size W (W.alloc (.cells (tabCells T a) 28))∧W.heap.size<(W.alloc (.cells (tabCells T a) 28)).heap.size:=by
 have hB:Below W.heap.size W (W.alloc (.cells (tabCells T a) 28)):=(Below.refl _ W).alloc (Nat.le_refl _) _
 refine⟨h.below hB,fun k v hv=>?_,hB,by simp⟩
 have:=(Blk.new' W (tabCells T a) 28).cell k
 rw[this,←hv];simp
theorem box2 {W:World}{T:Tab}{a:TAddr}(h:TabAt W T a) :
 TabAt ((W.alloc (.cells (tabCells T a) 28)).alloc (.cells #[.int .i64 0,.int .i64 0,.int .i64 0] 100)) T a ∧
 (∀k v,(tabCells T a)[k]?=some v→((W.alloc (.cells (tabCells T a) 28)).alloc (.cells #[.int .i64 0,.int .i64 0,.int .i64 0] 100)).cell? ⟨W.heap.size,k,none⟩=some v) ∧
 Blk ((W.alloc (.cells (tabCells T a) 28)).alloc (.cells #[.int .i64 0,.int .i64 0,.int .i64 0] 100)) (W.heap.size+1) [.int .i64 0,.int .i64 0,.int .i64 0] 100 ∧
 Below W.heap.size W ((W.alloc (.cells (tabCells T a) 28)).alloc (.cells #[.int .i64 0,.int .i64 0,.int .i64 0] 100)) ∧
 W.heap.size+1<((W.alloc (.cells (tabCells T a) 28)).alloc (.cells #[.int .i64 0,.int .i64 0,.int .i64 0] 100)).heap.size:=by
 obtain⟨h1,h2,h3,h4⟩:=box1 h
 have hB:Below (W.alloc (.cells (tabCells T a) 28)).heap.size (W.alloc (.cells (tabCells T a) 28)) ((W.alloc (.cells (tabCells T a) 28)).alloc (.cells #[.int .i64 0,.int .i64 0,.int .i64 0] 100)):=(Below.refl _ _).alloc (Nat.le_refl _) _
 refine⟨h1.below hB,fun k v hv=>cell_bel hB (h2 k v hv),?_,h3.alloc h3.size _,by simp⟩
 have:=Blk.new' (W.alloc (.cells (tabCells T a) 28)) #[.int .i64 0,.int .i64 0,.int .i64 0] 100
 rwa [show (W.alloc (.cells (tabCells T a) 28)).heap.size=W.heap.size+1 by simp] at this
structure WC (W0:World) where
 w:World
 h:Below W0.heap.size W0 w
theorem WC.cell {W0:World}{p:Addr}{v:Value}(h:W0.cell? p=some v) (y:WC W0):y.w.cell? p=some v:=cell_bel y.h h
theorem WC.frozen {W0:World}{p:Addr}{v:Value}(h:W0.cell? p=some v) (hf:W0.frozen? p=false) (y:WC W0):y.w.frozen? p=false:=(y.h.frozen (cell_lt h)).trans hf
def WC.of (W0:World):WC W0:=⟨W0,Below.refl _ _⟩
instance WC.some (W0:World):Nonempty (WC W0):=⟨WC.of W0⟩
theorem WC.call {W0:World}{P:Program}{f:FuncId}{args:Array Value}{y:WC W0}{v:Value}(h:Calls P f args y.w fun e w'=>e=.returned v∧Below y.w.heap.size y.w w') :
 Calls P f args y.w fun e w'=>e=.returned v∧∃z:WC W0,w'=z.w:=h.mono fun e w' hh=>⟨hh.1,⟨w',y.h.trans (hh.2.mono y.h.size)⟩,rfl⟩
theorem WC.same {W0:World}{P:Program}{f:FuncId}{args:Array Value}{y:WC W0}{v:Value}(h:Calls P f args y.w fun e w'=>e=.returned v∧y.w=w') :
 Calls P f args y.w fun e w'=>e=.returned v∧∃z:WC W0,w'=z.w:=h.mono fun e w' hh=>⟨hh.1,y,hh.2.symm⟩
theorem wp_region_wc {P:Program}{id:Nat}{Q:Exit→Act→World→Prop}{a:Act}{W0 w:World}{l:List Oper}(hm:P.follows .mixedOrders=true) (hB:Region.lexB .any l.toArray=true) (hw:Below W0.heap.size W0 w)
 (h:wpQuiet P l.toArray (fun w'=>∃y:WC W0,w'=y.w) (fun a'=>∀w',(∃y:WC W0,w'=y.w)→Q .normal a' w') l a):(Code.region id l.toArray true).wp P Q a w:=
 wp_region_quiet (C:=fun w'=>∃y:WC W0,w'=y.w) hm hB ⟨⟨_,hw.drew⟩,rfl⟩ (by simpa using h)
abbrev W3:=Int×Int×Int
def scan {α:Type}(f:α→Nat→Option W3):List α→Nat→W3→W3
 | [],_,k=>k
 | x::t,i,k=>match f x i with
  | some w=>w
  | none=>scan f t (i+1) k
theorem scan_hit {α:Type}{f:α→Nat→Option W3}{x:α}{t:List α}{i:Nat}{k w:W3}(h:f x i=some w):scan f (x::t) i k=w:=by unfold scan;rw[h]
theorem scan_miss {α:Type}{f:α→Nat→Option W3}{x:α}{t:List α}{i:Nat}{k:W3}(h:f x i=none):scan f (x::t) i k=scan f t (i+1) k:=by rw[scan,h]
theorem scan_step {α:Type}{f:α→Nat→Option W3}{l:List α}{i:Nat}{k R:W3}(h:i<l.length) (H:scan f (l.drop i) i k=R):scan f (l[i]::l.drop (i+1)) i k=R:=by rwa [←List.drop_eq_getElem_cons h]
theorem scan_end {α:Type}{f:α→Nat→Option W3}{l:List α}{k R:W3}(H:scan f (l.drop l.length) l.length k=R):k=R:=by rwa [List.drop_length,scan] at H
def orK (w k:W3):W3:=if w.1=0 then k else w
theorem scan_orK {α:Type}{f:α→Nat→Option W3}(hf:∀x i w,f x i=some w→w.1≠0):∀(l:List α) (i:Nat) (k:W3),scan f l i k=orK (scan f l i (0,0,0)) k:=by
 intro l
 induction l with
 | nil=>intro i k;rfl
 | cons x t ih=>
  intro i k
  cases e:f x i with
  | some w=>rw[scan_hit e,scan_hit e,orK,if_neg (hf x i w e)]
  | none=>rw[scan_miss e,scan_miss e];exact ih _ _
theorem if_hit {c:Bool}{w:W3}{r:Option W3}(h:c=true):(if c then some w else r)=some w:=by rw[h];rfl
theorem if_miss {c:Bool}{w:W3}{r:Option W3}(h:c=false):(if c then some w else r)=r:=by rw[h];rfl
end Go.Proofs.YtioehfhdoohdmaaGreatDoor
namespace Go.Proofs.YtioehfhdoohdmaaGreatDoor
open Go.RowKit Go.Shelf
theorem res_wrong {fn:Func}{a:Tmp}(h:fn.results=#[.cell a 100]) {tmps:Array Value}{b:Nat}(hb:tmps.getD a undef=.pointer (some ⟨b,0,none⟩)) {W:World}{x y z:Value}(r0:W.cell? ⟨b,0,none⟩=some x) (r1:W.cell? ⟨b,1,none⟩=some y) (r2:W.cell? ⟨b,2,none⟩=some z) :
 (results fn tmps).run Tryz.prog W=.ok (.agg #[x,y,z]) W:=by
 have hb2:tmps[a]?.getD undef=.pointer (some ⟨b,0,none⟩):=by rw[←hb];simp
 simp[results,h,hb2,go_sem,r0,r1,r2]
end Go.Proofs.YtioehfhdoohdmaaGreatDoor
namespace Go.Proofs.YtioehfhdoohdmaaGreatDoor
open Go
def rsGo (s:ByteArray):Nat→Nat→List Int→Option (List Int)
 | 0,_,acc=>some acc
 | f+1,i,acc=>if i<s.size then (if goodAt s i then rsGo s f (i+(Utf8.decode s i).2) (acc++[((Utf8.decode s i).1:Int)]) else none) else some acc
def runesO (s:ByteArray):Option (List Int):=rsGo s s.size 0 []
theorem rsGo_end {s:ByteArray}{f i:Nat}{acc:List Int}(h:s.size≤i):rsGo s f i acc=some acc:=by
 cases f with
 | zero=>rfl
 | succ f=>rw[rsGo,if_neg (by omega)]
theorem rsGo_good {s:ByteArray}{f i r n:Nat}{acc:List Int}(h:i<s.size) (hg:goodAt s i=true) (hd:Utf8.decode s i=(r,n)):rsGo s (f+1) i acc=rsGo s f (i+n) (acc++[(r:Int)]):=by
 rw[rsGo,if_pos h,if_pos hg,hd]
theorem rsGo_bad {s:ByteArray}{f i:Nat}{acc:List Int}(h:i<s.size) (hg:goodAt s i=false):rsGo s (f+1) i acc=none:=by
 rw[rsGo,if_pos h,if_neg (by rw[hg];decide)]
def r6 (s:ByteArray) (i n r0 least:Nat):Option Nat:=if (seqGo s i n 1 128 191 r0).2.2=true∧least≤(seqGo s i n 1 128 191 r0).1∧runeB ((seqGo s i n 1 128 191 r0).1:Int)=true then some (seqGo s i n 1 128 191 r0).1 else none
def R6Ok (s:ByteArray) (i n:Nat) (o:Option Nat):Prop:=(∀r,o=some r→goodAt s i=true∧Utf8.decode s i=(r,n+1))∧(o=none→goodAt s i=false)
theorem r6_some {s:ByteArray}{i n r:Nat}(hn:1≤n) (hd:Utf8.decode s i=(r,n+1)):R6Ok s i n (some r):=
 ⟨(fun r' e=>by cases e;exact⟨good_or.2 (Or.inl (by rw[hd];show ¬ n+1=1;omega)),hd⟩),(fun e=>by cases e)⟩
theorem r6_none {s:ByteArray}{i n:Nat}(hd:(Utf8.decode s i).2=1) (hb:128≤B s i):R6Ok s i n none:=
 ⟨(fun r e=>by cases e),fun _=>by
  cases h:goodAt s i with
  | false=>rfl
  | true=>have:=good_or.1 h;omega⟩
theorem rune_nat {r:Nat}:runeB (r:Int)=true↔(r≤1114111∧(r<55296∨57343<r)):=by rw[runeB_iff];omega
theorem r6_one {s:ByteArray}{i:Nat}(h:192≤B s i∧B s i<224):R6Ok s i 1 (r6 s i 1 (B s i - 192) 128):=by
 have hq:seqGo s i 1 1 128 191 (B s i - 192)=if i+1<s.size∧128≤B s (i+1)∧B s (i+1)≤191 then ((B s i - 192)*64+B s (i+1) % 64,i+2,true) else (0,i+1,false):=by simp only[seqGo]
 unfold r6
 rw[hq]
 by_cases c:i+1<s.size∧128≤B s (i+1)∧B s (i+1)≤191
 ·simp only[if_pos c]
  by_cases k:128≤(B s i - 192)*64+B s (i+1) % 64
  ·rw[if_pos ⟨trivial,k,rune_nat.2 (by omega)⟩]
   refine r6_some (by omega) ?_
   rcases hc_of s i with ⟨a,b⟩ | ⟨a,b,d⟩ | ⟨a,b,d⟩ | ⟨a,b,d⟩ | ⟨a,b,d,e⟩
   ·omega
   ·rw[d];refine Prod.ext ?_ rfl;dsimp only;omega
   ·have q:=l3 b;omega
   ·have q:=l4 b;omega
   ·exact absurd ⟨by omega,(Seq2 _ _ _ _).2 ⟨by omega,by omega,c.2.1,c.2.2⟩⟩ b
  ·rw[if_neg (fun e=>k e.2.1)]
   refine r6_none ?_ (by omega)
   rcases hc_of s i with ⟨a,b⟩ | ⟨a,b,d⟩ | ⟨a,b,d⟩ | ⟨a,b,d⟩ | ⟨a,b,d,e,f⟩
   ·omega
   ·have q:=lead2 b;omega
   ·have q:=l3 b;omega
   ·have q:=l4 b;omega
   ·rw[f]
 ·simp only[if_neg c]
  rw[if_neg (fun e=>by cases e.1)]
  refine r6_none ?_ (by omega)
  rcases hc_of s i with ⟨a,b⟩ | ⟨a,b,d⟩ | ⟨a,b,d⟩ | ⟨a,b,d⟩ | ⟨a,b,d,e,f⟩
  ·omega
  ·have q:=lead2 b;exact absurd ⟨by omega,q.2.2.1,q.2.2.2⟩ c
  ·have q:=l3 b;omega
  ·have q:=l4 b;omega
  ·rw[f]
theorem r6_two {s:ByteArray}{i:Nat}(h:224≤B s i∧B s i<240):R6Ok s i 2 (r6 s i 2 (B s i - 224) 2048):=by
 have hq:seqGo s i 2 1 128 191 (B s i - 224)=if i+1<s.size∧128≤B s (i+1)∧B s (i+1)≤191 then (if i+2<s.size∧128≤B s (i+2)∧B s (i+2)≤191 then (((B s i - 224)*64+B s (i+1) % 64)*64+B s (i+2) % 64,i+3,true) else (0,i+2,false)) else (0,i+1,false):=by simp only[seqGo]
 have bad:∀x,x=none→(¬ (3≤s.size - i∧Seq 3 (B s i) (B s (i+1)) (B s (i+2)) (B s (i+3))))→R6Ok s i 2 x:=by
  rintro x rfl hno
  refine r6_none ?_ (by omega)
  rcases hc_of s i with ⟨a,b⟩ | ⟨a,b,d⟩ | ⟨a,b,d⟩ | ⟨a,b,d⟩ | ⟨a,b,d,e,f⟩
  ·omega
  ·have q:=lead2 b;omega
  ·exact absurd ⟨a,b⟩ hno
  ·have q:=l4 b;omega
  ·rw[f]
 unfold r6
 rw[hq]
 by_cases c:i+1<s.size∧128≤B s (i+1)∧B s (i+1)≤191
 ·simp only[if_pos c]
  by_cases c2:i+2<s.size∧128≤B s (i+2)∧B s (i+2)≤191
  ·simp only[if_pos c2]
   by_cases k:2048≤((B s i - 224)*64+B s (i+1) % 64)*64+B s (i+2) % 64∧runeB (((((B s i - 224)*64+B s (i+1) % 64)*64+B s (i+2) % 64:Nat)):Int)=true
   ·rw[if_pos ⟨trivial,k⟩]
    have k2:=rune_nat.1 k.2
    refine r6_some (by omega) ?_
    rcases hc_of s i with ⟨a,b⟩ | ⟨a,b,d⟩ | ⟨a,b,d⟩ | ⟨a,b,d⟩ | ⟨a,b,d,e⟩
    ·omega
    ·have q:=lead2 b;omega
    ·rw[d];refine Prod.ext ?_ rfl;dsimp only;omega
    ·have q:=l4 b;omega
    ·refine absurd ⟨by omega,(Seq3 _ _ _ _).2 ⟨c2.2.1,c2.2.2,?_⟩⟩ d
     have h1:=k.1
     clear hq bad b d e k
     by_cases e0:B s i=224
     ·left;omega
     ·by_cases e1:B s i=237
      ·right;left;omega
      ·right;right;omega
   ·rw[if_neg (fun e=>k e.2)]
    refine bad _ rfl (fun e=>k ?_)
    have q:=lead3 e.2
    rw[rune_nat]
    clear hq bad k e
    rcases q.2.2 with z | z | z <;> omega
  ·simp only[if_neg c2]
   rw[if_neg (fun e=>by cases e.1)]
   exact bad _ rfl (fun e=>c2 ⟨by omega,(lead3 e.2).1,(lead3 e.2).2.1⟩)
 ·simp only[if_neg c]
  rw[if_neg (fun e=>by cases e.1)]
  exact bad _ rfl (fun e=>c ⟨by omega,by rcases (lead3 e.2).2.2 with z | z | z <;> omega⟩)
theorem r6_three {s:ByteArray}{i:Nat}(h:240≤B s i∧B s i<248):R6Ok s i 3 (r6 s i 3 (B s i - 240) 65536):=by
 have hq:seqGo s i 3 1 128 191 (B s i - 240)=if i+1<s.size∧128≤B s (i+1)∧B s (i+1)≤191 then (if i+2<s.size∧128≤B s (i+2)∧B s (i+2)≤191 then (if i+3<s.size∧128≤B s (i+3)∧B s (i+3)≤191 then ((((B s i - 240)*64+B s (i+1) % 64)*64+B s (i+2) % 64)*64+B s (i+3) % 64,i+4,true) else (0,i+3,false)) else (0,i+2,false)) else (0,i+1,false):=by simp only[seqGo]
 have bad:∀x,x=none→(¬ (4≤s.size - i∧Seq 4 (B s i) (B s (i+1)) (B s (i+2)) (B s (i+3))))→R6Ok s i 3 x:=by
  rintro x rfl hno
  refine r6_none ?_ (by omega)
  rcases hc_of s i with ⟨a,b⟩ | ⟨a,b,d⟩ | ⟨a,b,d⟩ | ⟨a,b,d⟩ | ⟨a,b,d,e,f⟩
  ·omega
  ·have q:=lead2 b;omega
  ·have q:=l3 b;omega
  ·exact absurd ⟨a,b⟩ hno
  ·rw[f]
 unfold r6
 rw[hq]
 by_cases c:i+1<s.size∧128≤B s (i+1)∧B s (i+1)≤191
 ·simp only[if_pos c]
  by_cases c2:i+2<s.size∧128≤B s (i+2)∧B s (i+2)≤191
  ·simp only[if_pos c2]
   by_cases c3:i+3<s.size∧128≤B s (i+3)∧B s (i+3)≤191
   ·simp only[if_pos c3]
    by_cases k:65536≤(((B s i - 240)*64+B s (i+1) % 64)*64+B s (i+2) % 64)*64+B s (i+3) % 64∧runeB ((((((B s i - 240)*64+B s (i+1) % 64)*64+B s (i+2) % 64)*64+B s (i+3) % 64:Nat)):Int)=true
    ·rw[if_pos ⟨trivial,k⟩]
     have k2:=rune_nat.1 k.2
     refine r6_some (by omega) ?_
     rcases hc_of s i with ⟨a,b⟩ | ⟨a,b,d⟩ | ⟨a,b,d⟩ | ⟨a,b,d⟩ | ⟨a,b,d,e,f⟩
     ·omega
     ·have q:=lead2 b;omega
     ·have q:=l3 b;omega
     ·rw[d];refine Prod.ext ?_ rfl;dsimp only;omega
     ·refine absurd ⟨by omega,(Seq4 _ _ _ _).2 ⟨c2.2.1,c2.2.2,c3.2.1,c3.2.2,?_⟩⟩ e
      have h1:=k.1
      clear hq bad b d e k f
      by_cases e0:B s i=240
      ·left;omega
      ·by_cases e1:B s i=244
       ·right;left;omega
       ·right;right;omega
    ·rw[if_neg (fun e=>k e.2)]
     refine bad _ rfl (fun e=>k ?_)
     have q:=lead4 e.2
     rw[rune_nat]
     clear hq bad k e
     rcases q.2.2.2.2 with z | z | z <;> omega
   ·simp only[if_neg c3]
    rw[if_neg (fun e=>by cases e.1)]
    exact bad _ rfl (fun e=>c3 ⟨by omega,(lead4 e.2).2.2.1,(lead4 e.2).2.2.2.1⟩)
  ·simp only[if_neg c2]
   rw[if_neg (fun e=>by cases e.1)]
   exact bad _ rfl (fun e=>c2 ⟨by omega,(lead4 e.2).1,(lead4 e.2).2.1⟩)
 ·simp only[if_neg c]
  rw[if_neg (fun e=>by cases e.1)]
  exact bad _ rfl (fun e=>c ⟨by omega,by rcases (lead4 e.2).2.2.2.2 with z | z | z <;> omega⟩)
theorem r6_no {s:ByteArray}{i:Nat}(h:(128≤B s i∧B s i<192)∨248≤B s i):goodAt s i=false:=by
 have:=(r6_none (s:=s) (i:=i) (n:=1) ?_ (by omega)).2 rfl
 ·exact this
 ·rcases hc_of s i with ⟨a,b⟩ | ⟨a,b,d⟩ | ⟨a,b,d⟩ | ⟨a,b,d⟩ | ⟨a,b,d,e,f⟩
  ·omega
  ·have q:=lead2 b;omega
  ·have q:=l3 b;omega
  ·have q:=l4 b;omega
  ·rw[f]
end Go.Proofs.YtioehfhdoohdmaaGreatDoor
namespace Go.Proofs.YtioehfhdoohdmaaGreatDoor
open Go.RowKit Go.Shelf
structure WK (S:Nat→Prop) (W0:World) where
 w:World
 h:Keep S W0 w
theorem WK.cell {S:Nat→Prop}{W0:World}{p:Addr}{v:Value}(h:W0.cell? p=some v) (hs:¬ S p.block) (y:WK S W0):y.w.cell? p=some v:=(y.h.cell (cell_lt h) hs).trans h
theorem WK.frozen {S:Nat→Prop}{W0:World}{p:Addr}{v:Value}(h:W0.cell? p=some v) (hf:W0.frozen? p=false) (hs:¬ S p.block) (y:WK S W0):y.w.frozen? p=false:=(y.h.frozen (cell_lt h) hs).trans hf
def WK.of (S:Nat→Prop) (W0:World):WK S W0:=⟨W0,Keep.refl _ _⟩
instance WK.some (S:Nat→Prop) (W0:World):Nonempty (WK S W0):=⟨WK.of S W0⟩
theorem Keep.put {S:Nat→Prop}{a b:World}(h:Keep S a b) {k:Nat}(hk:k<a.heap.size→S k) (o:Obj):Keep S a (World.put b k o):=
 ⟨h.os,h.tape,h.output,by rw[put_size];exact h.size,fun i hi hs=>(put_block (fun e=>by subst e;exact hs (hk hi))).trans (h.block i hi hs)⟩
theorem Keep.below_next {S:Nat→Prop}{a b c:World}(h:Keep S a b) (k:Below b.heap.size b c):Keep S a c:=h.trans (Keep.of_below k S)
theorem MapIs.put_other {P:Program}{k:TypeId}{W:World}{b g:Nat}{l:List (Value×Value)}(h:MapIs P k W b l) (hg:b≠g) (o:Obj):MapIs P k (World.put W g o) b l:=h.of_block (put_block hg)
theorem MapIs.cell_ne {P:Program}{k:TypeId}{W:World}{b:Nat}{l:List (Value×Value)}(h:MapIs P k W b l) {p:Addr}{v:Value}(hc:W.cell? p=some v):p.block≠b:=by
 obtain⟨es,clock,hb,_⟩:=h
 intro e
 obtain⟨g,o,s⟩:=p
 dsimp only at e
 subst e
 simp[World.cell?,hb] at hc
theorem take_next {α:Type}{l:List α}{i:Nat}(h:i<l.length):l.take (i+1)=l.take i++[l[i]]:=by rw[List.take_add_one,List.getElem?_eq_getElem h];rfl
theorem any_take_map {α:Type}(f:α→Value×Value) (x:Value) (p:α→Bool) (hp:∀m,(f m).1=x↔p m=true) (l:List α):l.any p=false↔∀q∈l.map f,q.1≠x:=by
 rw[List.any_eq_false]
 constructor
 ·intro h q hq
  obtain⟨m,hm,rfl⟩:=List.mem_map.1 hq
  intro e
  exact h m hm ((hp m).1 e)
 ·intro h m hm e
  exact h _ (List.mem_map.2 ⟨m,hm,rfl⟩) ((hp m).2 e)
end Go.Proofs.YtioehfhdoohdmaaGreatDoor
