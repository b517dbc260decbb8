/- RowA: Row14, OpenTab. -/
import Derived.Test.YtioehfhdoohdmaaGreatDoorCards
import Derived.Test.YtioehfhdoohdmaaGreatDoorTie
import Derived.Test.YtioehfhdoohdmaaGreatDoorShelf
import Derived.WalkKit
import Derived.ProofKit
import Derived.OpenShut
import Derived.Deep.DeepHandedRow
import Derived.Lib.LaidTab
import Derived.Lib.LaidU8
import Derived.PinnedBridge
import Derived.Lay
import Derived.LaidOnce
import Derived.SevenTiedAt
import Derived.Test.YtioehfhdoohdmaaGreatDoorRows
import Derived.Test.YtioehfhdoohdmaaGreatDoorChkA
import Derived.ChangeSame
import Derived.ChangeSlices
import Derived.Deep.Fields
import Derived.Deep.Strs
set_option linter.unusedVariables false
set_option linter.unusedSimpArgs false
namespace Go.Proofs.YtioehfhdoohdmaaGreatDoor
open Go.ChangeShapes Go.WideShapes Go.ChangeAt Go.RowKit Go.Lib Go.Shelf
theorem own:ownKnob Tryz.prog.godebug=none:=by kernel_rfl
abbrev laidL:List (String×DataW Unit):=Rows.scriptOfUptoRow.laid
theorem u8x:U8Extra Tryz.prog Tryz.lays260_ren:=⟨by kernel_rfl,by kernel_rfl,by kernel_rfl,by kernel_rfl,by kernel_rfl,by kernel_rfl,by kernel_rfl⟩
theorem accept_eq:(Rows.laid_unicode_utf8_acceptRanges:DataW Unit)=acceptData:=by kernel_rfl
theorem tabs_of {W:World}(h:laidMet Tryz.prog laidL W):Lib.Utf8Tabs 0 1 W:=
 utf8Tabs_of_reads Tryz.lays260 u8x (Pinned.utf8First_eq ▸ Lib.laidMet.reads h (n := "unicode/utf8.first") (by simp [laidL, Rows.scriptOfUptoRow, Rows.laid_unicode_utf8_first])) (accept_eq ▸ Lib.laidMet.reads h (n := "unicode/utf8.acceptRanges") (by simp [laidL, Rows.scriptOfUptoRow]))
theorem witness_upto {H:Type}{enc:TypeId×Value→H}{C:Checked}{os:Os}{f:FuncId}{fn:Func}{s:OpenSpec}{conds:List PathCond}{apart:Bool}{laid:List (String×DataW Unit)}(modest:Bool) (w0:World) (args:Array Value) (hos:w0.os=os)
 (hsh:(w0.forCall (fun _ _=>0) ⟨#[],args,[]⟩).Shaped C.prog)
 (hok:Input.okWideB C.prog (w0.forCall (fun _ _=>0) ⟨#[],args,[]⟩) f ⟨#[],args,[]⟩=true)
 (hrow:s.preRow enc C.prog fn conds apart laid (w0.forCall (fun _ _=>0) ⟨#[],args,[]⟩).memory args) :
 ∃(w:World) (tape:Tape) (i:Input),w.os=os∧(w.forCall tape i).Shaped C.prog∧i.vars=[]∧Input.okWide C.prog (w.forCall tape i) .any w.heap.size f i ∧
  s.preRow enc C.prog fn conds apart laid (w.forCall tape i).memory i.args∧({ modest:=modest }:Assume).holds C.prog (lone (Frame.enter C.prog f i.args .normal) [] (w.forCall tape i)):=
 ⟨w0,fun _ _=>0,⟨#[],args,[]⟩,hos,hsh,(Input.okWide_of_okWideB (base:=0) hok).1,(Input.okWide_of_okWideB hok).2,hrow,by
  simp only[Assume.holds]
  exact⟨by simp,by simp,fun _=>Modest.zero,by simp,by simp⟩⟩
end Go.Proofs.YtioehfhdoohdmaaGreatDoor
namespace Go.Proofs.YtioehfhdoohdmaaGreatDoor
open Go.ChangeShapes Go.WideShapes Go.ChangeAt Go.RowKit Go.Lib Go.Shelf Go.Deep
theorem bulk_one {H:Type}(d:DataW H):1≤Rows.uptoBulk d:=by
 cases d with
 | lit l=>cases l <;> simp[Rows.uptoBulk]
 | _=>simp[Rows.uptoBulk]
theorem bulk_part {H:Type}{d:DataW H}:∀ {l:List (DataW H)},d∈l→Rows.uptoBulk d≤Rows.uptoBulkAll l
 | x::r,h=>by
  simp only[Rows.uptoBulkAll]
  rcases List.mem_cons.1 h with rfl | h
  ·omega
  ·have:=bulk_part h;omega
theorem bulk_len {H:Type}:∀l:List (DataW H),l.length≤Rows.uptoBulkAll l
 | []=>by simp
 | x::r=>by
  have h1:=bulk_one x
  have h2:=bulk_len r
  simp only[Rows.uptoBulkAll,List.length_cons]
  omega
theorem list_of {α:Type}{P:Nat→α→Prop}:∀n,(∀i,i<n→∃x,P i x)→∃l:List α,l.length=n∧∀i (h:i<l.length),P i l[i]
 | 0,_=>⟨[],rfl,fun i h=>absurd h (Nat.not_lt_zero _)⟩
 | n+1,h=>by
  obtain⟨l,hl,hp⟩:=list_of n (fun i hi=>h i (by omega))
  obtain⟨x,hx⟩:=h n (by omega)
  refine⟨l++[x],by simp[hl],fun i hi=>?_⟩
  by_cases hi':i<l.length
  ·rw[List.getElem_append_left hi'];exact hp i hi'
  ·obtain rfl:i=n:=by simp at hi;omega
   rw[List.getElem_append_right (by omega)]
   simpa using hx
section
variable {H : Type} {enc : TypeId × Value → H} {W : World} {sp : Nat → Bool} {held : Bool}
theorem rows_at {t e:TypeId}(ht:Tryz.prog.underlying t=some (.slice e)) {fuel:Nat}{cs:List Value}{x:DataW H×List MemPlace}(h:DataW.trod enc Tryz.prog W 0 sp held fuel t cs=some x) :
 ∃(o:Option Addr) (n c:Nat),cs=[.slice o n c]∧n≤maxLen∧n≤Rows.uptoBulk x.1 ∧
  ∀i,i<n→∃(a:Addr) (k:List Value) (y:DataW H×List MemPlace) (m:Nat),o=some a∧W.cells? 0 (a.add (i*Tryz.prog.cellsOf e)) (Tryz.prog.cellsOf e)=some k∧DataW.trod enc Tryz.prog W 0 sp held m e k=some y∧Rows.uptoBulk y.1≤Rows.uptoBulk x.1:=by
 rcases DataW.trod_slice ht h with ⟨rfl,rfl⟩ | ⟨a,len,cap,elems,rest,m,_,rfl,rfl,hb,hl,hm,hlen,hel,_,_⟩
 ·exact⟨none,0,0,rfl,Nat.zero_le _,Nat.zero_le _,fun i hi=>absurd hi (Nat.not_lt_zero _)⟩
 ·refine⟨some a,len,cap,rfl,by omega,?_,fun i hi=>?_⟩
  ·have:=bulk_len (elems.map (·.1))
   simp only[Rows.uptoBulk]
   rw[List.length_map] at this
   omega
  ·have hE:=hel i hi
   rw[List.getElem?_eq_getElem (by omega:i<elems.length)] at hE
   obtain⟨k,hk,hy⟩:=Option.bind_eq_some_iff.1 hE
   refine⟨a,k,elems[i],m,rfl,hk,hy,?_⟩
   have:=bulk_part (d:=elems[i].1) (l:=elems.map (·.1)) (List.mem_map_of_mem (List.getElem_mem _))
   simp only[Rows.uptoBulk]
   omega
theorem first_plain {a:Addr}{c:Nat}{k:List Value}(hc:0<c) (hk:W.cells? 0 (a.add (0*c)) c=some k):∃g off,a=⟨g,off,none⟩∧g<W.heap.size:=by
 obtain⟨_,hlen,hcell⟩:=World.cells?_some hk
 have h0:=hcell 0 hc
 rw[Nat.zero_mul,show (a.add 0).add 0=a by simp[Addr.add],List.getElem?_eq_getElem (by omega)] at h0
 have hs:=World.cell?_spot h0
 have hb:=World.block_lt_of_cell? W _ h0
 obtain⟨b,off,spot⟩:=a
 simp only at hs hb
 subst hs
 exact⟨b,off,rfl,hb⟩
set_option maxRecDepth 100000 in
theorem rows2 {t e:TypeId}{f0 f1:Field}(ht:Tryz.prog.underlying t=some (.slice e)) (hs:Tryz.prog.underlying e=some (.struct #[f0,f1])) (hone:oneCellFields Tryz.prog #[f0,f1]=true) (hC:Tryz.prog.cellsOf e=2)
 {fuel:Nat} {cs:List Value} {x:DataW H×List MemPlace} (h:DataW.trod enc Tryz.prog W 0 sp held fuel t cs=some x) :
 ∃(o:Option Addr) (n c:Nat),cs=[.slice o n c]∧n≤maxLen∧n≤Rows.uptoBulk x.1 ∧
  ∀i,i<n→∃(g off:Nat) (v0 v1:Value) (y0 y1:DataW H×List MemPlace) (m:Nat),o=some ⟨g,off,none⟩∧g<W.heap.size∧W.cell? ⟨g,off+i*2,none⟩=some v0∧W.cell? ⟨g,off+i*2+1,none⟩=some v1 ∧
   DataW.trod enc Tryz.prog W 0 sp held m f0.type [v0]=some y0∧DataW.trod enc Tryz.prog W 0 sp held m f1.type [v1]=some y1∧Rows.uptoBulk y0.1≤Rows.uptoBulk x.1∧Rows.uptoBulk y1.1≤Rows.uptoBulk x.1:=by
 obtain⟨o,n,c,rfl,hn,hb,hall⟩:=rows_at ht h
 refine⟨o,n,c,rfl,hn,hb,fun i hi=>?_⟩
 obtain⟨a,k,y,m,rfl,hk,hy,hby⟩:=hall i hi
 obtain⟨y0,y1,m',rfl,hl,h0,h1⟩:=trod_struct2 hs hy
 rw[hC] at hl hk
 match k,hl with
 | [v0,v1],_=>
  obtain⟨o0,k0⟩:=hone_of hone 0 f0 rfl
  obtain⟨o1,k1⟩:=hone_of hone 1 f1 rfl
  have hc:=(World.cells?_some hk).2.2
  have hc0:=hc 0 (by omega)
  have hc1:=hc 1 (by omega)
  obtain⟨a',k',_,_,ho',hk',_,_⟩:=hall 0 (by omega)
  cases ho'
  rw[hC] at hk'
  obtain⟨g,off,rfl,hg⟩:=first_plain (by omega) hk'
  simp only[Go.WideShapes.add_plain] at hc0 hc1
  refine⟨g,off,v0,v1,y0,y1,m',rfl,hg,by simpa using hc0,by simpa using hc1,by simpa [o0,k0] using h0,by simpa [o1,k1] using h1,?_,?_⟩
  ·simp only[Rows.uptoBulk,Rows.uptoBulkAll] at hby;omega
  ·simp only[Rows.uptoBulk,Rows.uptoBulkAll] at hby;omega
set_option maxRecDepth 100000 in
theorem rows3 {t e:TypeId}{f0 f1 f2:Field}(ht:Tryz.prog.underlying t=some (.slice e)) (hs:Tryz.prog.underlying e=some (.struct #[f0,f1,f2])) (hone:oneCellFields Tryz.prog #[f0,f1,f2]=true) (hC:Tryz.prog.cellsOf e=3)
 {fuel:Nat} {cs:List Value} {x:DataW H×List MemPlace} (h:DataW.trod enc Tryz.prog W 0 sp held fuel t cs=some x) :
 ∃(o:Option Addr) (n c:Nat),cs=[.slice o n c]∧n≤maxLen∧n≤Rows.uptoBulk x.1 ∧
  ∀i,i<n→∃(g off:Nat) (v0 v1 v2:Value) (y0 y1 y2:DataW H×List MemPlace) (m:Nat),o=some ⟨g,off,none⟩∧g<W.heap.size∧W.cell? ⟨g,off+i*3,none⟩=some v0∧W.cell? ⟨g,off+i*3+1,none⟩=some v1∧W.cell? ⟨g,off+i*3+2,none⟩=some v2 ∧
   DataW.trod enc Tryz.prog W 0 sp held m f0.type [v0]=some y0∧DataW.trod enc Tryz.prog W 0 sp held m f1.type [v1]=some y1∧DataW.trod enc Tryz.prog W 0 sp held m f2.type [v2]=some y2:=by
 obtain⟨o,n,c,rfl,hn,hb,hall⟩:=rows_at ht h
 refine⟨o,n,c,rfl,hn,hb,fun i hi=>?_⟩
 obtain⟨a,k,y,m,rfl,hk,hy,hby⟩:=hall i hi
 obtain⟨y0,y1,y2,m',rfl,hl,h0,h1,h2⟩:=trod_struct3 hs hy
 rw[hC] at hl hk
 match k,hl with
 | [v0,v1,v2],_=>
  obtain⟨o0,k0⟩:=hone_of hone 0 f0 rfl
  obtain⟨o1,k1⟩:=hone_of hone 1 f1 rfl
  obtain⟨o2,k2⟩:=hone_of hone 2 f2 rfl
  have hc:=(World.cells?_some hk).2.2
  have hc0:=hc 0 (by omega)
  have hc1:=hc 1 (by omega)
  have hc2:=hc 2 (by omega)
  obtain⟨a',k',_,_,ho',hk',_,_⟩:=hall 0 (by omega)
  cases ho'
  rw[hC] at hk'
  obtain⟨g,off,rfl,hg⟩:=first_plain (by omega) hk'
  simp only[Go.WideShapes.add_plain] at hc0 hc1 hc2
  exact⟨g,off,v0,v1,v2,y0,y1,y2,m',rfl,hg,by simpa using hc0,by simpa using hc1,by simpa using hc2,by simpa [o0,k0] using h0,by simpa [o1,k1] using h1,by simpa [o2,k2] using h2⟩
theorem spans_of {fuel:Nat}{cs:List Value}{x:DataW H×List MemPlace}(h:DataW.trod enc Tryz.prog W 0 sp held fuel 23 cs=some x) :
 ∃(o:Option Addr) (c:Nat) (l:List Span),cs=[.slice o l.length c]∧SpansAt W o l∧l.length≤maxLen∧l.length≤Rows.uptoBulk x.1:=by
 obtain⟨o,n,c,rfl,hn,hb,hall⟩:=rows2 Tryz.underlying23 Tryz.underlying137 (by kernel_rfl) (by kernel_rfl) h
 obtain⟨l,rfl,hl⟩:=list_of (P:=fun i (x:Span)=>∃g off,o=some ⟨g,off,none⟩∧g<W.heap.size∧W.cell? ⟨g,off+i*2,none⟩=some (.int .i32 x.1)∧W.cell? ⟨g,off+i*2+1,none⟩=some (.int .i32 x.2)) n (fun i hi=>by
  obtain⟨g,off,v0,v1,y0,y1,m,ho,hg,c0,c1,h0,h1,_,_⟩:=hall i hi
  obtain⟨a,e0,_⟩:=DataW.trod_int Tryz.underlying21 h0
  obtain⟨b,e1,_⟩:=DataW.trod_int Tryz.underlying21 h1
  cases e0;cases e1
  exact⟨(a,b),g,off,ho,hg,c0,c1⟩)
 exact⟨o,c,l,rfl,hl,hn,hb⟩
theorem marks_of {fuel:Nat}{cs:List Value}{x:DataW H×List MemPlace}(h:DataW.trod enc Tryz.prog W 0 sp held fuel 24 cs=some x) :
 ∃(o:Option Addr) (c:Nat) (l:List (Int×Int)),cs=[.slice o l.length c]∧MarksAt W o l∧l.length≤maxLen∧l.length≤Rows.uptoBulk x.1:=by
 obtain⟨o,n,c,rfl,hn,hb,hall⟩:=rows2 Tryz.underlying24 Tryz.underlying139 (by kernel_rfl) (by kernel_rfl) h
 obtain⟨l,rfl,hl⟩:=list_of (P:=fun i (x:Int×Int)=>∃g off,o=some ⟨g,off,none⟩∧g<W.heap.size∧W.cell? ⟨g,off+i*2,none⟩=some (.int .i32 x.1)∧W.cell? ⟨g,off+i*2+1,none⟩=some (.int .i64 x.2)) n (fun i hi=>by
  obtain⟨g,off,v0,v1,y0,y1,m,ho,hg,c0,c1,h0,h1,_,_⟩:=hall i hi
  obtain⟨a,e0,_⟩:=DataW.trod_int Tryz.underlying21 h0
  obtain⟨b,e1,_⟩:=DataW.trod_int Tryz.underlying3 h1
  cases e0;cases e1
  exact⟨(a,b),g,off,ho,hg,c0,c1⟩)
 exact⟨o,c,l,rfl,hl,hn,hb⟩
theorem pairs_of {fuel:Nat}{cs:List Value}{x:DataW H×List MemPlace}(h:DataW.trod enc Tryz.prog W 0 sp held fuel 25 cs=some x) :
 ∃(o:Option Addr) (c:Nat) (l:List (Int×Int×Int)),cs=[.slice o l.length c]∧PairsAt W o l∧l.length≤maxLen∧l.length≤Rows.uptoBulk x.1:=by
 obtain⟨o,n,c,rfl,hn,hb,hall⟩:=rows3 Tryz.underlying25 Tryz.underlying141 (by kernel_rfl) (by kernel_rfl) h
 obtain⟨l,rfl,hl⟩:=list_of (P:=fun i (x:Int×Int×Int)=>∃g off,o=some ⟨g,off,none⟩∧g<W.heap.size∧W.cell? ⟨g,off+i*3,none⟩=some (.int .i32 x.1)∧W.cell? ⟨g,off+i*3+1,none⟩=some (.int .i32 x.2.1)∧W.cell? ⟨g,off+i*3+2,none⟩=some (.int .i32 x.2.2)) n (fun i hi=>by
  obtain⟨g,off,v0,v1,v2,y0,y1,y2,m,ho,hg,c0,c1,c2,h0,h1,h2⟩:=hall i hi
  obtain⟨a,e0,_⟩:=DataW.trod_int Tryz.underlying21 h0
  obtain⟨b,e1,_⟩:=DataW.trod_int Tryz.underlying21 h1
  obtain⟨d,e2,_⟩:=DataW.trod_int Tryz.underlying21 h2
  cases e0;cases e1;cases e2
  exact⟨(a,b,d),g,off,ho,hg,c0,c1,c2⟩)
 exact⟨o,c,l,rfl,hl,hn,hb⟩
set_option maxRecDepth 100000 in
theorem maps_of {fuel:Nat}{cs:List Value}{x:DataW H×List MemPlace}(h:DataW.trod enc Tryz.prog W 0 sp held fuel 26 cs=some x) :
 ∃(o:Option Addr) (c:Nat) (l:List (Int×ByteArray)),cs=[.slice o l.length c]∧MapsAt W o l∧l.length≤maxLen∧l.length≤Rows.uptoBulk x.1∧∀y∈l,y.2.size≤Rows.uptoBulk x.1:=by
 obtain⟨o,n,c,rfl,hn,hb,hall⟩:=rows2 Tryz.underlying26 Tryz.underlying143 (by kernel_rfl) (by kernel_rfl) h
 obtain⟨l,rfl,hl⟩:=list_of (P:=fun i (z:Int×ByteArray)=>(∃g off,o=some ⟨g,off,none⟩∧g<W.heap.size∧W.cell? ⟨g,off+i*2,none⟩=some (.int .i32 z.1)∧W.cell? ⟨g,off+i*2+1,none⟩=some (.string z.2)∧z.2.size≤maxLen)∧z.2.size≤Rows.uptoBulk x.1) n (fun i hi=>by
  obtain⟨g,off,v0,v1,y0,y1,m,ho,hg,c0,c1,h0,h1,_,hb1⟩:=hall i hi
  obtain⟨a,e0,_⟩:=DataW.trod_int Tryz.underlying21 h0
  obtain⟨b,e1,rfl,hz⟩:=DataW.trod_string Tryz.underlying9 h1
  cases e0;cases e1
  refine⟨(a,b),⟨g,off,ho,hg,c0,c1,hz⟩,?_⟩
  show b.size≤_
  have e9:b.data.toList.length=b.size:=by rw[Array.length_toList];rfl
  simp only[Rows.uptoBulk,e9] at hb1
  omega)
 refine⟨o,c,l,rfl,fun i hi=>(hl i hi).1,hn,hb,fun y hy=>?_⟩
 obtain⟨i,hi,rfl⟩:=List.getElem_of_mem hy
 exact (hl i hi).2
set_option maxRecDepth 100000 in
theorem scripts_of {fuel:Nat}{cs:List Value}{x:DataW H×List MemPlace}(h:DataW.trod enc Tryz.prog W 0 sp held fuel 22 cs=some x) :
 ∃(o:Option Addr) (c:Nat) (l:List (ByteArray×List Span)),cs=[.slice o l.length c]∧ScriptsAt W o l∧l.length≤maxLen∧l.length≤Rows.uptoBulk x.1∧∀y∈l,y.1.size≤Rows.uptoBulk x.1∧y.2.length≤Rows.uptoBulk x.1:=by
 obtain⟨o,n,c,rfl,hn,hb,hall⟩:=rows2 Tryz.underlying22 Tryz.underlying128 (by kernel_rfl) (by kernel_rfl) h
 obtain⟨l,rfl,hl⟩:=list_of (P:=fun i (z:ByteArray×List Span)=>(∃g off so sc,o=some ⟨g,off,none⟩∧g<W.heap.size∧W.cell? ⟨g,off+i*2,none⟩=some (.string z.1)∧W.cell? ⟨g,off+i*2+1,none⟩=some (.slice so z.2.length sc)∧SpansAt W so z.2∧z.1.size≤maxLen∧z.2.length≤maxLen)∧z.1.size≤Rows.uptoBulk x.1∧z.2.length≤Rows.uptoBulk x.1) n (fun i hi=>by
  obtain⟨g,off,v0,v1,y0,y1,m,ho,hg,c0,c1,h0,h1,hb0,hb1⟩:=hall i hi
  obtain⟨b,e0,rfl,hz⟩:=DataW.trod_string Tryz.underlying9 h0
  obtain⟨so,sc,ls,e1,hs,hm,hlb⟩:=spans_of h1
  cases e0;cases e1
  refine⟨(b,ls),⟨g,off,so,sc,ho,hg,c0,c1,hs,hz,hm⟩,?_,by show ls.length≤_;omega⟩
  show b.size≤_
  have e9:b.data.toList.length=b.size:=by rw[Array.length_toList];rfl
  simp only[Rows.uptoBulk,e9] at hb0
  omega)
 refine⟨o,c,l,rfl,fun i hi=>(hl i hi).1,hn,hb,fun y hy=>?_⟩
 obtain⟨i,hi,rfl⟩:=List.getElem_of_mem hy
 exact (hl i hi).2
set_option maxRecDepth 100000 in
theorem open_tables {base:Nat}{v:Value}{d:DataW H}{ps:List MemPlace}(hval:Value.okWide Tryz.prog W .any base 28 v) (h:DataW.Trod enc Tryz.prog W 0 sp held 28 v d ps) :
 ∃(T:Tab) (a:TAddr),v=.agg (tabCells T a)∧TabAt W T a∧(Rows.uptoBulk d≤1048576→TabRoom T):=by
 obtain⟨cs,rfl,hsz⟩:=okWide_struct Tryz.underlying28 hval
 obtain⟨fuel,hf⟩:=h
 rw[show Tryz.prog.cellsOf 28=8 by kernel_rfl] at hsz
 obtain⟨xs,n,_,hx,_,hlen,hfd⟩:=DataW.trod_struct Tryz.underlying28 hf
 obtain⟨cs⟩:=cs
 match xs,hlen,cs,hsz with
 | [y0,y1,y2,y3,y4,y5,y6,y7],_,[v0,v1,v2,v3,v4,v5,v6,v7],_=>
  have k0:Tryz.prog.cellsOf 22=1:=by kernel_rfl
  have k1:Tryz.prog.cellsOf 23=1:=by kernel_rfl
  have k2:Tryz.prog.cellsOf 24=1:=by kernel_rfl
  have k3:Tryz.prog.cellsOf 25=1:=by kernel_rfl
  have k4:Tryz.prog.cellsOf 26=1:=by kernel_rfl
  have h0:=hfd 0 _ rfl
  have h1:=hfd 1 _ rfl
  have h2:=hfd 2 _ rfl
  have h3:=hfd 3 _ rfl
  have h4:=hfd 4 _ rfl
  have h5:=hfd 5 _ rfl
  have h6:=hfd 6 _ rfl
  have h7:=hfd 7 _ rfl
  simp only[k0,k1,k2,k3,k4,Value.cells,List.drop_zero,List.drop_succ_cons,List.take_succ_cons,List.take_zero,List.getElem?_cons_zero,List.getElem?_cons_succ] at h0 h1 h2 h3 h4 h5 h6 h7
  obtain⟨o0,c0,l0,e0,a0,m0,b0,z0⟩:=scripts_of h0
  obtain⟨o1,c1,l1,e1,a1,m1,b1⟩:=spans_of h1
  obtain⟨o2,c2,l2,e2,a2,m2,b2⟩:=marks_of h2
  obtain⟨o3,c3,l3,e3,a3,m3,b3⟩:=pairs_of h3
  obtain⟨o4,c4,l4,e4,a4,m4,b4,z4⟩:=maps_of h4
  obtain⟨o5,c5,l5,e5,a5,m5,b5,z5⟩:=maps_of h5
  obtain⟨o6,c6,l6,e6,a6,m6,b6⟩:=spans_of h6
  obtain⟨o7,c7,l7,e7,a7,m7,b7⟩:=spans_of h7
  cases e0;cases e1;cases e2;cases e3;cases e4;cases e5;cases e6;cases e7
  refine⟨⟨l0,l1,l2,l3,l4,l5,l6,l7⟩,⟨o0,o1,o2,o3,o4,o5,o6,o7,c0,c1,c2,c3,c4,c5,c6,c7⟩,rfl,?tab,fun hb=>?room⟩
  case tab=>constructor <;> assumption
  case room=>
   have hd:d=.agg [y0.1,y1.1,y2.1,y3.1,y4.1,y5.1,y6.1,y7.1]:=by
    have:=congrArg Prod.fst hx
    simpa using this
   subst hd
   simp only[Rows.uptoBulk,Rows.uptoBulkAll] at hb
   refine⟨fun x hx=>?_,fun x hx=>?_,fun x hx=>⟨?_,?_⟩,by show l0.length≤_;omega,by show l1.length≤_;omega,by show l2.length≤_;omega,by show l3.length≤_;omega,by show l4.length≤_;omega,by show l5.length≤_;omega,by show l6.length≤_;omega,by show l7.length≤_;omega⟩
   ·have:=z4 x hx;omega
   ·have:=z5 x hx;omega
   ·have:=(z0 x hx).1;omega
   ·have:=(z0 x hx).2;omega
end
end Go.Proofs.YtioehfhdoohdmaaGreatDoor
