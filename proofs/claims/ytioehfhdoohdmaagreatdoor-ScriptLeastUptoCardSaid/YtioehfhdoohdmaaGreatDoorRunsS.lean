/- RunsS: SeqM, QuietR. -/
import Derived.RangeFuncNested
import Derived.Deep.Quiet
import Derived.OrdersIn
import Derived.RangeFuncCalls
import Derived.TacticsIn
set_option linter.unusedVariables false
set_option linter.unusedSimpArgs false
namespace Go.Proofs.YtioehfhdoohdmaaGreatDoor
open Go Go.RowKit
structure Stir (B:Nat) (It:Nat→Prop) (X Y:World):Prop where
 os:Y.os=X.os
 tape:Y.tape=X.tape
 output:Y.output=X.output
 size:X.heap.size≤Y.heap.size
 block:∀k,k<X.heap.size→¬ It k→(k<B∨∃o:Obj,X.heap[k]?=some o∧o.isCells=true)→Y.heap[k]?=X.heap[k]?
theorem Stir.of_below {B:Nat}{It:Nat→Prop}{X Y:World}(h:Below X.heap.size X Y):Stir B It X Y:=⟨h.os,h.tape,h.output,h.size,fun k hk _ _=>h.block k hk⟩
theorem Stir.mono {B B':Nat}{It It':Nat→Prop}{X Y:World}(h:Stir B It X Y) (hB:B'≤B) (hI:∀k,It k→It' k):Stir B' It' X Y:=
 ⟨h.os,h.tape,h.output,h.size,fun k hk hn hc=>h.block k hk (fun hh=>hn (hI k hh)) (hc.elim (fun hh=>Or.inl (by omega)) Or.inr)⟩
structure Round (Kp:World→World→Prop) (B:Nat) (It:Nat→Prop) (X Y:World):Prop where
 kp:Kp X Y
 walks:KeepsWalks X Y
 others:KeepsFrom B X Y
 its:∀k,It k→k<X.heap.size→Y.heap[k]?=X.heap[k]?
def Bears {β:Type}(Al:(Nat→Prop)→Prop) (B:Nat) (J:(Nat→Prop)→β→World→Prop):Prop:=
 (∀It s X Y,Al It→J It s X→Stir B It X Y→J It s Y)∧(∀It It' s X,Al It→Al It'→J It s X→(∀k,It' k→It k∨X.heap.size≤k)→J It' s X)
def SeqM {α:Type}(Al:(Nat→Prop)→Prop) (F:Fence) (n d:Nat) (P:Program) (g:Nat) (lb:Array Value) (encs:α→Array Value) (Mem:(Nat→Prop)→List α→α→World→World→Prop) (Kp:World→World→Prop) (S Sp:List α→Prop) (N:Nat) (w:World):Prop:=
 ∀(l:Nat) (J Jx:(Nat→Prop)→List α→World→Prop) (W:World),Below w.heap.size w W→Bears Al W.heap.size J→Bears Al W.heap.size Jx →
  (∀It pre x X W1,Al It→(∀k,It k→W.heap.size≤k)→J It pre X→Stir W.heap.size It X W1→Mem It pre x X W1→pre.length<N→YieldAt F (n - d) P l (encs x) W1 fun e W'=>
   (e=.returned (.bool true)∧J It (pre++[x]) W'∧Round Kp W.heap.size It W1 W')∨(e=.returned (.bool false)∧Jx It (pre++[x]) W'∧KeepsFrom W.heap.size W1 W')) →
  J (fun _=>False) [] W →
  CallsIn F n P g (#[.func (.yield l) #[] #[]]++lb) W fun e W'=>(∃v,e=.returned v)∧((∃It xs,Al It∧(∀k,It k→W.heap.size≤k)∧S xs∧J It xs W')∨(∃It pre,Al It∧(∀k,It k→W.heap.size≤k)∧Sp pre∧Jx It pre W'))
def postM {α:Type}(Kp:World→World→Prop) (B:Nat) (It:Nat→Prop) (I:(Nat→Prop)→List α→World→Prop) (Ix:Code→(Nat→Prop)→List α→World→Prop) (xs:List α) (W:World):Exit→Act→World→Prop
 | .normal,_,W'=>Round Kp B It W W'∧I It xs W'
 | .ret,_,W'=>KeepsFrom B W W'∧Ix .ret It xs W'
 | .exit id,_,W'=>KeepsFrom B W W'∧Ix (.exit id) It xs W'
 | .goto t,_,W'=>KeepsFrom B W W'∧Ix (.goto t) It xs W'
 | .panic _,_,_=>False
 | .outgrown,_,_=>False
theorem Stir.putObj {B:Nat}{It:Nat→Prop}{W:World}{l:Nat}{o:Obj}(o':Obj) (hB:B≤l) (hl:W.heap[l]?=some o) (ho:o.isCells=false):Stir B It W (W.putObj l o'):=
 ⟨rfl,rfl,rfl,by simp[World.putObj],fun k hk _ hc=>World.putObj_heap_other (by
  rintro rfl
  rcases hc with h | ⟨o2,h2,h3⟩
  ·omega
  ·rw[hl] at h2;cases h2;rw[ho] at h3;cases h3)⟩
theorem Round.putObj {Kp:World→World→Prop}{B:Nat}{It:Nat→Prop}{W:World}{l:Nat}{o:Obj}(o':Obj) (hn:¬ It l) (hl:W.heap[l]?=some o) (hw:o.isWalk=false) (hB:l<B) (hK:Kp W (W.putObj l o')):Round Kp B It W (W.putObj l o'):=
 ⟨hK,KeepsWalks.putObj _ hl hw,⟨by simp[World.putObj],fun k o2 hk ho2 hc2=>(World.putObj_heap_other (by omega)).trans ho2⟩,fun k hk hlt=>World.putObj_heap_other (by rintro rfl;exact hn hk)⟩
theorem Round.trans {Kp:World→World→Prop}(hKt:∀ {A B C:World},Kp A B→Kp B C→Kp A C) {B:Nat}{It:Nat→Prop}{X Y Z:World}(h:Round Kp B It X Y) (k:Round Kp B It Y Z):Round Kp B It X Z:=
 ⟨hKt h.kp k.kp,h.walks.trans k.walks,h.others.trans k.others,fun i hi hlt=>(k.its i hi (Nat.lt_of_lt_of_le hlt h.walks.size)).trans (h.its i hi hlt)⟩
variable {F : Fence} {n : Nat} {P : Program}
theorem wpIn_rangeFunc_M {α:Type}{Al:(Nat→Prop)→Prop}(hA0:Al (fun _=>False)) {d:Nat}{g:Operand}{ps:Array Tmp}{assign body:Code}{Q:Exit→Act→World→Prop}{a:Act}{w:World}
 (hro:F.round=none) (h1:1≤n) {gf:Nat} {lb:Array Value} (hg:a.eval g=.func (.func gf) #[] lb) (hFg:F.fn gf) (eg:∀args w,(callFunc gf args).run P w=.ok (.enter gf args) w)
 {encs:α→Array Value} {Mem:(Nat→Prop)→List α→α→World→World→Prop} {Kp:World→World→Prop} {S Sp:List α→Prop} {N:Nat} {w0:World} (hseq:SeqM Al F (n - 1) d P gf lb encs Mem Kp S Sp N w0) (hKt:∀ {A B C:World},Kp A B→Kp B C→Kp A C) (hKb:∀(W:World) (l:Nat) (o o':Obj),w.heap.size≤l→W.heap[l]?=some o→o.isCells=false→o.isWalk=false→Kp W (W.putObj l o')) (hb0:Below w0.heap.size w0 w) (hps:∀x,(encs x).size=ps.size)
 (I:(Nat→Prop)→List α→World→Prop) (Ix:Code→(Nat→Prop)→List α→World→Prop) (hI:Bears Al w.heap.size I) (hIx:∀c,Bears Al w.heap.size (Ix c)) (h0:I (fun _=>False) [] w)
 (hround:∀(l:Nat) (It:Nat→Prop) (pre:List α) (x:α) (X W:World) (K:Act→World→Prop),Al It→(∀k,It k→w.heap.size+2≤k)→I It pre X→Stir w.heap.size It X W→Mem It pre x X W→pre.length<N →
  (∀a' W',Round Kp (w.heap.size+2) It W W'→KeepsFrom w.heap.size W W'→(∀V,Stir w.heap.size It W' V→Round Kp (w.heap.size+2) It W' V→body.wpIn (F.inRound l) (n - 1 - d) P (postM Kp w.heap.size It I Ix (pre++[x]) V) a' V)→K a' W') →
  assign.wpIn (F.inRound l) (n - 1 - d) P (Exit.then K (fun _ _ _=>False)) { tmps:=(ps.zip (encs x)).foldl (fun t (p,v)=>t.setIfInBounds p v) a.tmps,defers:=[] } W)
 (hdone:∀(D:Nat) (It:Nat→Prop) (xs:List α) (W:World),Al It→w.heap.size≤D→S xs→I It xs W→W.heap[D]?=some (.deferred (some []))→Q .normal { a with defers:={ target:=.collected D,args:=#[] }::a.defers } W)
 (hstop:∀(D:Nat) (c:Code) (It:Nat→Prop) (pre:List α) (W:World),Al It→w.heap.size≤D→Sp pre→Ix c It pre W→W.heap[D]?=some (.deferred (some []))→c.wpIn F n P Q { a with defers:={ target:=.collected D,args:=#[] }::a.defers } W) :
 (Code.rangeFunc g ps assign body).wpIn F n P Q a w:=by
 refine wpIn_rangeFunc ?_
 intro fn hfn
 rw[hro]
 obtain⟨rec,hrec⟩:∃rec:LoopState→Option Code→Loop,rec=fun st pe=>{ state:=st,pending:=pe,fn,tmps:=a.tmps,params:=ps,assign,body,defers:=w.heap.size }:=⟨_,rfl⟩
 obtain⟨W1,hW1⟩:∃W1,(w.alloc (.deferred (some []))).alloc (.loop (rec .ready none))=W1:=⟨_,rfl⟩
 have hz1:W1.heap.size=w.heap.size+2:=by rw[←hW1];simp
 have hL1:W1.heap[w.heap.size+1]?=some (.loop (rec .ready none)):=by
  rw[←hW1];have:=World.alloc_heap_new (w.alloc (.deferred (some []))) (.loop (rec .ready none));rwa [World.size_alloc] at this
 have hK1:W1.heap[w.heap.size]?=some (.deferred (some [])):=by
  rw[←hW1];exact (Below.heap_alloc _ _ _ (by simp)).trans (World.alloc_heap_new w _)
 have hbw:Below w.heap.size w W1:=by rw[←hW1];exact ((Below.refl _ w).alloc (Nat.le_refl _) _).alloc (by simp) _
 have hI1:I (fun _=>False) [] W1:=hI.1 _ _ _ _ hA0 h0 (Stir.of_below hbw)
 have hb1:Below w0.heap.size w0 W1:=hb0.trans (hbw.mono hb0.size)
 refine⟨w.heap.size+1,[{ target:=.collected w.heap.size,args:=#[] }],W1,{ target:=.fn (.func gf) lb,args:=#[.func (.yield (w.heap.size+1)) #[] #[]] },W1,gf,
  #[.func (.yield (w.heap.size+1)) #[] #[]]++lb,W1,?_,?_,?_,?_,fun _=>h1,?_⟩
 ·rw[←hW1,hrec];exact run_enterLoop_outer _ _ _ _ _
 ·simp only[resolve,hg]
  simp[go_sem]
 ·intro f' hf';simp[Target.leads] at hf';subst hf';exact hFg
 ·simp[invoke,go_sem,eg]
 ·have hst:∀ {It:Nat→Prop} {X Y:World} {k:Nat},(∀i,It i→W1.heap.size≤i)→Stir W1.heap.size It X Y→k<w.heap.size+2→k<X.heap.size→Y.heap[k]?=X.heap[k]?:=
   fun hIt h hk hlt=>h.block _ hlt (fun hh=>by have:=hIt _ hh;omega) (Or.inl (by omega))
  refine (hseq (w.heap.size+1)
   (fun It pre W=>I It pre W∧W.heap[w.heap.size+1]?=some (.loop (rec .ready none))∧W.heap[w.heap.size]?=some (.deferred (some []))∧(∀i,It i→W1.heap.size≤i))
   (fun It pre W=>∃c,Ix c It pre W∧W.heap[w.heap.size+1]?=some (.loop (rec .done (some c)))∧W.heap[w.heap.size]?=some (.deferred (some []))∧(∀i,It i→W1.heap.size≤i))
   W1 hb1 ?_ ?_ ?_ ⟨hI1,hL1,hK1,fun _ h=>h.elim⟩).mono ?_
  ·refine⟨?_,?_⟩
   ·rintro It s X Y hal ⟨hi,hl,hk,hIt⟩ hS
    exact⟨hI.1 _ _ _ _ hal hi (hS.mono (by omega) (fun _ h=>h)),(hst hIt hS (by omega) (Array.getElem?_eq_some_iff.1 hl).1).trans hl,(hst hIt hS (by omega) (Array.getElem?_eq_some_iff.1 hk).1).trans hk,hIt⟩
   ·rintro It It' s X hal hal' ⟨hi,hl,hk,hIt⟩ hsub
    have hlt:=(Array.getElem?_eq_some_iff.1 hl).1
    exact⟨hI.2 It It' s X hal hal' hi hsub,hl,hk,fun i hi'=>(hsub i hi').elim (hIt i) (fun h=>by omega)⟩
  ·refine⟨?_,?_⟩
   ·rintro It s X Y hal ⟨c,hi,hl,hk,hIt⟩ hS
    exact⟨c,(hIx c).1 _ _ _ _ hal hi (hS.mono (by omega) (fun _ h=>h)),(hst hIt hS (by omega) (Array.getElem?_eq_some_iff.1 hl).1).trans hl,(hst hIt hS (by omega) (Array.getElem?_eq_some_iff.1 hk).1).trans hk,hIt⟩
   ·rintro It It' s X hal hal' ⟨c,hi,hl,hk,hIt⟩ hsub
    have hlt:=(Array.getElem?_eq_some_iff.1 hl).1
    exact⟨c,(hIx c).2 It It' s X hal hal' hi hsub,hl,hk,fun i hi'=>(hsub i hi').elim (hIt i) (fun h=>by omega)⟩
  ·rintro It pre x X W hal hItW ⟨hi,hl0,hk0,hIt⟩ hSt hmem hlen
   have hl:=(hst hIt hSt (by omega) (Array.getElem?_eq_some_iff.1 hl0).1).trans hl0
   have hk:=(hst hIt hSt (by omega) (Array.getElem?_eq_some_iff.1 hk0).1).trans hk0
   have hz0:=hb0.size
   have hy:=run_yield (P:=P) (args:=encs x) hl (by rw[hrec];exact hps x)
   rw[hrec] at hy
   refine⟨fn,_,assign,body,hy,roundIn_of_wpIn hfn (hround _ It pre x X W _ hal (fun k hk=>by have:=hIt k hk;omega) hi (hSt.mono (by omega) (fun _ h=>h)) hmem hlen ?_)⟩
   clear hy
   intro a' Wa hra hka hbody
   have hl1:=hka.same _ _ (by omega) hl rfl
   have hk1:=hka.same _ _ (Nat.le_refl _) hk rfl
   have hlt:w.heap.size+1<Wa.heap.size:=(Array.getElem?_eq_some_iff.1 hl1).1
   refine⟨_,run_beginRound hl1 (by rw[hrec]),?_⟩
   have hn1:¬ It (w.heap.size+1):=fun hh=>by have:=hIt _ hh;omega
   have hl2:(Wa.putObj (w.heap.size+1) (.loop { rec .ready none with state:=.busy })).heap[w.heap.size+1]?=some (.loop { rec .ready none with state:=.busy }):=World.putObj_heap_same hlt
   have hk2:(Wa.putObj (w.heap.size+1) (.loop { rec .ready none with state:=.busy })).heap[w.heap.size]?=some (.deferred (some [])):=(World.putObj_heap_other (by omega)).trans hk1
   have hrV:Round Kp (w.heap.size+2) It Wa (Wa.putObj (w.heap.size+1) (.loop { rec .ready none with state:=.busy })):=Round.putObj _ hn1 hl1 rfl (by omega) (hKb _ _ _ _ (by omega) hl1 rfl rfl)
   refine wpIn_mono (hbody _ (Stir.putObj _ (by omega) hl1 rfl) hrV) ?_
   have fin:∀(jump:Option Code) (W3:World),KeepsFrom w.heap.size (Wa.putObj (w.heap.size+1) (.loop { rec .ready none with state:=.busy })) W3 →
    (Instr.endRound (w.heap.size+1) jump).run P W3=.ok (.bool jump.isNone) (W3.putObj (w.heap.size+1) (.loop (rec (if jump.isNone then .ready else .done) jump))) ∧
    W3.heap[w.heap.size+1]?=some (.loop { rec .ready none with state:=.busy }) ∧
    (W3.putObj (w.heap.size+1) (.loop (rec (if jump.isNone then .ready else .done) jump))).heap[w.heap.size+1]?=some (.loop (rec (if jump.isNone then .ready else .done) jump)) ∧
    (W3.putObj (w.heap.size+1) (.loop (rec (if jump.isNone then .ready else .done) jump))).heap[w.heap.size]?=some (.deferred (some [])):=fun jump W3 hk3=>by
    have hl3:=hk3.same _ _ (by omega) hl2 rfl
    have:=run_endRound (P:=P) jump hl3
    rw[hrec] at this ⊢
    exact⟨this,by rw[hrec] at hl3;exact hl3,World.putObj_heap_same (Array.getElem?_eq_some_iff.1 hl3).1,(World.putObj_heap_other (by omega)).trans (hk3.same _ _ (Nat.le_refl _) hk2 rfl)⟩
   have up:∀ {X Y:World},Round Kp w.heap.size It X Y→Round Kp (w.heap.size+2) It X Y:=fun h=>⟨h.kp,h.walks,⟨h.others.size,fun k o hk ho hc=>h.others.same k o (by omega) ho hc⟩,h.its⟩
   have kf:∀ {W3:World} {o':Obj},KeepsFrom w.heap.size (Wa.putObj (w.heap.size+1) (.loop { rec .ready none with state:=.busy })) W3→W3.heap[w.heap.size+1]?=some (.loop { rec .ready none with state:=.busy })→KeepsFrom (w.heap.size+2) W (W3.putObj (w.heap.size+1) o'):=fun {W3 o'} h3 hl3=>
    hra.others.trans (hrV.others.trans ((show KeepsFrom (w.heap.size+2) _ W3 from ⟨h3.size,fun k o hk ho hc=>h3.same k o (by omega) ho hc⟩).trans ⟨by simp[World.putObj],fun k o hk ho hc=>(World.putObj_heap_other (by omega)).trans ho⟩))
   rintro e a3 W3 hp
   cases e with
   | normal=>
    obtain⟨hr3,hi3⟩:=hp
    obtain⟨hr,hl3,hl4,hk4⟩:=fin none W3 hr3.others
    rw[hz1]
    exact⟨_,_,hr,.inl ⟨rfl,⟨hI.1 _ _ _ _ hal hi3 (Stir.putObj _ (by omega) hl3 rfl),hl4,hk4,by rw[←hz1];exact hIt⟩,Round.trans (Kp:=Kp) hKt hra (Round.trans (Kp:=Kp) hKt hrV (Round.trans (Kp:=Kp) hKt (up hr3) (Round.putObj _ hn1 hl3 rfl (by omega) (hKb _ _ _ _ (by omega) hl3 rfl rfl))))⟩⟩
   | ret=>
    obtain⟨hk3,hi3⟩:=hp
    obtain⟨hr,hl3,hl4,hk4⟩:=fin (some .ret) W3 hk3
    exact⟨_,_,hr,.inr ⟨rfl,⟨.ret,(hIx _).1 _ _ _ _ hal hi3 (Stir.putObj _ (by omega) hl3 rfl),hl4,hk4,hIt⟩,by rw[hz1];exact kf hk3 (by exact hl3)⟩⟩
   | exit id=>
    obtain⟨hk3,hi3⟩:=hp
    obtain⟨hr,hl3,hl4,hk4⟩:=fin (some (.exit id)) W3 hk3
    exact⟨_,_,hr,.inr ⟨rfl,⟨.exit id,(hIx _).1 _ _ _ _ hal hi3 (Stir.putObj _ (by omega) hl3 rfl),hl4,hk4,hIt⟩,by rw[hz1];exact kf hk3 (by exact hl3)⟩⟩
   | goto t=>
    obtain⟨hk3,hi3⟩:=hp
    obtain⟨hr,hl3,hl4,hk4⟩:=fin (some (.goto t)) W3 hk3
    exact⟨_,_,hr,.inr ⟨rfl,⟨.goto t,(hIx _).1 _ _ _ _ hal hi3 (Stir.putObj _ (by omega) hl3 rfl),hl4,hk4,hIt⟩,by rw[hz1];exact kf hk3 (by exact hl3)⟩⟩
   | panic ch=>exact hp.elim
   | outgrown=>exact hp.elim
  ·rintro e W2 ⟨⟨v,rfl⟩,(⟨It,xs,hal,_,hS,hi,hl,hk,_⟩ | ⟨It,pre,hal,_,hSp,c,hi,hl,hk,_⟩)⟩
   ·exact⟨none,_,by have:=run_endLoop (P:=P) hl (by rw[hrec];simp);rw[hrec] at this;exact this,hdone _ It xs _ hal (Nat.le_refl _) hS (hI.1 _ _ _ _ hal hi (Stir.putObj _ (by omega) hl rfl)) ((World.putObj_heap_other (by omega)).trans hk)⟩
   ·exact⟨some c,_,by have:=run_endLoop (P:=P) hl (by rw[hrec];simp);rw[hrec] at this;exact this,hstop _ c It pre _ hal (Nat.le_refl _) hSp ((hIx c).1 _ _ _ _ hal hi (Stir.putObj _ (by omega) hl rfl)) ((World.putObj_heap_other (by omega)).trans hk)⟩
theorem Stir.grow {B:Nat}{It:Nat→Prop}{X Y:World}{row:Option Nat}(hg:X.grownBy Y row) (hr:∀r,row=some r→B≤r∧∃o:Obj,X.heap[r]?=some o∧o.isCells=false):Stir B It X Y:=
 ⟨hg.os,hg.tape,hg.output,hg.size,fun k hk _ hc=>hg.block k hk (fun e=>by
  obtain⟨h1,o,h2,h3⟩:=hr k e.symm
  rcases hc with h | ⟨o2,h4,h5⟩
  ·omega
  ·rw[h2] at h4;cases h4;rw[h3] at h5;cases h5)⟩
theorem Stir.trans {B:Nat}{It:Nat→Prop}{X Y Z:World}(h:Stir B It X Y) (k:Stir B It Y Z):Stir B It X Z:=
 ⟨k.os.trans h.os,k.tape.trans h.tape,k.output.trans h.output,Nat.le_trans h.size k.size,fun i hi hn hc=>by
  have e:=h.block i hi hn hc
  refine (k.block i (Nat.lt_of_lt_of_le hi h.size) hn (hc.elim Or.inl (fun ⟨o,h1,h2⟩=>Or.inr ⟨o,e.trans h1,h2⟩))).trans e⟩
theorem Stir.set {B:Nat}{It:Nat→Prop}{X Y:World}(h:Stir B It X Y) {p:Addr}(hp:It p.block) (v:Value):Stir B It X (Y.setCell p v):=
 ⟨h.os,h.tape,h.output,by rw[World.size_setCell];exact h.size,fun k hk hn hc=>(Below.heap_setCell _ _ _ _ (fun e=>hn (by have e2:k=p.block:=e;rw[e2];exact hp))).trans (h.block k hk hn hc)⟩
theorem Stir.blk {B:Nat}{It:Nat→Prop}{X Y:World}(h:Stir B It X Y) {b:Nat}{vs:Array Value}{t:TypeId}{fz:Nat×Nat}(hb:X.heap[b]?=some (.cells vs t fz)) (hn:¬ It b):Y.heap[b]?=some (.cells vs t fz):=
 (h.block b (Array.getElem?_eq_some_iff.1 hb).1 hn (Or.inr ⟨_,hb,rfl⟩)).trans hb
end Go.Proofs.YtioehfhdoohdmaaGreatDoor
namespace Go.Proofs.YtioehfhdoohdmaaGreatDoor
open Go
section
variable {n l : Nat} {P : Program} {ops : Array Oper} {md : Region.Mode} {C D : World → Prop}
def noDefer (ops:Array Oper):Bool:=ops.toList.all fun o=>match o.op with | .defer _=>false | _=>true
theorem noDefer_at {i:Nat}{o:Oper}(h:noDefer ops=true) (hi:ops[i]?=some o) (c):o.op≠.defer c:=by
 intro e
 have:=List.all_eq_true.1 h o (by rw[Array.mem_toList_iff];exact Array.mem_of_getElem? hi)
 rw[e] at this
 cases this
theorem wpInR_of_quiet {o:Oper}{a:Act}{K:Act→Prop}{K':Act→World→Prop}{Q':Exit→Act→World→Prop}{w:World}(hd:∀c,o.op≠.defer c) (hw:C w) (h:∀a w',C w'→K a→K' a w') (hh:o.quiet P a C K):o.wpIn (Fence.wide.inRound l) n P a w K' Q':=by
 obtain⟨v,h1,h2⟩:=hh
 have h3:=h1 w hw
 unfold Oper.quietAt at h3
 refine⟨fun _ _=>trivial,?_⟩
 rw[Oper.semAt_eq _ _ _ hd]
 generalize (execOp a.eval o).run P w=r at *
 cases r with
 | ok x w'=>
  cases x <;> simp only[Oper.quietUpon] at h3 <;> simp only[Oper.uponIn]
  case value u=>
   obtain⟨e1,e2⟩:=h3
   rw[e1,e2]
   exact h _ _ hw h2
  case skip=>
   obtain⟨e1,e2⟩:=h3
   rw[e1,←e2]
   exact h _ _ hw h2
  case enter f args=>
   obtain⟨e1,hc⟩:=h3
   rw[e1]
   exact⟨(fun hh=>by cases hh),CallsIn.inRound l (callsIn_wide.2 (hc.mono fun e w'' ⟨he,hw''⟩=>by subst he;exact h _ _ hw'' h2))⟩
 | halt x w'=>simp only[Oper.quietUpon] at h3
theorem wpAnyInR_of_quiet {Q:Act→Prop}{Q':Exit→Act→World→Prop}(hnd:noDefer ops=true) (hQ:∀a w,C w→Q a→Q' .normal a w):∀(fuel:Nat) (listed:Array Bool) (a:Act) (w:World),C w →
 wpAnyQ P md ops C Q fuel listed a→wpAnyIn (Fence.wide.inRound l) n P md ops Q' fuel listed a w
 | 0,_,_,_,hw,h=>⟨h.1,hQ _ _ hw h.2⟩
 | fuel+1,_,_,_,hw,h=>⟨fun h0=>hQ _ _ hw (h.1 h0),fun i hi=>by
  have hh:=h.2 i hi
  unfold qOp at hh
  unfold wpOpIn
  split
  ·rename_i ho;simp only[ho] at hh;exact wpAnyInR_of_quiet hnd hQ fuel _ _ _ hw hh
  ·rename_i o ho
   simp only[ho] at hh
   split
   ·rename_i hwa;simp only[hwa,if_true] at hh;exact wpInR_of_quiet (noDefer_at hnd ho) hw (fun a' w' hw'=>wpAnyInR_of_quiet hnd hQ fuel _ a' w' hw') hh
   ·rename_i hwa;simp only[hwa] at hh;exact⟨fun _ _=>trivial,wpAnyInR_of_quiet hnd hQ fuel _ _ _ hw hh⟩⟩
theorem wpIn_region_quietR {id:Nat}{Q:Exit→Act→World→Prop}{a:Act}{w:World}(hm:P.follows .mixedOrders=true) (hB:Region.lexB .any ops=true) (hnd:noDefer ops=true) (hC:C { w with drawn:=w.drawn+1 })
 (h:wpQuiet P ops C (fun a'=>∀w',C w'→Q .normal a' w') ops.toList a):(Code.region id ops true).wpIn (Fence.wide.inRound l) n P Q a w:=by
 simp only[Region.lexB,Bool.and_eq_true] at hB
 refine wpIn_region_any hm (wpAnyInR_of_quiet (Q:=fun a'=>∀w',C w'→Q .normal a' w') hnd (fun _ w' hw' h=>h w' hw') _ _ _ _ hC ?_)
 have:=wpAnyQ_lex (C:=C) (md:=.any) hB.1 ops.toList 0 (Array.replicate ops.size false) a (by simp) (by simpa using hB.2) h
 simpa using this
def Stores (P:Program) (C D:World→Prop) (o:Oper) (a:Act):Prop:=∀w,C w→∃w',(execOp a.eval o).run P w=.ok .skip w'∧D w'
def readsOnly (o:Oper):Bool:=match o.op with | .load .. | .fieldAddr .. | .indexAddr .. | .build .. | .move _ | .assign _ | .binOp .. | .unOp .. | .extract ..=>true | _=>false
theorem value_not_enter {s:Sem Value}{w w':World}{f:FuncId}{args:Array Value}:(do pure (Next.value (←s)):Sem Next).run P w≠.ok (.enter f args) w':=by
 intro h
 cases hs:s.run P w <;> simp[go_sem,hs,Result.andThen] at h
theorem readsOnly_enter {o:Oper}(h:readsOnly o=true) {ρ:Operand→Value}{w w':World}{f:FuncId}{args:Array Value}:(execOp ρ o).run P w≠.ok (.enter f args) w':=by
 unfold readsOnly at h
 unfold execOp
 cases ho:o.op <;> rw[ho] at h <;> first | (exact absurd h (by decide)) | (exact absurd h Bool.false_ne_true) | exact value_not_enter | (intro hh;simp[go_sem] at hh;done) | skip
def qS (P:Program) (ops:Array Oper) (C D:World→Prop) (s i:Nat) (K:Act→Prop) (a:Act):Prop:=
 match ops[i]? with
 | none=>K a
 | some o=>if Region.wanted o (yielded ops a.tmps) then (if i=s then Stores P C D o a∧K (a.put o.dst undef) else o.quiet P a C K) else K (a.put o.dst undef)
theorem qS_mono {s i:Nat}{a:Act}{K K':Act→Prop}(h:∀a,K a→K' a) (hh:qS P ops C D s i K a):qS P ops C D s i K' a:=by
 unfold qS at *
 split
 ·exact h _ (by simpa [*] using hh)
 ·rename_i o ho
  simp only[ho] at hh
  split
  ·rename_i hw
   simp only[hw,if_true] at hh
   split
   ·rename_i e;simp only[e,if_true] at hh;exact⟨hh.1,h _ hh.2⟩
   ·rename_i e;simp only[e,if_false] at hh;exact Oper.quiet_mono h hh
  ·rename_i hw;simp only[hw] at hh;exact h _ hh
def wpAnyS (P:Program) (md:Region.Mode) (ops:Array Oper) (C D:World→Prop) (s:Nat) (Q:Act→Prop):Nat→Array Bool→Act→Prop
 | 0,listed,a=>Region.ready md ops listed=[]∧Q a
 | fuel+1,listed,a=>
  (Region.ready md ops listed=[]→Q a) ∧
  ∀i∈Region.ready md ops listed,qS P ops C D s i (wpAnyS P md ops C D s Q fuel (listed.setIfInBounds i true)) a
def YieldsS (P:Program) (ops:Array Oper) (C D:World→Prop) (s i:Nat) (o:Oper) (v:Value) (a:Act):Prop:=
 (Region.wanted o (yielded ops a.tmps)=true∧((i≠s∧∀w,C w→o.quietAt P a C w v)∨(i=s∧v=undef∧Stores P C D o a))) ∨
 (Region.wanted o (yielded ops a.tmps)=false∧v=undef)
theorem YieldsS.qS {s i:Nat}{o:Oper}{v:Value}{a:Act}(hi:ops[i]?=some o) (hy:YieldsS P ops C D s i o v a) {K:Act→Prop}(h:K (a.put o.dst v)):qS P ops C D s i K a:=by
 unfold Proofs.YtioehfhdoohdmaaGreatDoor.qS
 simp only[hi]
 rcases hy with ⟨hw,⟨hne,hv⟩ | ⟨rfl,rfl,hv⟩⟩ | ⟨hw,rfl⟩
 ·simp only[hw,if_true,hne,if_false];exact⟨v,hv,h⟩
 ·simp only[hw,if_true];exact⟨hv,h⟩
 ·simp only[hw,Bool.false_eq_true,if_false];exact h
theorem YieldsS.of_same {s i:Nat}{o:Oper}{v:Value}{a a':Act}(hy:YieldsS P ops C D s i o v a) (he:execOp a'.eval o=execOp a.eval o)
 (hw:Region.wanted o (yielded ops a'.tmps)=Region.wanted o (yielded ops a.tmps)):YieldsS P ops C D s i o v a':=by
 unfold YieldsS Oper.quietAt Stores at *
 rw[he,hw]
 exact hy
theorem qS_put {s i j:Nat}{oi oj:Oper}{v:Value}(hj:ops[j]?=some oj) (hap:oi.apart ops oj=true)
 (hsi:∀cs b,oi.op≠.select cs b) (hsj:∀cs b,oj.op≠.select cs b) {K:Act→Prop} {a:Act}
 (hy:YieldsS P ops C D s i oi v a) (h:qS P ops C D s j K (a.put oi.dst v)) :
 qS P ops C D s j (fun a'=>YieldsS P ops C D s i oi v a'∧K (a'.put oi.dst v)) a:=by
 obtain⟨h1,h2,h3⟩:=Oper.apart_spec hap
 have keep:∀(a:Act),YieldsS P ops C D s i oi v a→∀u,YieldsS P ops C D s i oi v (a.put oj.dst u):=fun a hy u=>
  hy.of_same (execOp_put oi hsi a oj.dst u h3) (wanted_put oi a oj.dst u h3)
 unfold qS at *
 simp only[hj] at *
 rw[wanted_put oj a oi.dst v h1] at h
 split
 ·rename_i hw
  simp only[hw,if_true] at h
  split
  ·rename_i e
   simp only[e,if_true] at h
   obtain⟨hst,hn⟩:=h
   refine⟨?_,keep a hy _,by rw[←Act.put_comm a v undef h2];exact hn⟩
   unfold Stores at *
   rwa [execOp_put oj hsj a oi.dst v h1] at hst
  ·rename_i e
   simp only[e,if_false] at h
   obtain⟨u,hu,hn⟩:=h
   refine⟨u,fun w hw'=>?_,keep a hy u,by rw[←Act.put_comm a v u h2];exact hn⟩
   have:=hu w hw'
   unfold Oper.quietAt at *
   rwa [execOp_put oj hsj a oi.dst v h1] at this
 ·rename_i hw
  simp only[hw] at h
  exact⟨keep a hy _,by rw[←Act.put_comm a v undef h2];exact h⟩
theorem wpAnyS_first {Q:Act→Prop}{s i:Nat}{oi:Oper}{v:Value}(hi:ops[i]?=some oi) (hsel:∀(j:Nat) (o:Oper) cs b,ops[j]?=some o→o.op≠.select cs b) :
 ∀(fuel:Nat) (listed:Array Bool) (a:Act),
  (∀j oj,ops[j]?=some oj→j≠i→listed.getD j true=false→(∀e∈oj.after,Region.binds md e=true→e.on≠i)→oi.apart ops oj=true) →
  i∈Region.ready md ops listed→YieldsS P ops C D s i oi v a →
  wpAnyS P md ops C D s Q fuel (listed.setIfInBounds i true) (a.put oi.dst v)→wpAnyS P md ops C D s Q (fuel+1) listed a:=by
 intro fuel
 induction fuel with
 | zero=>
  intro listed a _ hr hy H
  refine⟨fun h=>(by rw[h] at hr;cases hr),fun j hj=>?_⟩
  by_cases hji:j=i
  ·subst hji;exact hy.qS hi H
  ·have:=ready_mono hj hji
   rw[H.1] at this
   cases this
 | succ fuel ih=>
  intro listed a hfree hr hy H
  refine⟨fun h=>(by rw[h] at hr;cases hr),fun j hj=>?_⟩
  by_cases hji:j=i
  ·subst hji;exact hy.qS hi H
  ·have h1:=H.2 j (ready_mono hj hji)
   obtain⟨hjun,oj,hoj,hall⟩:=mem_ready.1 hj
   have hnot:∀e∈oj.after,Region.binds md e=true→e.on≠i:=fun e he hb heq=>by
    have h1:=hall e he hb
    have h0:=(mem_ready.1 hr).1
    rw[heq] at h1
    rcases Nat.lt_or_ge i listed.size with h' | h'
    ·simp[h'] at h0 h1;rw[h0] at h1;cases h1
    ·simp[Array.getElem?_eq_none h'] at h1
   have h2:=qS_put hoj (hfree j oj hoj hji hjun hnot) (fun cs b=>hsel i oi cs b hi) (fun cs b=>hsel j oj cs b hoj) hy h1
   have hfree':∀k ok,ops[k]?=some ok→k≠i→(listed.setIfInBounds j true).getD k true=false →
    (∀e∈ok.after,Region.binds md e=true→e.on≠i)→oi.apart ops ok=true:=fun k ok hk hki hun hno=>by
    refine hfree k ok hk hki ?_ hno
    by_cases hjk:j=k
    ·subst hjk;exact hjun
    ·rw[getD_set_ne true hjk] at hun;exact hun
   refine qS_mono (fun a' h3=>ih (listed.setIfInBounds j true) a' hfree' (ready_mono hr (Ne.symm hji)) h3.1 ?_) h2
   rw[Array.setIfInBounds_comm _ _ hji]
   exact h3.2
theorem wpAnyS_lex {Q:Act→Prop}{st:Oper}(hs:Region.noSelect ops=true):∀(l:List Oper) (k:Nat) (listed:Array Bool) (a:Act),(∀j,(l++[st])[j]?=ops[k+j]?) →
 Region.lexFrom md ops (l++[st]).length k listed=true→wpQuiet P ops C (fun a'=>Region.wanted st (yielded ops a'.tmps)=true∧Stores P C D st a'∧Q (a'.put st.dst undef)) l a→wpAnyS P md ops C D (k+l.length) Q (l++[st]).length listed a
 | [],k,listed,a,hl,hB,h=>by
  obtain⟨h1,h2,h3⟩:=h
  have h0:ops[k]?=some st:=by simpa using (hl 0).symm
  simp only[List.nil_append,List.length_singleton,Region.lexFrom,Bool.and_eq_true] at hB
  obtain⟨⟨hr,hf⟩,hB'⟩:=hB
  exact wpAnyS_first h0 (Region.noSelect_spec hs) 0 listed a (Region.free_spec h0 hf) (by simpa using hr) (.inl ⟨h1,.inr ⟨rfl,rfl,h2⟩⟩) ⟨by simpa [Region.lexFrom] using hB',h3⟩
 | o::l,k,listed,a,hl,hB,h=>by
  have h0:ops[k]?=some o:=by simpa using (hl 0).symm
  simp only[List.cons_append,List.length_cons,Region.lexFrom,Bool.and_eq_true] at hB
  obtain⟨⟨hr,hf⟩,hB'⟩:=hB
  have hst:∃v,YieldsS P ops C D (k+(o::l).length) k o v a∧wpQuiet P ops C (fun a'=>Region.wanted st (yielded ops a'.tmps)=true∧Stores P C D st a'∧Q (a'.put st.dst undef)) l (a.put o.dst v):=by
   unfold wpQuiet at h
   by_cases hw:Region.wanted o (yielded ops a.tmps)=true
   ·simp only[hw,if_true] at h
    obtain⟨v,h1,h2⟩:=h
    exact⟨v,.inl ⟨hw,.inl ⟨by rw[List.length_cons];omega,h1⟩⟩,h2⟩
   ·simp only[hw] at h
    exact⟨undef,.inr ⟨by simpa using hw,rfl⟩,h⟩
  obtain⟨v,hy,hK⟩:=hst
  have ih:=wpAnyS_lex (st:=st) hs l (k+1) (listed.setIfInBounds k true) (a.put o.dst v) (fun j=>by have:=hl (j+1);simpa [Nat.add_assoc,Nat.add_comm 1 j] using this) hB' hK
  rw[show k+1+l.length=k+(o::l).length by rw[List.length_cons];omega] at ih
  exact wpAnyS_first h0 (Region.noSelect_spec hs) (l++[st]).length listed a (Region.free_spec h0 hf) (by simpa using hr) hy ih
def backB (ops:Array Oper):Bool:=ops.toList.zipIdx.all fun x=>x.1.after.all fun e=>decide (e.on<x.2)
theorem back_at {i:Nat}{o:Oper}(h:backB ops=true) (hi:ops[i]?=some o):∀e∈o.after,e.on<i:=by
 intro e he
 have hm:(o,i)∈ops.toList.zipIdx:=by
  rw[List.mem_zipIdx_iff_getElem?]
  simpa using hi
 have h1:=List.all_eq_true.1 h _ hm
 have h2:∀e∈o.after,decide (e.on<i)=true:=by
  first
   | exact fun e he=>Array.all_eq_true'.1 h1 e he
   | exact fun e he=>List.all_eq_true.1 h1 e he
 simpa using h2 e he
theorem ready_ne {listed:Array Bool}(hb:backB ops=true) (hz:listed.size=ops.size):∀i,i<ops.size→listed.getD i true=false→Region.ready md ops listed≠[]:=by
 intro i
 induction i using Nat.strongRecOn with
 | ind i ih=>
  intro hi hu hr
  have ho:ops[i]?=some ops[i]:=Array.getElem?_eq_getElem hi
  by_cases hall:∀e∈(ops[i]).after,Region.binds md e=true→listed.getD e.on false=true
  ·have:i∈Region.ready md ops listed:=mem_ready.2 ⟨hu,_,ho,hall⟩
   rw[hr] at this;cases this
  ·simp only[Classical.not_forall] at hall
   obtain⟨e,he,hbd,hn⟩:=hall
   have hlt:=back_at hb ho e he
   refine ih e.on hlt (by omega) ?_ hr
   have hes:e.on<listed.size:=by omega
   simpa [hes] using hn
theorem wpAnyInR_of_S {Q:Act→Prop}{Q':Exit→Act→World→Prop}{s:Nat}{st:Oper}(hs:ops[s]?=some st) (hnd:noDefer ops=true) (hb:backB ops=true) (hr:∀i o,ops[i]?=some o→i≠s→readsOnly o=true) (hwa:∀a:Act,Region.wanted st (yielded ops a.tmps)=true) (hDC:∀w,D w→C w) (hQ:∀a w,D w→Q a→Q' .normal a w) :
 ∀(fuel:Nat) (listed:Array Bool) (a:Act) (w:World),listed.size=ops.size→C w→(listed.getD s true=true→D w)→wpAnyS P md ops C D s Q fuel listed a→wpAnyIn (Fence.wide.inRound l) n P md ops Q' fuel listed a w:=by
 have hsl:=(Array.getElem?_eq_some_iff.1 hs).1
 have hend:∀(listed:Array Bool) (w:World),listed.size=ops.size→(listed.getD s true=true→D w)→Region.ready md ops listed=[]→D w:=fun listed w hz hD h0=>by
  cases hu:listed.getD s true with
  | true=>exact hD hu
  | false=>exact absurd h0 (ready_ne hb hz s hsl hu)
 intro fuel
 induction fuel with
 | zero=>intro listed a w hz hC hD h;exact⟨h.1,hQ _ _ (hend listed w hz hD h.1) h.2⟩
 | succ fuel ih=>
  intro listed a w hz hC hD h
  refine⟨fun h0=>hQ _ _ (hend listed w hz hD h0) (h.1 h0),fun i hi=>?_⟩
  have hh:=h.2 i hi
  have hz2:(listed.setIfInBounds i true).size=ops.size:=by rw[Array.size_setIfInBounds];exact hz
  unfold qS at hh
  unfold wpOpIn
  split
  ·rename_i ho
   obtain⟨_,o,ho2,_⟩:=mem_ready.1 hi
   rw[ho] at ho2;cases ho2
  ·rename_i o ho
   simp only[ho] at hh
   by_cases his:i=s
   ·obtain rfl:o=st:=by rw[his,hs] at ho;exact (Option.some.inj ho).symm
    have hwn:=hwa a
    simp only[hwn,if_true,his] at hh ⊢
    obtain⟨hst,hK⟩:=hh
    obtain⟨w',hrun,hD'⟩:=hst w hC
    refine⟨fun _ _=>trivial,?_⟩
    rw[Oper.semAt_eq _ _ _ (noDefer_at hnd ho),hrun]
    rw[his] at hz2
    exact ih _ _ _ hz2 (hDC _ hD') (fun _=>hD') hK
   ·have hD2:∀w2:World,w2=w→(listed.setIfInBounds i true).getD s true=true→D w2:=fun w2 e hg=>by
     rw[getD_set_ne true his] at hg;rw[e];exact hD hg
    split
    ·rename_i hwn
     simp only[hwn,if_true,his,if_false] at hh
     obtain⟨v,h1,h2⟩:=hh
     have h3:=h1 w hC
     unfold Oper.quietAt at h3
     refine⟨fun _ _=>trivial,?_⟩
     rw[Oper.semAt_eq _ _ _ (noDefer_at hnd ho)]
     have hne:=@readsOnly_enter P o (hr i o ho his) a.eval w
     generalize (execOp a.eval o).run P w=r at *
     cases r with
     | ok x w'=>
      cases x <;> simp only[Oper.quietUpon] at h3 <;> simp only[Oper.uponIn]
      case value u=>
       obtain⟨e1,e2⟩:=h3
       rw[e1,e2]
       exact ih _ _ _ hz2 hC (hD2 w rfl) h2
      case skip=>
       obtain⟨e1,e2⟩:=h3
       rw[e1,←e2]
       exact ih _ _ _ hz2 hC (hD2 w rfl) h2
      case enter f args=>exact absurd rfl hne
     | halt x w'=>simp only[Oper.quietUpon] at h3
    ·rename_i hwn
     simp only[hwn] at hh
     exact⟨fun _ _=>trivial,ih _ _ _ hz2 hC (hD2 w rfl) hh⟩
theorem wpQuiet_mono {Q Q':Act→Prop}(h:∀a,Q a→Q' a):∀(l:List Oper) (a:Act),wpQuiet P ops C Q l a→wpQuiet P ops C Q' l a
 | [],a,hh=>h a hh
 | o::l,a,hh=>by
  unfold wpQuiet at *
  split
  ·rename_i hw;simp only[hw,if_true] at hh;exact Oper.quiet_mono (fun a'=>wpQuiet_mono h l a') hh
  ·rename_i hw;simp only[hw] at hh;exact wpQuiet_mono h l _ hh
theorem wpIn_region_storeR {id:Nat}{Q:Exit→Act→World→Prop}{a:Act}{w:World}{l':List Oper}{st:Oper}(hm:P.follows .mixedOrders=true) (hB:Region.lexB .any (l'++[st]).toArray=true) (hnd:noDefer (l'++[st]).toArray=true) (hb:backB (l'++[st]).toArray=true) (hr:l'.all readsOnly=true)
 (hwa:∀a:Act,Region.wanted st (yielded (l'++[st]).toArray a.tmps)=true) (hDC:∀w,D w→C w) (hC:C { w with drawn:=w.drawn+1 })
 (h:wpQuiet P (l'++[st]).toArray C (fun a'=>Stores P C D st a'∧∀w',D w'→Q .normal (a'.put st.dst undef) w') l' a):(Code.region id (l'++[st]).toArray true).wpIn (Fence.wide.inRound l) n P Q a w:=by
 simp only[Region.lexB,Bool.and_eq_true] at hB
 have hs:((l'++[st]).toArray)[l'.length]?=some st:=by simp
 refine wpIn_region_any hm (wpAnyInR_of_S (C:=C) (D:=D) (s:=l'.length) (Q:=fun a'=>∀w',D w'→Q .normal a' w') hs hnd hb (fun i o ho hne=>?_) hwa hDC (fun _ w' hw' h=>h w' hw') _ _ _ _ (by simp) hC (fun hg=>?_) ?_)
 ·have hlt:=(Array.getElem?_eq_some_iff.1 ho).1
  simp only[List.size_toArray,List.length_append,List.length_singleton] at hlt
  rw[List.getElem?_toArray,List.getElem?_append_left (by omega)] at ho
  exact List.all_eq_true.1 hr o (List.mem_of_getElem? ho)
 ·simp at hg
 ·have:=wpAnyS_lex (C:=C) (D:=D) (P:=P) (md:=.any) (ops:=(l'++[st]).toArray) (st:=st) (Q:=fun a'=>∀w',D w'→Q .normal a' w') hB.1 l' 0 (Array.replicate (l'++[st]).toArray.size false) a (by simp) (by simpa using hB.2) (wpQuiet_mono (fun a' hh=>⟨hwa a',hh.1,hh.2⟩) l' a h)
  simpa using this
theorem wpIn_region_storeR_lit {id:Nat}{Q:Exit→Act→World→Prop}{a:Act}{w:World}{L:List Oper}(k:Nat) {st:Oper}(hlen:L.length=k+1) (hst:L[k]?=some st) (hm:P.follows .mixedOrders=true) (hB:Region.lexB .any L.toArray=true) (hnd:noDefer L.toArray=true) (hb:backB L.toArray=true) (hr:(L.take k).all readsOnly=true)
 (hwa:∀a:Act,Region.wanted st (yielded L.toArray a.tmps)=true) (hDC:∀w,D w→C w) (hC:C { w with drawn:=w.drawn+1 })
 (h:wpQuiet P L.toArray C (fun a'=>Stores P C D st a'∧∀w',D w'→Q .normal (a'.put st.dst undef) w') (L.take k) a):(Code.region id L.toArray true).wpIn (Fence.wide.inRound l) n P Q a w:=by
 have hk:L=L.take k++[st]:=by
  have h3:L.take (k+1)=L.take k++[st]:=by rw[List.take_add_one,hst];rfl
  rwa [List.take_of_length_le (by omega)] at h3
 generalize L.take k=l' at *
 subst hk
 exact wpIn_region_storeR hm hB hnd hb hr hwa hDC hC h
end
end Go.Proofs.YtioehfhdoohdmaaGreatDoor
