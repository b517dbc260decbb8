/- T6P: T6dP, T6gP, T6iP, T6jP, T6k2P, T6k1P, T6k0, T6mP. -/
import Derived.Test.YtioehfhdoohdmaaGreatDoorTabA
import Derived.Laws.Bits64b
set_option linter.unusedVariables false
set_option linter.unusedSimpArgs false
namespace Go.Proofs.YtioehfhdoohdmaaGreatDoor
open Go.RowKit Go.Shelf BigFrame
def dropM (D:List Span) (x:Int×Int) (i:Nat):Option W3:=if ofB x.1 D then some (37,3,(i:Int)) else none
def dropP (D:List Span) (x:Int×Int×Int) (i:Nat):Option W3:=if ofB x.1 D then some (37,4,(i:Int)) else if ofB x.2.1 D then some (37,4,(i:Int)) else if ofB x.2.2 D then some (37,4,(i:Int)) else none
def dropF (n:Int) (D:List Span) (x:Int×ByteArray) (i:Nat):Option W3:=if ofB x.1 D then some (37,n,(i:Int)) else none
def dropsW (T:Tab):W3:=scan (dropM T.drops) T.marks 0 (scan (dropP T.drops) T.pairs 0 (scan (dropF 5 T.drops) T.folds 0 (scan (dropF 6 T.drops) T.looks 0 (0,0,0))))
end Go.Proofs.YtioehfhdoohdmaaGreatDoor
namespace Go.Proofs.YtioehfhdoohdmaaGreatDoor
open Go.RowKit Go.Shelf
def pairM (T:Tab) (x:Int×Int×Int) (i:Nat):Option W3:=if markB T x.1 then some (32,4,(i:Int)) else if markB T x.2.1 then some (32,4,(i:Int)) else if !markB T x.2.2 then some (32,4,(i:Int)) else none
def chainGo (T:Tab):Nat→Nat→Int→Int
 | 0,_,_=>-1
 | k+1,i,n=>if wholeN T (T.pairs.getD i (0,0,0)).2.1<0 then n else chainGo T k (wholeN T (T.pairs.getD i (0,0,0)).2.1).toNat (n+1)
def chainN (T:Tab) (i:Nat):Int:=chainGo T T.pairs.length i 1
def chainM (T:Tab) (x:Int×Int×Int) (i:Nat):Option W3:=if decide (chainN T i<0) then some (33,4,(i:Int)) else if decide (4<chainN T i) then some (34,4,(i:Int)) else none
def pairsW (T:Tab):W3:=scan (pairM T) T.pairs 0 (scan (chainM T) T.pairs 0 (0,0,0))
theorem firstGo_lt {α:Type}(p:α→Bool):∀(l:List α) (i:Nat),firstGo p l i=-1∨((i:Int)≤firstGo p l i∧firstGo p l i<((i+l.length:Nat):Int)):=by
 intro l
 induction l with
 | nil=>intro i;exact Or.inl rfl
 | cons x t ih=>
  intro i
  unfold firstGo
  by_cases h:p x=true
  ·rw[if_pos h];exact Or.inr ⟨Int.le_refl _,by simp only[List.length_cons];omega⟩
  ·rw[if_neg h]
   rcases ih (i+1) with e | ⟨e1,e2⟩
   ·exact Or.inl e
   ·exact Or.inr ⟨by omega,by simp only[List.length_cons];omega⟩
theorem firstN_lt {α:Type}(p:α→Bool) (l:List α):firstN p l=-1∨(0≤firstN p l∧firstN p l<(l.length:Int)):=by
 have:=firstGo_lt p l 0
 rw[Nat.zero_add] at this
 exact this
end Go.Proofs.YtioehfhdoohdmaaGreatDoor
namespace Go.Proofs.YtioehfhdoohdmaaGreatDoor
open Go.RowKit Go.Shelf BigFrame
def bnd6:Nat→Nat
 | 0=>2097152
 | 1=>32768
 | 2=>512
 | _=>8
theorem bnd6_step {f r b:Nat}(h:r<bnd6 (f+1)) (hf:f≤2) (hb:b<64):r*64+b<bnd6 f:=by
 match f,hf with
 | 0,_=>simp[bnd6] at h ⊢;omega
 | 1,_=>simp[bnd6] at h ⊢;omega
 | 2,_=>simp[bnd6] at h ⊢;omega
theorem bnd6_le {f r:Nat}(h:r<bnd6 f):r<2097152:=by
 unfold bnd6 at h;split at h <;> omega
def Runes6Post (W:World) (o:Option (List Int)) (e:Ending) (w':World):Prop:=∃v:Value,e=.returned (.tuple #[v,.bool o.isSome])∧w'.ownsRow W.heap.size 21 1 v (o.getD []).length ((o.getD []).map (.int .i32))∧Below W.heap.size W w'
theorem runes6_no {W w':World}{o:Option (List Int)}(h:none=o) (hB:Below W.heap.size W w'):Runes6Post W o (.returned (.tuple #[.slice none 0 0,.bool false])) w':=by
 subst h
 exact⟨_,rfl,⟨rfl,Or.inl ⟨rfl,rfl⟩⟩,hB⟩
theorem runes6_yes {W w':World}{o:Option (List Int)}{l:List Int}{v:Value}(h:some l=o) (ho:w'.ownsRow W.heap.size 21 1 v l.length (l.map (.int .i32))) (hB:Below W.heap.size W w'):Runes6Post W o (.returned (.tuple #[v,.bool true])) w':=by
 subst h
 exact⟨_,rfl,ho,hB⟩
theorem info_rune:(Tryz.prog.info? 21).map (fun i=>(i.zero,i.size,i.bytes))=some (some (.int .i32 0),1,4):=by kernel_rfl
theorem rune_snoc {w:World}{B:Nat}{v:Value}{acc:List Int}{r:Int}(h:w.ownsRow B 21 1 v (acc.length+1) (acc.map (.int .i32)++[.int .i32 r])):w.ownsRow B 21 1 v (acc++[r]).length ((acc++[r]).map (.int .i32)):=by
 rw[List.length_append,List.map_append];exact h
end Go.Proofs.YtioehfhdoohdmaaGreatDoor
namespace Go.Proofs.YtioehfhdoohdmaaGreatDoor
open Go.RowKit Go.Shelf BigFrame
structure TabSmall (T:Tab):Prop where
 pairs:T.pairs.length≤10000
 folds:∀x∈T.folds,x.2.size≤1048576
 looks:∀x∈T.looks,x.2.size≤1048576
def rnL (s:ByteArray):List Int:=(runesO s).getD []
def setsB (s:ByteArray):Bool:=(rnL s).any setB
def scriptM (x:ByteArray×List Span) (i:Nat):Option W3:=if scriptE x != 0 then some (scriptE x,1,(i:Int)) else none
def markM (x:Int×Int) (i:Nat):Option W3:=if !runeB x.1 then some (12,3,(i:Int)) else if decide (x.2<1) then some (30,3,(i:Int)) else if decide (254<x.2) then some (30,3,(i:Int)) else none
def pairF (x:Int×Int×Int) (i:Nat):Option W3:=if !runeB x.1 then some (12,4,(i:Int)) else if !runeB x.2.1 then some (12,4,(i:Int)) else if !runeB x.2.2 then some (12,4,(i:Int)) else none
def mapM (n:Int) (x:Int×ByteArray) (i:Nat):Option W3:=if !runeB x.1 then some (12,n,(i:Int)) else if !(runesO x.2).isSome then some (35,n,(i:Int)) else if decide (((rnL x.2).length:Int)<1) then some (35,n,(i:Int)) else if decide ((4:Int)<((rnL x.2).length:Int)) then some (35,n,(i:Int)) else none
def mapsW (n:Int) (l:List (Int×ByteArray)):W3:=scan (mapM n) l 0 (0,0,0)
def spansW (n:Int) (l:List Span):W3:=if (spansE l).1=0 then (0,0,0) else ((spansE l).1,n,(spansE l).2)
theorem spansW_eq (n:Int) (l:List Span):wrV n (spansE l)=wV (spansW n l):=by unfold wrV spansW wV;split <;> rfl
def formsW (T:Tab):W3:=scan scriptM T.scripts 0 (orK (spansW 2 T.common) (scan markM T.marks 0 (scan pairF T.pairs 0 (orK (mapsW 5 T.folds) (orK (mapsW 6 T.looks) (orK (spansW 7 T.drops) (spansW 8 T.allowed)))))))
theorem orK_no {x k:W3}(h:x.1=0):orK x k=k:=if_pos h
theorem orK_yes {x k:W3}(h:¬ x.1=0):orK x k=x:=if_neg h
end Go.Proofs.YtioehfhdoohdmaaGreatDoor
namespace Go.Proofs.YtioehfhdoohdmaaGreatDoor
open Go.RowKit Go.Shelf BigFrame
def eqS (x q:ByteArray×List Span):Bool:=x.1.toList == q.1.toList
def eqM (x q:Int×Int):Bool:=x.1 == q.1
def eqP (x q:Int×Int×Int):Bool:=x.1 == q.1 || (x.2.1 == q.2.1 && x.2.2 == q.2.2)
def twM {α:Type}(eq:α→α→Bool) (n:Int) (l:List α) (x:α) (i:Nat):Option W3:=if (l.take i).any (eq x) then some (14,n,(i:Int)) else none
def twF (n:Int) (l:List (Int×ByteArray)) (x:Int×ByteArray) (i:Nat):Option W3:=if decide (fromN l x.1<(i:Int)) then some (14,n,(i:Int)) else none
def twiceW (T:Tab):W3:=scan (twM eqS 1 T.scripts) T.scripts 0 (scan (twM eqM 3 T.marks) T.marks 0 (scan (twM eqP 4 T.pairs) T.pairs 0 (scan (twF 5 T.folds) T.folds 0 (scan (twF 6 T.looks) T.looks 0 (0,0,0)))))
theorem take_any {α:Type}{p:α→Bool}{l:List α}{i j:Nat}(hj:j<i) (hl:j<l.length) (h:p l[j]=true):(l.take i).any p=true:=
 List.any_eq_true.2 ⟨l[j],List.mem_take_iff_getElem.2 ⟨j,by omega,rfl⟩,h⟩
theorem take_none {α:Type}{p:α→Bool}{l:List α}{i:Nat}(h:∀k (hk:k<l.length),k<i→p l[k]=false):(l.take i).any p=false:=by
 rw[List.any_eq_false]
 intro x hx
 obtain⟨j,hj,rfl⟩:=List.mem_take_iff_getElem.1 hx
 rw[h j (by omega) (by omega)];decide
def longS (x:ByteArray×List Span) (i:Nat):Option W3:=if decide ((1024:Int)<(x.2.length:Int)) then some (4,1,(i:Int)) else none
def lens (T:Tab):List (Int×Int):=[((T.common.length:Int),1024),((T.marks.length:Int),512),((T.pairs.length:Int),4096),((T.folds.length:Int),4096),((T.looks.length:Int),4096),((T.drops.length:Int),1024),((T.allowed.length:Int),1024)]
def lenM (x:Int×Int) (i:Nat):Option W3:=if decide (x.2<x.1) then some (4,2+(i:Int),x.2) else none
def longW (T:Tab):W3:=if 64<T.scripts.length then (4,1,64) else scan longS T.scripts 0 (scan lenM (lens T) 0 (0,0,0))
end Go.Proofs.YtioehfhdoohdmaaGreatDoor
namespace Go.Proofs.YtioehfhdoohdmaaGreatDoor
open Go.RowKit Go.Shelf BigFrame
def fromM (n:Int) (T:Tab) (x:Int×ByteArray) (i:Nat):Option W3:=if markB T x.1 then some (31,n,(i:Int)) else if decide (0≤wholeN T x.1) then some (31,n,(i:Int)) else none
def toF (T:Tab) (i:Nat) (r:Int) (_:Nat):Option W3:=if !plainB T r then some (35,5,(i:Int)) else none
def toL (T:Tab) (L:List (Int×ByteArray)) (i:Nat) (r:Int) (_:Nat):Option W3:=if !plainB T r then some (36,6,(i:Int)) else if decide (0≤fromN L r) then some (36,6,(i:Int)) else none
def toGo (f:Nat→Int→Nat→Option W3):List (Int×ByteArray)→Nat→W3→W3
 | [],_,k=>k
 | x::t,i,k=>scan (f i) (rnL x.2) 0 (toGo f t (i+1) k)
theorem toGo_step {f:Nat→Int→Nat→Option W3}{l:List (Int×ByteArray)}{i:Nat}{k R:W3}(h:i<l.length) (H:toGo f (l.drop i) i k=R):scan (f i) (rnL l[i].2) 0 (toGo f (l.drop (i+1)) (i+1) k)=R:=by
 rw[List.drop_eq_getElem_cons h] at H;exact H
theorem toGo_end {f:Nat→Int→Nat→Option W3}{l:List (Int×ByteArray)}{k R:W3}(H:toGo f (l.drop l.length) l.length k=R):k=R:=by rwa [List.drop_length,toGo] at H
def tosW (T:Tab):W3:=scan (fromM 5 T) T.folds 0 (scan (fromM 6 T) T.looks 0 (toGo (toF T) T.folds 0 (toGo (toL T T.looks) T.looks 0 (0,0,0))))
end Go.Proofs.YtioehfhdoohdmaaGreatDoor
namespace Go.Proofs.YtioehfhdoohdmaaGreatDoor
open Go.RowKit Go.Shelf BigFrame
def letB (r:Int):Bool:=r == 45 || (decide (48≤r) && decide (r≤57)) || (decide (97≤r) && decide (r≤122))
def comR:List Int:=(List.range 13).map (fun k:Nat=>45+(k:Int))
def letR:List Int:=(List.range 78).map (fun k:Nat=>45+(k:Int))
def comM (L:List Span) (r:Int) (_:Nat):Option W3:=if r != 47 && !ofB r L then some (5,2,0) else none
def alM (L:List Span) (r:Int) (_:Nat):Option W3:=if letB r && !ofB r L then some (5,8,0) else none
def hMark (x:Int×Int) (i:Nat):Option W3:=if lowB x.1 then some (5,3,(i:Int)) else none
def hPair (x:Int×Int×Int) (i:Nat):Option W3:=if lowB x.1 then some (5,4,(i:Int)) else none
def hFold (x:Int×ByteArray) (i:Nat):Option W3:=if lowB x.1 && (decide (x.1<65) || decide (90<x.1)) then some (5,5,(i:Int)) else if setsB x.2 then some (5,5,(i:Int)) else none
def hLook (x:Int×ByteArray) (i:Nat):Option W3:=if setB x.1 then some (5,6,(i:Int)) else if setsB x.2 then some (5,6,(i:Int)) else none
def hDrop (x:Span) (i:Nat):Option W3:=if decide (x.1<128) then some (5,7,(i:Int)) else if decide (x.1≤65533) && decide (65533≤x.2) then some (5,7,(i:Int)) else none
def alGo (hi:Int):Nat→Int→Bool
 | 0,_=>false
 | n+1,r=>if r≤hi∧r<128 then (if letB r then alGo hi n (r+1) else true) else false
def hAllow (x:Span) (i:Nat):Option W3:=if alGo x.2 (128 - x.1).toNat x.1 then some (5,8,(i:Int)) else none
def rowsW (T:Tab):W3:=scan (comM T.common) comR 0 (scan hMark T.marks 0 (scan hPair T.pairs 0 (scan hFold T.folds 0 (scan hLook T.looks 0 (0,0,0)))))
def houseW (T:Tab):W3:=orK (rowsW T) (scan hDrop T.drops 0 (scan hAllow T.allowed 0 (scan (alM T.allowed) letR 0 (0,0,0))))
theorem comR_at {k:Nat}(h:k<comR.length):comR[k]=45+(k:Int):=by simp[comR]
theorem letR_at {k:Nat}(h:k<letR.length):letR[k]=45+(k:Int):=by simp[letR]
theorem comR_len:comR.length=13:=by simp[comR]
theorem letR_len:letR.length=78:=by simp[letR]
end Go.Proofs.YtioehfhdoohdmaaGreatDoor
namespace Go.Proofs.YtioehfhdoohdmaaGreatDoor
open Go.RowKit Go.Shelf BigFrame
def checkW (T:Tab):W3:=orK (longW T) (orK (formsW T) (orK (twiceW T) (orK (pairsW T) (orK (dropsW T) (orK (tosW T) (houseW T))))))
end Go.Proofs.YtioehfhdoohdmaaGreatDoor
