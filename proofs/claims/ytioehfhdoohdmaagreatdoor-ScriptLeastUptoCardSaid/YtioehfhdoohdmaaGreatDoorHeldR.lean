/- A region in a round that loads and calls what makes memory: what yields in every world that meets S is taken first, many at a time; the calls one by one. No program in sight. -/
import Derived.Deep.Quiet
import Derived.Deep.RegionHeld
import Derived.OrdersIn
import Derived.RangeFuncCalls
import Derived.TacticsIn
import Derived.Test.YtioehfhdoohdmaaGreatDoorRunsS
set_option linter.unusedVariables false
set_option linter.unusedSimpArgs false
namespace Go.Proofs.YtioehfhdoohdmaaGreatDoor
open Go
section
variable {n l : Nat} {P : Program} {ops : Array Oper} {md : Region.Mode} {S : World → Prop} {Q : Exit → Act → World → Prop}
theorem rowsIn_of {row:String}{args:Array Value}{w:World}{R:Value→World→Prop}(h:Rows P row args w R):RowsIn (Fence.wide.inRound l) n P row args w R:=
 fun c cs _=>let ⟨v,w',r,s⟩:=h c cs;⟨v,w',r,stepsIn_wide.2 s⟩
theorem wpInR_of_wp {o:Oper}{a:Act}{K:Act→World→Prop}{w:World}(hd:∀c,o.op≠.defer c) (hLO:LetsOut Q→False) (hh:o.wp P a w K Q):o.wpIn (Fence.wide.inRound l) n P a w K Q:=by
 refine⟨fun _ _=>trivial,?_⟩
 rw[Oper.semAt_eq _ _ _ hd]
 unfold Oper.wp at hh
 generalize (execOp a.eval o).run P w=r at *
 cases r with
 | ok x w'=>
  cases x <;> simp only[Oper.upon] at hh <;> simp only[Oper.uponIn]
  case value u=>exact hh
  case skip=>exact hh
  case defer d=>exact hh
  case enter f args=>exact⟨(fun h=>by cases h),CallsIn.inRound l (callsIn_wide.2 hh)⟩
  case row row args=>exact⟨(fun h=>by cases h),rowsIn_of hh⟩
 | halt x w'=>cases x <;> simp only[Oper.upon] at hh <;> simp only[Oper.uponIn] <;> exact hh
theorem wpAnyInR_of_any (hnd:noDefer ops=true) (hLO:LetsOut Q→False):∀(fuel:Nat) (listed:Array Bool) (a:Act) (w:World),
 wpAny P md ops Q fuel listed a w→wpAnyIn (Fence.wide.inRound l) n P md ops Q fuel listed a w
 | 0,_,_,_,h=>h
 | fuel+1,_,_,_,h=>⟨h.1,fun i hi=>by
  have hh:=h.2 i hi
  unfold wpOp at hh
  unfold wpOpIn
  split
  ·rename_i ho;simp only[ho] at hh;exact wpAnyInR_of_any hnd hLO fuel _ _ _ hh
  ·rename_i o ho
   simp only[ho] at hh
   split
   ·rename_i hw
    simp only[hw,if_true] at hh
    rcases hh with hh | ⟨_,hh⟩
    ·exact wpInR_of_wp (noDefer_at hnd ho) hLO (Oper.wp_mono (fun a' w'=>wpAnyInR_of_any hnd hLO fuel _ a' w') hh)
    ·exact (hLO hh).elim
   ·rename_i hw;simp only[hw] at hh;exact⟨fun _ _=>trivial,wpAnyInR_of_any hnd hLO fuel _ _ _ hh⟩⟩
theorem wpIn_region_heldR {id:Nat}{a:Act}{w:World}(S:World→Prop) {L:List Oper}(hm:P.follows .mixedOrders=true) (hnd:noDefer L.toArray=true) (hLO:LetsOut Q→False)
 (h:wpAnyH P .any L.toArray Q S L.length (Array.replicate L.length false) a w.drew):(Code.region id L.toArray true).wpIn (Fence.wide.inRound l) n P Q a w:=by
 refine wpIn_region_any hm (wpAnyInR_of_any hnd hLO _ _ _ _ (wpAny_of_held (S:=S) _ _ _ _ ?_))
 rw[List.size_toArray]
 exact h
def onlyN (Q:Exit→Act→World→Prop):Exit→Act→World→Prop
 | .normal,a,w=>Q .normal a w
 | _,_,_=>False
theorem wp_region_heldN {id:Nat}{a:Act}{w:World}(S:World→Prop) {L:List Oper}(hm:P.follows .mixedOrders=true)
 (h:wpAnyH P .any L.toArray (onlyN Q) S L.length (Array.replicate L.length false) a w.drew):(Code.region id L.toArray true).wp P Q a w:=
 wp_mono (Q:=onlyN Q) (wp_region_held (S:=S) hm (by rw[List.size_toArray];exact h)) (fun e a w hh=>by cases e <;> first | exact hh | exact hh.elim)
theorem skip_not_value {s:Sem Value}{w w':World}:(do pure (Next.value (←s)):Sem Next).run P w≠.ok .skip w':=by
 intro h
 cases hs:s.run P w <;> simp[go_sem,hs,Result.andThen] at h
theorem readsOnly_skip {o:Oper}(h:readsOnly o=true) {ρ:Operand→Value}{w w':World}:(execOp ρ o).run P w≠.ok .skip w':=by
 unfold readsOnly at h
 unfold execOp
 cases ho:o.op <;> rw[ho] at h <;> first | (exact absurd h (by decide)) | (exact absurd h Bool.false_ne_true) | exact skip_not_value | (intro hh;simp[go_sem] at hh;done) | skip
theorem pick_run {ρ:Operand→Value}{o:Oper}{c x y:Operand}(ho:o.op=.pick c x y) {w w':World}:(∀f args,(execOp ρ o).run P w≠.ok (.enter f args) w')∧(execOp ρ o).run P w≠.ok .skip w':=by
 unfold execOp
 rw[ho]
 constructor
 ·intro f args h
  simp[go_sem,Result.andThen] at h
  split at h <;> simp at h
 ·intro h
  simp[go_sem,Result.andThen] at h
  split at h <;> simp at h
def reads2 (o:Oper):Bool:=readsOnly o || (match o.op with | .pick ..=>true | _=>false)
theorem quiet_value {o:Oper}(h:reads2 o=true) {a:Act}{v:Value}{C:World→Prop}{w:World}(hq:o.quietAt P a C w v):(execOp a.eval o).run P w=.ok (.value v) w:=by
 have h1:(∀f args w',(execOp a.eval o).run P w≠.ok (.enter f args) w')∧∀w',(execOp a.eval o).run P w≠.ok .skip w':=by
  rcases Bool.or_eq_true_iff.1 h with h | h
  ·exact⟨fun f args w'=>readsOnly_enter h,fun w'=>readsOnly_skip h⟩
  ·cases ho:o.op <;> rw[ho] at h <;> first | (exact absurd h Bool.false_ne_true) | exact⟨fun f args w'=>(pick_run ho).1 f args,fun w'=>(pick_run ho).2⟩
 unfold Oper.quietAt at hq
 generalize (execOp a.eval o).run P w=r at *
 cases r with
 | ok x w'=>
  cases x <;> simp only[Oper.quietUpon] at hq
  case value u=>rw[hq.1,hq.2]
  case skip=>exact absurd rfl (h1.2 w')
  case enter f args=>exact absurd rfl (h1.1 f args w')
 | halt x w'=>simp only[Oper.quietUpon] at hq
def readsB (md:Region.Mode) (ops:Array Oper):List Nat→Array Bool→Bool
 | [],_=>true
 | i::t,listed=>(Region.free md ops listed i && (Region.ready md ops listed).contains i && ((ops[i]?).map reads2).getD false) && readsB md ops t (listed.setIfInBounds i true)
theorem wpAnyH_reads (hs:Region.noSelect ops=true) (hQ:∀c a d v w,Q (.panic c) (Act.put a d v) w→Q (.panic c) a w) {w:World}(hS:S w):∀(idx:List Nat) (fuel F:Nat) (listed:Array Bool) (a:Act),F=fuel+idx.length→readsB md ops idx listed=true →
 wpQuiet P ops S (fun a'=>wpAnyH P md ops Q S fuel (idx.foldl (fun b i=>b.setIfInBounds i true) listed) a' w) (idx.filterMap fun i=>ops[i]?) a→wpAnyH P md ops Q S F listed a w
 | [],fuel,F,listed,a,hF,_,h=>by rw[hF];exact h
 | i::t,fuel,F,listed,a,hF,hB,h=>by
  simp only[readsB,Bool.and_eq_true] at hB
  obtain⟨⟨⟨hf,hr⟩,hrd⟩,hB⟩:=hB
  cases ho:ops[i]? with
  | none=>rw[ho] at hrd;cases hrd
  | some o=>
   rw[ho] at hrd
   have hrd':reads2 o=true:=hrd
   have hF2:F=(fuel+t.length)+1:=by rw[hF,List.length_cons];omega
   rw[List.filterMap_cons,ho] at h
   simp only[wpQuiet] at h
   rw[hF2]
   by_cases hw:Region.wanted o (yielded ops a.tmps)=true
   ·rw[if_pos hw] at h
    obtain⟨v,h1,h2⟩:=h
    exact wpAnyH_take ho hs hf hr (fun c a w=>hQ c a _ _ w) (.inl ⟨hw,fun w hw'=>quiet_value hrd' (h1 w hw')⟩) hS (wpAnyH_reads hs hQ hS t fuel _ _ _ rfl hB h2)
   ·rw[if_neg hw] at h
    exact wpAnyH_take ho hs hf hr (fun c a w=>hQ c a _ _ w) (.inr ⟨by simpa using hw,rfl⟩) hS (wpAnyH_reads hs hQ hS t fuel _ _ _ rfl hB h)
def offsB (md:Region.Mode) (ops:Array Oper):List Nat→Array Bool→Bool
 | [],_=>true
 | i::t,listed=>(Region.free md ops listed i && (Region.ready md ops listed).contains i) && offsB md ops t (listed.setIfInBounds i true)
def Offs (ops:Array Oper) (Q:Act→Prop):List Oper→Act→Prop
 | [],a=>Q a
 | o::t,a=>Region.wanted o (yielded ops a.tmps)=false∧Offs ops Q t (a.put o.dst undef)
theorem wpAnyH_offs (hs:Region.noSelect ops=true) (hQ:∀c a d v w,Q (.panic c) (Act.put a d v) w→Q (.panic c) a w) {w:World}(hS:S w):∀(idx:List Nat) (fuel F:Nat) (listed:Array Bool) (a:Act),F=fuel+idx.length→offsB md ops idx listed=true→idx.all (fun i=>(ops[i]?).isSome)=true →
 Offs ops (fun a'=>wpAnyH P md ops Q S fuel (idx.foldl (fun b i=>b.setIfInBounds i true) listed) a' w) (idx.filterMap fun i=>ops[i]?) a→wpAnyH P md ops Q S F listed a w
 | [],fuel,F,listed,a,hF,_,_,h=>by rw[hF];exact h
 | i::t,fuel,F,listed,a,hF,hB,hA,h=>by
  simp only[offsB,Bool.and_eq_true] at hB
  simp only[List.all_cons,Bool.and_eq_true] at hA
  obtain⟨⟨hf,hr⟩,hB⟩:=hB
  cases ho:ops[i]? with
  | none=>rw[ho] at hA;exact absurd hA.1 (by decide)
  | some o=>
   have hF2:F=(fuel+t.length)+1:=by rw[hF,List.length_cons];omega
   rw[List.filterMap_cons,ho] at h
   rw[hF2]
   exact wpAnyH_take ho hs hf hr (fun c a w=>hQ c a _ _ w) (.inr ⟨h.1,rfl⟩) hS (wpAnyH_offs hs hQ hS t fuel _ _ _ rfl hB hA.2 h.2)
end
end Go.Proofs.YtioehfhdoohdmaaGreatDoor
