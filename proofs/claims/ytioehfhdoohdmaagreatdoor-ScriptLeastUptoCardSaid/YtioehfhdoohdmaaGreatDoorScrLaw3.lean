/- Of ScrLaw2: what the runs do not name. -/
import Derived.Test.YtioehfhdoohdmaaGreatDoorRef14
set_option linter.unusedVariables false
set_option linter.unusedSimpArgs false
namespace Go.Proofs.YtioehfhdoohdmaaGreatDoor
open Go.RowKit Go.Shelf
theorem noStop_mix (T:Tab) (s:ByteArray):∀(r pre:List (Pl s)),NoStop T s pre→mixB T s pre=false→NoStop T s (pre++r)→mixB T s (pre++r)=false:=by
 intro r
 induction r with
 | nil=>intro pre _ h _;rw[List.append_nil];exact h
 | cons x t ih=>
  intro pre hn hm h
  have h1:=h
  unfold NoStop at h1
  rw[stopGo_append T s pre (x::t) _ 0 hn,stopGo_cons] at h1
  have h2:=noStop_snoc T s pre x hn
  have h3:=mix_snoc T s pre x hm
  have e:pre++x::t=(pre++[x])++t:=by simp
  rw[e] at h ⊢
  change (if freeR T (spR s x) (spB s x) then _ else if (stepO T s (foldO T s pre) x).isEmpty then _ else _)=none at h1
  cases hf:freeR T (spR s x) (spB s x) with
  | true=>exact ih _ (by unfold NoStop;rw[h2,hf];rfl) (by rw[h3,hf];rfl) h
  | false=>
   cases he:(stepO T s (foldO T s pre) x).isEmpty with
   | true=>rw[hf,he] at h1;simp at h1
   | false=>exact ih _ (by unfold NoStop;rw[h2,hf,he];rfl) (by rw[h3,hf,he];rfl) h
theorem noStop_mixB (T:Tab) (s:ByteArray) (pre:List (Pl s)) (h:NoStop T s pre):mixB T s pre=false:=noStop_mix T s pre [] rfl (by rw[mixB_fold];rfl) h
end Go.Proofs.YtioehfhdoohdmaaGreatDoor
