/- slices.Sorted(maps.Keys(counts)): the keys that are counted, in order. By the shelf's contracts. -/
import Derived.Test.YtioehfhdoohdmaaGreatDoorKs
import Derived.Test.YtioehfhdoohdmaaGreatDoorTallyM
set_option linter.unusedVariables false
set_option linter.unusedSimpArgs false
namespace Go.Proofs.YtioehfhdoohdmaaGreatDoor
open Go.RowKit Go.Shelf Go.Maps Go.Sort
theorem sortsT (m:Nat):AnyZI.SortsIn Tryz.prog Tryz.lSorted_ren Fence.wide m:=
 ⟨fun blk off cap ss W hH hblk hsz=>callsIn_wide.2 (AnyM.slices_Sort_int Tryz.lSort blk off cap ss W hH hblk hsz),
  fun p cap W=>callsIn_wide.2 (AnyM.slices_Sort_int_none Tryz.lSort p cap W)⟩
theorem keysT (n:Nat) (mb:Option Nat) (W:World):CallsIn Fence.wide n Tryz.prog 64 #[.map mb] W fun e w'=>e=.returned (.func (.func 98) #[] #[.pointer (some ⟨W.heap.size,0,none⟩)])∧w'=W.alloc (.cells #[.map mb] 131):=
 AnyZI.keys_in Tryz.lKeys Fence.wide n trivial rfl mb W
theorem sortedT (n:Nat) (hn:5≤n) (b nn:Nat) (D0:DataW Unit) (w:World) (hown:w.ownsMap Tryz.prog 3 (plainElem Tryz.prog 3) b nn D0) (hmax:Maps.size D0≤maxLen) (hbytes:Maps.size D0*8≤140737488355328) :
 CallsIn Fence.wide n Tryz.prog 63 #[.func (.func 98) #[] #[.pointer (some ⟨w.heap.size,0,none⟩)]] (w.alloc (.cells #[.map (some b)] 131)) fun e w'=>∃(v:Value) (ss:List Int),e=.returned v∧ss.Perm (intKeys D0) ∧
  w'.ownsRow (w.alloc (.cells #[.map (some b)] 131)).heap.size 3 1 v ss.length ((ss.mergeSort (fun x y=>decide (x≤y))).map encZ)∧(v=.slice none 0 0↔ss=[])∧Below (w.alloc (.cells #[.map (some b)] 131)).heap.size (w.alloc (.cells #[.map (some b)] 131)) w':=by
 have hbl:=hown.lt
 have hseq:SeqGives Fence.wide (n - 1 - 1 - 1) Tryz.prog 98 #[.pointer (some ⟨w.heap.size,0,none⟩)] encZ (fun ss=>ss.Perm (intKeys D0)) (Maps.size D0) (w.alloc (.cells #[.map (some b)] 131)):=
  AnyZI.keys_gives (ρ:=Tryz.lKeys_ren) { Tryz.lKeys with } Fence.wide _ trivial rfl (by omega) w.heap.size b nn D0 _ (by simp) (by simp) (by
   obtain⟨es,clock,hb,Ft,hs,hD⟩:=hown
   exact⟨es,clock,(Below.heap_alloc _ _ b hbl).trans hb,Ft,hs,hD⟩)
 have cS:=AnyZI.sorted_in Tryz.lSorted Fence.wide n trivial trivial trivial trivial rfl (by omega) (sortsT _) (enters_of Tryz.func97 (by kernel_rfl) rfl) 98 #[.pointer (some ⟨w.heap.size,0,none⟩)] trivial (enters_of Tryz.func98 (by kernel_rfl) rfl) _ _ hmax hbytes _ hseq
 exact cS
end Go.Proofs.YtioehfhdoohdmaaGreatDoor
