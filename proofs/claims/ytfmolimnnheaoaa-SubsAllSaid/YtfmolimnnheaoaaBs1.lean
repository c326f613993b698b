/- A map's keys, sorted (slices.Sorted(maps.Keys(m))). -/
import Derived.Test.YtfmolimnnheaoaaBb0
import Derived.Test.YtfmolimnnheaoaaSk
namespace Go.Proofs.Ytfmolimnnheaoaa
open Go.RowKit
set_option linter.unusedSimpArgs false
set_option linter.unusedVariables false
open Go.Maps Go.Sort Go.Shelf

theorem sortsA (m : Nat) : AnyZI.SortsIn Try.prog Try.sortedA_ren Fence.wide m :=
  ⟨fun blk off cap ss W hH hblk hsz => callsIn_wide.2 (AnyM.slices_Sort_int Try.sortA blk off cap ss W hH hblk hsz),
   fun p cap W => callsIn_wide.2 (AnyM.slices_Sort_int_none Try.sortA p cap W)⟩
theorem sKeys (mb : Option Nat) (W : World) : Calls Try.prog 52 #[.map mb] W fun e w' => e = .returned (.func (.func 62) #[] #[.pointer (some ⟨W.heap.size, 0, none⟩)]) ∧ w' = W.alloc (.cells #[.map mb] 57) := (callsIn_wide (n := 5)).1 (AnyZI.keys_in Try.keysA Fence.wide 5 trivial rfl mb W)
theorem sSorted {b n x : Nat} {l : List (Int × Nat)} {W : World} (h : MapB W b n l) (hr : RiseK l) (hl : l.length ≤ 100000) (hx : Blk W x 57 [.map (some b)]) : Calls Try.prog 40 #[.func (.func 62) #[] #[.pointer (some ⟨x, 0, none⟩)]] W fun e w' => ∃ v, e = .returned v ∧ OwnI 3 W.heap.size w' v (l.map Prod.fst) ∧ Below W.heap.size W w' := by
  refine (callsIn_wide (n := 6)).1 ?_
  have hxl := hx.lt
  have hseq : SeqGives Fence.wide 3 Try.prog 62 #[.pointer (some ⟨x, 0, none⟩)] encZ (fun ss => ss.Perm (intKeys (mapE l))) (Maps.size (mapE l)) W :=
    AnyZI.keys_gives (ρ := Try.keysA_ren) { Try.keysA with } Fence.wide _ trivial rfl (by omega) x b n (mapE l) W hxl (hx.cell 0 _ rfl) h
  have cS := AnyZI.sorted_in Try.sortedA Fence.wide 6 trivial trivial trivial trivial rfl (by omega) (sortsA _) (enters_of Try.func54 (by kernel_rfl) rfl) 62 #[.pointer (some ⟨x, 0, none⟩)] trivial (enters_of Try.func62 (by kernel_rfl) rfl) _ _ (by rw [sizeE]; unfold maxLen; omega) (by rw [sizeE]; omega) _ hseq
  change CallsIn _ _ Try.prog 40 _ _ _ at cS
  refine cS.mono ?_
  rintro e w' ⟨v, ss, rfl, hS, hrow, -, hb⟩
  rw [keysE] at hS
  rw [rise_sorted hr hS] at hrow
  have e1 : ss.length = (l.map Prod.fst).length := hS.length_eq
  rw [e1] at hrow
  exact ⟨v, rfl, hrow, hb⟩
end Go.Proofs.Ytfmolimnnheaoaa
