/- Lists of strings of the call's own; joined. -/
import Derived.Test.YtgjeomcflapmpaaDoorApp
import Derived.Test.YtgjeomcflapmpaaDoorShelf
import Derived.Test.YtgjeomcflapmpaaDoorProg
import Derived.Lib.Join
namespace Go.Proofs.YtgjeomcflapmpaaDoor
open Go.RowKit
set_option linter.unusedSimpArgs false
set_option linter.unusedVariables false

def OwnS (base : Nat) (w : World) (v : Value) (l : List ByteArray) : Prop := w.ownsRow base 9 1 v l.length (l.map fun s => .string s)
theorem infoS : (Tryd.prog.info? 9).map (fun i => (i.zero, i.size, i.bytes)) = some (some (.string ⟨#[]⟩), 1, 16) := by kernel_rfl
theorem ownS_slice {w : World} {base : Nat} {v : Value} {l : List ByteArray} (h : OwnS base w v l) : ∃ A cap, v = .slice A l.length cap := ownsRow_slice h
theorem ownS_join (base : Nat) (l : List ByteArray) (v : Value) (sep : ByteArray) (X : World) (hO : OwnS base X v l) (hn : l.length ≤ 140737488355328) (hl : (Lib.join (l.map (·.data.toList)) sep.data.toList).length ≤ 140737488355328) :
    Calls Tryd.prog 27 #[v, .string sep] X fun e w' => e = .returned (.string ⟨(Lib.join (l.map (·.data.toList)) sep.data.toList).toArray⟩) ∧ Below X.heap.size X w' := by
  rcases hO.2 with ⟨rfl, h0⟩ | ⟨g, cap, cur, rfl, hg, hh, hc1, hc2, hc3, hc4⟩
  · have hl0 : l = [] := List.eq_nil_of_length_eq_zero h0
    subst hl0
    exact (Tryd.strings_Join_none none 0 sep X).mono fun e w' ⟨h1, h2⟩ => ⟨by rw [h1]; rfl, by rw [h2]; exact Below.refl _ _⟩
  · have hcell := World.ownsRow.cells hO (g := g) rfl
    have hlt := (World.ownsRow.lt hO g rfl).2
    exact Tryd.strings_Join g 0 cap l sep X (fun j x hx => by
      have h1 := hcell j (.string x) (by rw [List.getElem?_map, hx]; rfl)
      have e0 : (⟨g, 0, none⟩ : Addr).add j = ⟨g, 0 + j, none⟩ := by unfold Addr.add; split <;> simp
      rw [e0] at h1; exact h1) hlt hn hc1 hl
theorem ownS_add {base : Nat} {w : World} {v : Value} {q : List ByteArray} {x : ByteArray} (h : w.ownsRow base 9 1 v (q.length + 1) ((q.map fun s => Value.string s) ++ [.string x])) : OwnS base w v (q ++ [x]) := by
  unfold OwnS
  rw [List.length_append, List.map_append]; exact h
end Go.Proofs.YtgjeomcflapmpaaDoor
