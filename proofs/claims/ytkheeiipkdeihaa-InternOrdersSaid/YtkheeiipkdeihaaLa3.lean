/- slices.SortStableFunc of labels by their names: what it does to an own list. -/
import Derived.Test.YtkheeiipkdeihaaLa1
import Derived.Test.YtkheeiipkdeihaaApp
import Derived.Laws.OwnMore
import Derived.Deep.RegionHeld3
import Derived.Deep.CutRange
import Derived.Deep.QuietTactic
import Derived.BigQuiet
import Derived.BigRegion
namespace Go.Proofs.Ytkheeiipkdeihaa
open Go.RowKit
set_option linter.unusedSimpArgs false
set_option linter.unusedVariables false

/-- The order of two texts as a number. -/
def cmpS (a b : ByteArray) : Int := if sless a b then -1 else if sless b a then 1 else 0
theorem cmpS_neg {a b : ByteArray} (h : sless a b = true) : cmpS a b = -1 := by simp [cmpS, h]
theorem cmpS_ge {a b : ByteArray} (h : sless a b = false) : ¬ cmpS a b < 0 := by
  unfold cmpS; rw [h]; simp; split <;> omega

/-- Labels in a block of their own. -/
def OwnL (base : Nat) (w : World) (v : Value) (l : List Lab) : Prop := w.ownsRow base 63 2 v l.length (flat l)
/-- The two places' cells. -/
theorem OwnL.at {base g cap : Nat} {w : World} {n : Nat} {l : List Lab} (h : OwnL base w (.slice (some ⟨g, 0, none⟩) n cap) l) {k : Nat} {x : Lab} (hx : l[k]? = some x) :
    w.cell? ⟨g, k * 2, none⟩ = some (.string x.name) ∧ w.cell? ⟨g, k * 2 + 1, none⟩ = some (.string x.text) := by
  obtain ⟨A, cap', e⟩ := ownsRow_slice h
  cases e
  have hk : k < l.length := by
    rcases Nat.lt_or_ge k l.length with h' | h'
    · exact h'
    · rw [List.getElem?_eq_none h'] at hx; cases hx
  have h' : w.ownsRow base _ 2 _ l.length (flat l) := h
  exact ⟨(h'.cellAt _ (by omega)).trans (flat_at0 l k x hx), (h'.cellAt _ (by omega)).trans (flat_at1 l k x hx)⟩
/-- One is stored. -/
theorem OwnL.put {base g cap n : Nat} {w : World} {l : List Lab} (h : OwnL base w (.slice (some ⟨g, 0, none⟩) n cap) l) (k : Nat) (x : Lab) :
    OwnL base ((w.setCell ⟨g, k * 2, none⟩ (.string x.name)).setCell ⟨g, k * 2 + 1, none⟩ (.string x.text)) (.slice (some ⟨g, 0, none⟩) n cap) (l.set k x) := by
  obtain ⟨A, cap', e⟩ := ownsRow_slice h
  cases e
  have h1 := (World.ownsRow.stored h (k * 2) (.string x.name)).1
  have h2 := (World.ownsRow.stored h1 (k * 2 + 1) (.string x.text)).1
  unfold OwnL
  rw [← flat_set, List.length_set]
  exact h2
theorem OwnL.free {base g cap n : Nat} {w : World} {l : List Lab} (h : OwnL base w (.slice (some ⟨g, 0, none⟩) n cap) l) (j : Nat) : w.frozen? ⟨g, j, none⟩ = false := by
  obtain ⟨A, cap', e⟩ := ownsRow_slice h
  cases e
  exact World.ownsRow.frozenAt h j
theorem OwnL.block {base g cap n : Nat} {w : World} {l : List Lab} (h : OwnL base w (.slice (some ⟨g, 0, none⟩) n cap) l) : base ≤ g ∧ g < w.heap.size := World.ownsRow.lt h g rfl
theorem OwnL.keep {base : Nat} {w w' : World} {v : Value} {l : List Lab} (h : OwnL base w v l) (hb : Below w.heap.size w w') : OwnL base w' v l := ownsRow_keep h hb
theorem below_put {B : Nat} {a w : World} (h : Below B a w) {g : Nat} (hg : B ≤ g) (i j : Nat) (u v : Value) : Below B a ((w.setCell ⟨g, i, none⟩ u).setCell ⟨g, j, none⟩ v) :=
  Below.setCell (p := (⟨g, j, none⟩ : Addr)) (Below.setCell (p := (⟨g, i, none⟩ : Addr)) h hg u) hg v

/-- Sorted, with the same labels, in the same block. -/
def SortedIn (base : Nat) (w : World) (v : Value) (l : List Lab) (e : Ending) (w' : World) : Prop :=
  ∃ s : List Lab, e = .returned (.tuple #[]) ∧ s.Perm l ∧ s.Pairwise leN ∧ OwnL base w' v s ∧ Below base w w'

theorem split_last (a : List Lab) : a = [] ∨ ∃ a0 y, a = a0 ++ [y] := by
  rcases List.eq_nil_or_concat a with h | ⟨a0, y, h⟩
  · exact .inl h
  · exact .inr ⟨a0, y, by simpa using h⟩
end Go.Proofs.Ytkheeiipkdeihaa
