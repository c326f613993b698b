/- Slices of whole numbers in memory. No program here. -/
import Derived.Test.YtkheeiipkdeihaaApp
namespace Go.Proofs.Ytkheeiipkdeihaa
open Go.RowKit
set_option linter.unusedSimpArgs false
set_option linter.unusedVariables false

/-- Within the bounds of 64 bits. -/
def i64 (x : Int) : Prop := -9223372036854775808 ≤ x ∧ x ≤ 9223372036854775807
/-- A slice of numbers. -/
def IsInts (n : Nat) (w : World) (v : Value) (l : List Int) : Prop := Arr n w v 1 (l.map fun i => [.int .i64 i])
theorem IsInts.mono {n m : Nat} {w w' : World} {v : Value} {l : List Int} (h : IsInts n w v l) (hb : Below n w w') (hm : n ≤ m) : IsInts m w' v l := Arr.mono h hb hm
theorem IsInts.open {n : Nat} {w : World} {v : Value} {l : List Int} (h : IsInts n w v l) : ∃ p cap, v = .slice p l.length cap ∧ l.length ≤ cap ∧ cap ≤ maxLen ∧ l.length ≤ maxLen := by
  obtain ⟨p, cap, hv, h1, h2, _⟩ := h
  simp only [List.length_map] at hv h1
  exact ⟨p, cap, hv, h1, h2, by omega⟩
theorem IsInts.get {n : Nat} {w : World} {p : Option Addr} {len cap : Nat} {l : List Int} (h : IsInts n w (.slice p len cap) l) {k : Nat} (hk : k < l.length) :
    ∃ b off, p = some ⟨b, off, none⟩ ∧ b < n ∧ w.cell? ⟨b, off + k, none⟩ = some (.int .i64 l[k]) := by
  obtain ⟨b, off, hp, hb, hc⟩ := h.at k [.int .i64 l[k]] (by simp [hk])
  exact ⟨b, off, hp, hb, by simpa using hc 0 _ rfl⟩

/-- Numbers in a block of their own. -/
def OwnI (t : Nat) (base : Nat) (w : World) (v : Value) (l : List Int) : Prop := w.ownsRow base t 1 v l.length (l.map fun i => Value.int .i64 i)
theorem OwnI.ints {t base m : Nat} {w : World} {v : Value} {l : List Int} (h : OwnI t base w v l) (hm : w.heap.size ≤ m) : IsInts m w v l := by
  rcases h.2 with ⟨rfl, hl⟩ | ⟨g, cap, cur, rfl, hg, hh, hc1, hc2, hc3, hc4⟩
  · have : l = [] := List.eq_nil_of_length_eq_zero (by omega)
    subst this
    exact Arr.nil _ _ _
  · refine ⟨_, cap, by rw [List.length_map], by simpa using hc1, hc2, fun _ => ⟨g, 0, rfl, ?_, fun k r hr j x hx => ?_⟩⟩
    · have := (Array.getElem?_eq_some_iff.1 hh).1; omega
    · obtain ⟨i, hi, rfl⟩ : ∃ i, l[k]? = some i ∧ r = [.int .i64 i] := by
        rw [List.getElem?_map] at hr
        cases hlk : l[k]? with
        | none => rw [hlk] at hr; cases hr
        | some i => rw [hlk] at hr; cases hr; exact ⟨i, rfl, rfl⟩
      cases j with
      | zero =>
        simp at hx; subst hx
        have hcell := h.cells (g := g) rfl k (.int .i64 i) (by simp [hi])
        have e0 : (⟨g, 0, none⟩ : Addr).add k = ⟨g, 0 + k * 1 + 0, none⟩ := by
          unfold Addr.add
          split <;> simp <;> omega
        rw [e0] at hcell
        exact hcell
      | succ j => simp at hx

theorem OwnI.keep {t base : Nat} {w w' : World} {v : Value} {l : List Int} (h : OwnI t base w v l) (hb : Below w.heap.size w w') : OwnI t base w' v l := ownsRow_keep h hb
theorem OwnI.nil {t base : Nat} {w : World} : OwnI t base w (.slice none 0 0) [] := World.ownsRow_nil _ _ _ _
theorem ints_one (l : List Int) : ∀ u ∈ (l.map fun i => Value.int .i64 i), u.oneCell' = true := by
  intro u hu
  obtain ⟨i, -, rfl⟩ := List.mem_map.1 hu
  rfl
end Go.Proofs.Ytkheeiipkdeihaa
