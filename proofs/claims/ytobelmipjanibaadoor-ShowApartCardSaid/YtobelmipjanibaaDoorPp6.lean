/- The round trip: what a shown expression's tokens are read as. No program here. -/
import Derived.Test.YtobelmipjanibaaDoorPp5
namespace Go.Proofs.YtobelmipjanibaaDoor
open Go.RowKit
set_option linter.unusedSimpArgs false
set_option linter.unusedVariables false

/-- Read as an atom. -/
def RTa (L : List Tok) (e : Ex) (p : PS) (t : Tok) (r : List Tok) : Prop := ∃ (F i : Nat), At L { p with i := i } (t :: r) ∧ ∀ f, F ≤ f → pAtom L f p = some (e, { p with i := i })
/-- Read by pTerm: e is what has been gathered. -/
def RTt (L : List Tok) (e : Ex) (p : PS) (t : Tok) (r : List Tok) : Prop := ∃ (d F i : Nat), At L { p with i := i } (t :: r) ∧ ∀ f, F ≤ f → pTerm L (f + d) p = pTerms L f e { p with i := i }
/-- Read by pSum: e is what has been gathered. -/
def RTs (L : List Tok) (e : Ex) (p : PS) (t : Tok) (r : List Tok) : Prop := ∃ (d F i : Nat), At L { p with i := i } (t :: r) ∧ ∀ f, F ≤ f → pSum L (f + d) p = pSums L f e { p with i := i }
theorem RTa.term {L : List Tok} {e : Ex} {p : PS} {t : Tok} {r : List Tok} (h : RTa L e p t r) : RTt L e p t r := by
  obtain ⟨F, i, h1, h2⟩ := h
  refine ⟨1, F, i, h1, fun f hf => ?_⟩
  show pTerm L (f + 1) p = _
  rw [pTerm, h2 f hf]
/-- Where no * is next, a term is done. -/
theorem RTt.sum {L : List Tok} {e : Ex} {p : PS} {t : Tok} {r : List Tok} (h : RTt L e p t r) (ht : ((t.kind == 4 || t.kind == 1) && t.text == [42]) = false) : RTs L e p t r := by
  obtain ⟨d, F, i, h1, h2⟩ := h
  refine ⟨1, F + 1 + d, i, h1, fun f hf => ?_⟩
  obtain ⟨g, rfl⟩ : ∃ g, f = g + 1 + d := ⟨f - 1 - d, by omega⟩
  have e1 : pTerm L (g + 1 + d) p = some (e, { p with i := i }) := by
    rw [h2 (g + 1) (by omega), pTerms]
    simp only [h1.take_no ht]
    simp
  show pSum L ((g + 1 + d) + 1) p = _
  rw [pSum, e1]
/-- Where no + and no - is next, a sum is done; where no comparison is next, an expression. -/
theorem RTs.expr {L : List Tok} {e : Ex} {p : PS} {t : Tok} {r : List Tok} (h : RTs L e p t r) (h1 : ((t.kind == 4 || t.kind == 1) && t.text == [43]) = false) (h2 : ((t.kind == 4 || t.kind == 1) && t.text == [45]) = false)
    (h3 : ∀ s ∈ cmpSigns, ((t.kind == 4 || t.kind == 1) && t.text == s) = false) : ∃ (F i : Nat), At L { p with i := i } (t :: r) ∧ ∀ f, F ≤ f → pExpr L f p = some (e, { p with i := i }) := by
  obtain ⟨d, F, i, g1, g2⟩ := h
  refine ⟨F + 2 + d, i, g1, fun f hf => ?_⟩
  obtain ⟨g, rfl⟩ : ∃ g, f = (g + 1 + d) + 1 := ⟨f - 2 - d, by omega⟩
  have e1 : pSum L (g + 1 + d) p = some (e, { p with i := i }) := by
    rw [g2 (g + 1) (by omega), pSums]
    simp only [g1.take_no h1, g1.take_no h2]
    simp
  rw [pExpr, e1]
  simp only [pCmp_no L _ t r g1 h3]
end Go.Proofs.YtobelmipjanibaaDoor
