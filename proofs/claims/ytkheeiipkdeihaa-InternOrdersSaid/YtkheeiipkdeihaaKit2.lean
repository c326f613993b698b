/- waterwheelkit on expressions: weigh, short, LightExpr, Expr. -/
import Derived.Test.YtkheeiipkdeihaaTree2
import Derived.Test.YtkheeiipkdeihaaKit1
import Derived.StillTailTactics
import Derived.Deep.DeepCutAuto
import Derived.Deep.CutBlock
namespace Go.Proofs.Ytkheeiipkdeihaa
open Go.RowKit
set_option linter.unusedSimpArgs false
set_option linter.unusedVariables false

theorem min_bd (a b : Int) (ha : 0 ≤ a) (hb : 0 ≤ b) : 0 ≤ min a b ∧ min a b ≤ b := by omega


theorem all_take_false {α : Type} {l : List α} {p : α → Bool} {k : Nat} (h : (l.take k).all p = false) : l.all p = false := by
  cases hl : l.all p with
  | false => rfl
  | true =>
    rw [← List.take_append_drop k l, List.all_append, h] at hl
    simp at hl
theorem all_step_eq {α : Type} {l : List α} {p : α → Bool} {k : Nat} (hk : k < l.length) : (l.take (k + 1)).all p = ((l.take k).all p && p l[k]) := by
  rw [List.take_succ_eq_append_getElem hk, List.all_append]; simp

theorem and_all_take_false {α : Type} {l : List α} {p : α → Bool} {k : Nat} {b : Bool} (h : (b && (l.take k).all p) = false) : (b && l.all p) = false := by
  cases b with
  | false => rfl
  | true => simp only [Bool.true_and] at *; exact all_take_false h
theorem and_shorts_take_false {l : List Ex} {k : Nat} {b : Bool} (h : (b && shorts (l.take k)) = false) : (b && shorts l) = false := by
  have := shorts_append (l.take k) (l.drop k)
  rw [List.take_append_drop] at this
  rw [this, ← Bool.and_assoc, h]; rfl


end Go.Proofs.Ytkheeiipkdeihaa
