/- waterwheelkit on expressions: Match, Texts, Win, Pick, weigh, short, LightExpr. -/
import Derived.Test.YtkheeiipkdeihaaTree
import Derived.Test.YtkheeiipkdeihaaProg
import Derived.Deep.QuietTactic
import Derived.BigQuiet
namespace Go.Proofs.Ytkheeiipkdeihaa
open Go.RowKit
set_option linter.unusedSimpArgs false
set_option linter.unusedVariables false

theorem eq_of_upto {α : Type} [DecidableEq α] {a b : List α} (hl : a.length = b.length) (h : a.take a.length = b.take a.length) : a = b := by
  rwa [List.take_of_length_le (Nat.le_refl _), List.take_of_length_le (by omega)] at h
theorem take_eq_step {α : Type} {a b : List α} {k : Nat} (h : a.take k = b.take k) (ha : k < a.length) (hb : k < b.length) (he : a[k] = b[k]) : a.take (k + 1) = b.take (k + 1) := by
  rw [List.take_succ_eq_append_getElem ha, List.take_succ_eq_append_getElem hb, h, he]
theorem ne_of_at {α : Type} {a b : List α} {k : Nat} (ha : k < a.length) (hb : k < b.length) (he : ¬ a[k] = b[k]) : ¬ a = b := by
  intro e; subst e; exact he rfl

theorem mat_ext {a b : Mat} (h1 : a.kind = b.kind) (h2 : a.name = b.name) (h3 : a.text = b.text) : a = b := by
  cases a; cases b; simp_all
theorem matNe (a b : Mat) (w : World) :
    (binOp BinOp.neq 71 (.agg #[.int .i64 a.kind, .string a.name, .string a.text]) (.agg #[.int .i64 b.kind, .string b.name, .string b.text])).run Try.prog w = .ok (.bool (!decide (a = b))) w := by
  rw [run_neq_struct]
  have h : (Op.equalIn 10000 71 (.agg #[.int .i64 a.kind, .string a.name, .string a.text]) (.agg #[.int .i64 b.kind, .string b.name, .string b.text])).run Try.prog w = .ok (decide (a = b)) w := by
    by_cases h1 : a.kind = b.kind
    · by_cases h2 : a.name = b.name
      · by_cases h3 : a.text = b.text
        · rw [decide_eq_true (mat_ext h1 h2 h3)]
          simp [go_sem, h1, h2, h3]
        · rw [decide_eq_false (fun e => h3 (by rw [e]))]
          have h3' : (a.text == b.text) = false := by rw [beq_ba]; exact decide_eq_false h3
          simp [go_sem, h1, h2, h3', ← beq_toListBytes]
      · rw [decide_eq_false (fun e => h2 (by rw [e]))]
        have h2' : (a.name == b.name) = false := by rw [beq_ba]; exact decide_eq_false h2
        simp [go_sem, h1, h2', ← beq_toListBytes]
    · rw [decide_eq_false (fun e => h1 (by rw [e]))]
      simp [go_sem, h1]
  rw [h]; rfl

/-- A number from 0 to below m. -/
def pick (n m : Int) : Int := if n.tmod m < 0 then n.tmod m + m else n.tmod m
theorem pick_bd (a m : Int) (hm : 1 ≤ m) : 0 ≤ pick a m ∧ pick a m < m := by
  have h1 : a.tmod m < m := Int.tmod_lt_of_pos a (by omega)
  have h2 : -m < a.tmod m := by have := Int.lt_tmod_of_pos a (show 0 < m by omega); omega
  unfold pick
  split <;> omega

end Go.Proofs.Ytkheeiipkdeihaa
