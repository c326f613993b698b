/- ast.Check of a query. -/
import Derived.Test.YtobelmipjanibaaDoorIter4
namespace Go.Proofs.YtobelmipjanibaaDoor
open Go.RowKit
set_option linter.unusedSimpArgs false
set_option linter.unusedVariables false

/-- What Check answers on a query. -/
def checkQuery (every : Int) (e : Ex) : Int := if 1 ≤ every ∧ every ≤ 1073741824 then checkExpr e else 2

set_option maxRecDepth 100000 in
set_option maxHeartbeats 4000000 in
theorem aCheck (every : Int) (e : Ex) (cs : List Value) (n : Nat) (w : World) (hn : n ≤ w.heap.size) (he : IsEx n w e cs) (hsz : e.size ≤ 1000000) :
    Calls Tryd.prog 31 #[.agg (.int .i64 every :: cs).toArray] w fun e' w' => e' = .returned (.int .i64 (checkQuery every e)) ∧ Below w.heap.size w w' := by
  obtain ⟨pm, cm, pn, cn, pk, ck, rfl, -⟩ := he.cellsE
  have He := Lib.hid he; clear he
  go_enter Tryd.func31, Tryd.ntmps31; (try simp only [List.append_eq, List.cons_append, List.nil_append])
  by_cases hev : 1 ≤ every ∧ every ≤ 1073741824
  · go_wp2_with (first
      | (go_at_call 58; refine (aSpan every _).mono ?_; rw [decide_eq_true hev]; rintro e' w1 ⟨rfl, rfl⟩)
      | (go_at_call 26; refine (aCheckExpr e _ n _ (by simp; omega) (He.out.mono ((Below.refl _ _).alloc hn _) (Nat.le_refl _)) hsz).mono ?_; rintro e' w1 ⟨rfl, hb1⟩; have Hb1 := Lib.hid hb1; clear hb1))
    go_ret
    exact ⟨ret_int (by unfold checkQuery; rw [if_pos hev]), ((Below.refl _ _).alloc (Nat.le_refl _) _).trans (Hb1.out.mono (by simp))⟩
  · go_wp2_with (go_at_call 58; refine (aSpan every _).mono ?_; rw [decide_eq_false hev]; rintro e' w1 ⟨rfl, rfl⟩)
    go_ret
    exact ⟨ret_int (by unfold checkQuery; rw [if_neg hev]), (Below.refl _ _).alloc (Nat.le_refl _) _⟩


end Go.Proofs.YtobelmipjanibaaDoor
