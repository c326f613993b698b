/- From what an argument reads as to a query in memory, its numbers of 64 bits. -/
import Derived.Test.YtobelmipjanibaaDoorBridge
namespace Go.Proofs.YtobelmipjanibaaDoor
set_option maxRecDepth 100000
open Go.ChangeShapes Go.WideShapes Go.ChangeAt Go.RowKit
set_option linter.unusedVariables false

section
variable {H : Type} {enc : TypeId × Value → H} {w : World} {base : Nat} {spare : Nat → Bool} {held : Bool} {fuel : Nat} {x : DataW H × List MemPlace}
theorem q_of_trod2 {r : List Value} (h : DataW.trod enc Tryd.prog w base spare held fuel 38 r = some x) :
    ∃ q : Int × Ex, (-9223372036854775808 ≤ q.1 ∧ q.1 ≤ 9223372036854775807) ∧ ∃ cs, r = .int .i64 q.1 :: cs ∧ IsEx w.heap.size w q.2 cs ∧ q.2.num64 := by
  obtain ⟨xs, n, rfl, _, hl, hxs, hf⟩ := DataW.trod_struct Tryd.underlying38 h
  have c10 : Tryd.prog.cellsOf 38 = 10 := by kernel_rfl
  have cj : Tryd.prog.cellsOf 2 = 1 := by kernel_rfl
  have c9 : Tryd.prog.cellsOf 26 = 9 := by kernel_rfl
  rw [c10] at hl
  have hxs : xs.length = 2 := hxs
  match r, hl with
  | [r0, r1, r2, r3, r4, r5, r6, r7, r8, r9], _ =>
    have f0 : DataW.trod enc Tryd.prog w base spare held n 2 (List.take (Tryd.prog.cellsOf 2) (List.drop 0 [r0, r1, r2, r3, r4, r5, r6, r7, r8, r9])) = xs[0]? := hf 0 _ rfl
    have f1 : DataW.trod enc Tryd.prog w base spare held n 26 (List.take (Tryd.prog.cellsOf 26) (List.drop 1 [r0, r1, r2, r3, r4, r5, r6, r7, r8, r9])) = xs[1]? := hf 1 _ rfl
    simp only [cj, c9, List.drop_zero, List.drop_succ_cons, List.take_succ_cons, List.take_zero] at f0 f1
    rw [List.getElem?_eq_getElem (by omega)] at f0 f1
    obtain ⟨a, h0, _, hb⟩ := DataW.trod_int Tryd.underlying2 f0
    obtain ⟨e, he, hn⟩ := ex_of_trod2 n _ _ f1
    simp only [List.cons.injEq, and_true] at h0
    subst h0
    exact ⟨(a, e), i64_bd hb, _, rfl, he, hn⟩
end

section
variable {H : Type} {enc : TypeId × Value → H} {w : World} {r : Reach} {b0 : Nat} {v : Value} {d : DataW H} {ps : List MemPlace}
/-- An argument that is a query. -/
theorem open_q2 (hval : Value.okWide Tryd.prog w r b0 38 v) (hd : DataW.Trod enc Tryd.prog w 0 (fun _ => true) true 38 v d ps) :
    ∃ (ev : Int) (cs : List Value) (e : Ex), v = .agg (.int .i64 ev :: cs).toArray ∧ IsEx w.heap.size w e cs ∧ (-9223372036854775808 ≤ ev ∧ ev ≤ 9223372036854775807) ∧ e.num64 := by
  obtain ⟨cs, rfl, _⟩ := okWide_struct Tryd.underlying38 hval
  obtain ⟨fuel, hf⟩ := hd
  obtain ⟨⟨ev, e⟩, hb, cs', hc, he, hn⟩ := q_of_trod2 (fuel := fuel) (r := cs.toList) (by simpa [Value.cells] using hf)
  exact ⟨ev, cs', e, by rw [← hc], he, hb, hn⟩
end
end Go.Proofs.YtobelmipjanibaaDoor
