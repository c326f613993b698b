/- The function that AstCopy hands to Walk: it counts. -/
import Derived.Test.YtikaiiamoaahdaaWalk0
namespace Go.Proofs.Ytikaiiamoaahdaa
open Go.Shelf
open Go.RowKit
set_option linter.unusedSimpArgs false
set_option linter.unusedVariables false

theorem lCopy1 (x : Ex) (r : List Value) (n nb : Nat) (c : Int) (W : World) (hx : IsEx n W x r) (hb : Boxed W nb 3 (.int .i64 c)) (hc : 0 ≤ c ∧ c ≤ 1000000) :
    Calls Try.prog 34 #[.agg r.toArray, .pointer (some ⟨nb, 0, none⟩)] W fun e' W' => e' = .returned (.bool true) ∧ Boxed W' nb 3 (.int .i64 (c + 1)) ∧ W.grownBy W' (some nb) := by
  obtain ⟨pm, cm, pn, cn, pk, ck, rfl, _⟩ := hx.cellsE
  obtain ⟨hc1, hc2⟩ := hc
  have hb1 : ∀ o, Boxed (W.alloc o) nb 3 (.int .i64 c) := fun o => hb.alloc o
  have h1 := fun o => (hb1 o).cell
  have h2 := fun o => (hb1 o).frozen
  have HB := Lib.hid hb
  have HB1 := Lib.hid hb1; clear hb1 hb
  clear hx
  go_enter Try.func34, Try.ntmps34; (try simp only [List.append_eq, List.cons_append, List.nil_append])
  go_wp2
  go_ret
  have hlt := HB.out.lt
  refine ⟨rfl, ?_, ?_⟩
  · first
      | exact (HB1.out _).set _
      | exact (HB.out.set _).alloc _
  · refine ⟨rfl, rfl, rfl, by simp, fun k hk hne => ?_⟩
    have hne' : k ≠ nb := fun e => hne (by rw [e])
    first
      | exact (Below.heap_setCell _ _ _ _ hne').trans (Below.heap_alloc _ _ _ hk)
      | exact (Below.heap_alloc _ _ _ (by simpa using hk)).trans (Below.heap_setCell _ _ _ _ hne')

/-- What holds of the count. -/
def CntJ (base nb : Nat) (w0 : World) (b : Bool) (l : List Ex) (W : World) : Prop := b = true ∧ Boxed W nb 3 (.int .i64 l.length) ∧ Below base w0 W ∧ base ≤ W.heap.size

theorem cntWatch {B n base nb : Nat} {w0 : World} (hn : n ≤ nb) (hb : base ≤ nb) (hB : nb < B) : Watch B n (Vc nb) (Xc nb) (CntJ base nb w0) where
  dirty := dirtyC hn
  jv := fun b l W h => h.2.1.lt
  cells := fun b l W k h hx => by
    have hx : k = nb := hx
    subst hx
    exact ⟨_, h.2.1, rfl⟩
  keep := fun b l W W' ⟨h1, h2, h3, h4⟩ hs => ⟨h1, (hs.block nb h2.lt (.inr rfl)).trans h2, h3.trans ⟨hs.os, hs.tape, hs.output, hs.size, fun j hj => hs.block j (by omega) (.inl (by omega))⟩, Nat.le_trans h4 hs.size⟩
  xs := fun b l W W' k h hs hx => hx

theorem cntEach {n base nb N : Nat} {w0 : World} (hb : base ≤ nb) (hN : N ≤ 1000000) (pre : List Ex) (x : Ex) (r : List Value) (W : World) (hj : CntJ base nb w0 true pre W) (hx : IsEx n W x r) (hpre : pre.length < N) :
    Calls Try.prog 34 (#[.agg r.toArray] ++ #[.pointer (some ⟨nb, 0, none⟩)]) W fun e' W' => ∃ b, e' = .returned (.bool b) ∧ CntJ base nb w0 b (pre ++ [x]) W' ∧ (∀ B, KeepsFrom B W W') ∧ KpX (Vc nb) (Xc nb) W W' := by
  obtain ⟨h1, h2, h3, h4⟩ := hj
  refine (lCopy1 x r n nb pre.length W hx h2 ⟨by omega, by omega⟩).mono ?_
  rintro e' W' ⟨rfl, p1, p2⟩
  have hne : ∀ k, k < W.heap.size → k ≠ nb → W'.heap[k]? = W.heap[k]? := fun k hk hne => p2.block k hk (fun e => hne (by cases e; rfl))
  refine ⟨true, rfl, ⟨rfl, ?_, h3.trans ⟨p2.os, p2.tape, p2.output, p2.size, fun k hk => hne k (by omega) (by omega)⟩, Nat.le_trans h4 p2.size⟩, fun B => ⟨p2.size, fun k o _ hk ho => ?_⟩, fun hv => ⟨Nat.lt_of_lt_of_le hv p2.size, ⟨p2.size, fun k o hk _ hx => ?_, fun k hk => .inl hk⟩⟩⟩
  · rw [List.length_append, List.length_singleton]; push_cast; exact p1
  · refine (hne k (Array.getElem?_eq_some_iff.1 hk).1 ?_).trans hk
    rintro rfl
    rw [show W.heap[k]? = _ from h2] at hk; cases hk; cases ho
  · exact (hne k (Array.getElem?_eq_some_iff.1 hk).1 hx).trans hk

end Go.Proofs.Ytikaiiamoaahdaa
