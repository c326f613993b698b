/- From what an argument reads as to series, and lists of series, in memory. -/
import Derived.Test.YtkheeiipkdeihaaLaO
import Derived.Test.YtkheeiipkdeihaaNt14
namespace Go.Proofs.Ytkheeiipkdeihaa
open Go.ChangeShapes Go.WideShapes Go.ChangeAt Go.RowKit
set_option linter.unusedVariables false
set_option maxRecDepth 100000

section
variable {H : Type} {enc : TypeId × Value → H} {w : World} {base : Nat} {spare : Nat → Bool} {held : Bool} {fuel : Nat} {x : DataW H × List MemPlace}
theorem ser_of_trod {r : List Value} (h : DataW.trod enc Try.prog w base spare held fuel 33 r = some x) : ∃ s : Sr, SerRow w.heap.size w s r := by
  obtain ⟨xs, n, rfl, _, hl, hxs, hf⟩ := DataW.trod_struct Try.underlying33 h
  have c2 : Try.prog.cellsOf 33 = 2 := by kernel_rfl
  have cs : Try.prog.cellsOf 9 = 1 := by kernel_rfl
  have cl : Try.prog.cellsOf 31 = 1 := by kernel_rfl
  rw [c2] at hl
  have hxs : xs.length = 2 := hxs
  match r, hl with
  | [r0, r1], _ =>
    have f0 : DataW.trod enc Try.prog w base spare held n 9 (List.take (Try.prog.cellsOf 9) (List.drop 0 [r0, r1])) = xs[0]? := hf 0 _ rfl
    have f1 : DataW.trod enc Try.prog w base spare held n 31 (List.take (Try.prog.cellsOf 31) (List.drop 1 [r0, r1])) = xs[1]? := hf 1 _ rfl
    simp only [cs, cl, List.drop_zero, List.drop_succ_cons, List.take_succ_cons, List.take_zero] at f0 f1
    rw [List.getElem?_eq_getElem (by omega)] at f0 f1
    obtain ⟨l, hL⟩ := labs_of_trod f1
    obtain ⟨p, c, hv, -⟩ := hL.open
    subst hv
    obtain ⟨b, h0, _, s0⟩ := DataW.trod_string Try.underlying9 f0
    simp only [List.cons.injEq, and_true] at h0
    subst h0
    exact ⟨⟨b, l⟩, p, c, rfl, hL, s0⟩
theorem sers_of_trod {v : Value} (h : DataW.trod enc Try.prog w base spare held fuel 22 [v] = some x) : ∃ l, IsSers w.heap.size w v l := by
  obtain ⟨rows, ha, hlen, n, _, hr⟩ := arr_of_trod Try.underlying22 (sz := 2) (by kernel_rfl) (by decide) h
  obtain ⟨l, hl, hR⟩ := list_choose (R := fun (r : List Value) (m : Sr) => SerRow w.heap.size w m r) rows (fun r hr' => by
    obtain ⟨y, hy⟩ := hr r hr'
    exact ser_of_trod hy)
  exact ⟨l, rows, ha, hl.symm, fun k row r h1 h2 => hR k row r h1 h2⟩
end
section
variable {H : Type} {enc : TypeId × Value → H} {w : World} {r : Reach} {b0 : Nat} {v : Value} {d : DataW H} {ps : List MemPlace}
theorem open_ser (hval : Value.okWide Try.prog w r b0 33 v) (hd : DataW.Trod enc Try.prog w 0 (fun _ => true) true 33 v d ps) :
    ∃ (s : Sr) (p : Option Addr) (c : Nat), v = .agg #[.string s.metric, .slice p s.labs.length c] ∧ IsLabs w.heap.size w (.slice p s.labs.length c) s.labs ∧ s.metric.size ≤ maxLen := by
  obtain ⟨cs, rfl, _⟩ := okWide_struct Try.underlying33 hval
  obtain ⟨fuel, hf⟩ := hd
  obtain ⟨s, p, c, hc, h1, h2⟩ := ser_of_trod (fuel := fuel) (r := cs.toList) (by simpa [Value.cells] using hf)
  refine ⟨s, p, c, ?_, h1, h2⟩
  obtain ⟨cs⟩ := cs
  simp only at hc
  rw [hc]
theorem open_sers (hval : Value.okWide Try.prog w r b0 22 v) (hd : DataW.Trod enc Try.prog w 0 (fun _ => true) true 22 v d ps) :
    ∃ l, IsSers w.heap.size w v l ∧ (∀ len cap, v = .slice none len cap → cap = 0) := by
  obtain ⟨a, len, cap, rfl⟩ := okWide_slice Try.underlying22 hval
  obtain ⟨fuel, hf⟩ := hd
  have hf' : DataW.trod enc Try.prog w 0 (fun _ => true) true fuel 22 [.slice a len cap] = some (d, ps) := by simpa [Value.cells] using hf
  obtain ⟨l, h1⟩ := sers_of_trod hf'
  exact ⟨l, h1, room_of_trod Try.underlying22 hf'⟩
end
end Go.Proofs.Ytkheeiipkdeihaa
