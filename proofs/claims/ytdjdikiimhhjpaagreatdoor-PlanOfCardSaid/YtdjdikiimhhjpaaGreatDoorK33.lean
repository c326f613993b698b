/- From what an argument reads as to lists of queries, nodes, numbers, truths in memory. -/
import Derived.Test.YtdjdikiimhhjpaaGreatDoorK32
import Derived.Test.YtdjdikiimhhjpaaGreatDoorK7
import Derived.Test.YtdjdikiimhhjpaaGreatDoorK11
set_option maxRecDepth 100000
set_option maxHeartbeats 16000000
namespace Go.Proofs.YtdjdikiimhhjpaaGreatDoor
set_option maxRecDepth 100000
open Go.ChangeShapes Go.WideShapes Go.ChangeAt Go.RowKit
set_option linter.unusedVariables false
def IsBools (n : Nat) (w : World) (v : Value) (l : List Bool) : Prop := Arr n w v 1 (l.map fun b => [.bool b])
section
variable {H : Type} {enc : TypeId × Value → H} {w : World} {base : Nat} {spare : Nat → Bool} {held : Bool} {fuel : Nat} {x : DataW H × List MemPlace}
theorem room_of_trod {t e : TypeId} {v : Value} (ht : Tryz.prog.underlying t = some (.slice e)) (h : DataW.trod enc Tryz.prog w base spare held fuel t [v] = some x) : ∀ len cap, v = .slice none len cap → cap = 0 := by
  intro len cap hv
  subst hv
  rcases DataW.trod_slice ht h with ⟨hv, _⟩ | ⟨a, len', cap', elems, rest, n, _, hv, _⟩
  · simp at hv; exact hv.2
  · simp at hv
theorem ints_of_trod {v : Value} (h : DataW.trod enc Tryz.prog w base spare held fuel 26 [v] = some x) : ∃ l : List Int, IsInts w.heap.size w v l ∧ ∀ i ∈ l, i64 i := by
  obtain ⟨rows, ha, hlen, n, _, hr⟩ := arr_of_trod Tryz.underlying26 (sz := 1) (by kernel_rfl) (by decide) h
  obtain ⟨l, hl, hR⟩ := list_choose (R := fun (r : List Value) (i : Int) => r = [.int .i64 i] ∧ i64 i) rows (fun r hr' => by
    obtain ⟨y, hy⟩ := hr r hr'; obtain ⟨i, h1, _, h2⟩ := DataW.trod_int Tryz.underlying3 hy; exact ⟨i, h1, i64_bd h2⟩)
  have he : rows = l.map fun i => [.int .i64 i] := by
    apply List.ext_getElem
    · simp [hl]
    · intro k h1 h2
      have := (hR k rows[k] (l[k]'(by omega)) (by simp) (by simp)).1
      simpa using this
  refine ⟨l, by unfold IsInts; rw [← he]; exact ha, fun m hm => ?_⟩
  obtain ⟨k, hk, rfl⟩ := List.getElem_of_mem hm
  exact (hR k (rows[k]'(by omega)) l[k] (by simp) (by simp)).2
theorem qs_of_trod {v : Value} (h : DataW.trod enc Tryz.prog w base spare held fuel 22 [v] = some x) : ∃ l, IsQs w.heap.size w v l ∧ ∀ q ∈ l, i64 q.1 ∧ q.2.num64 := by
  obtain ⟨rows, ha, hlen, n, _, hr⟩ := arr_of_trod Tryz.underlying22 (sz := 10) (by kernel_rfl) (by decide) h
  obtain ⟨l, hl, hR⟩ := list_choose (R := fun (r : List Value) (q : Int × Ex) => (i64 q.1 ∧ q.2.num64) ∧ ∃ cs, r = .int .i64 q.1 :: cs ∧ IsEx w.heap.size w q.2 cs) rows (fun r hr' => by
    obtain ⟨y, hy⟩ := hr r hr'; obtain ⟨q, h1, cs, h2, h3, h4⟩ := q_of_trod2 hy; exact ⟨q, ⟨h1, h4⟩, cs, h2, h3⟩)
  refine ⟨l, ⟨rows, ha, hl.symm, fun k r q h1 h2 => (hR k r q h1 h2).2⟩, fun q hq => ?_⟩
  obtain ⟨k, hk, rfl⟩ := List.getElem_of_mem hq
  exact (hR k (rows[k]'(by omega)) l[k] (by simp) (by simp)).1
theorem nd_of_trod {r : List Value} (h : DataW.trod enc Tryz.prog w base spare held fuel 39 r = some x) : ∃ y : Nd, (i64 y.every ∧ y.ex.num64 ∧ ∀ i ∈ y.ins, i64 i) ∧ IsNd w.heap.size w y r := by
  obtain ⟨xs, n, rfl, _, hl, hxs, hf⟩ := DataW.trod_struct Tryz.underlying39 h
  have c11 : Tryz.prog.cellsOf 39 = 11 := by kernel_rfl
  have cj : Tryz.prog.cellsOf 2 = 1 := by kernel_rfl
  have c9 : Tryz.prog.cellsOf 37 = 9 := by kernel_rfl
  have ci : Tryz.prog.cellsOf 26 = 1 := by kernel_rfl
  rw [c11] at hl
  have hxs : xs.length = 3 := hxs
  match r, hl with
  | [r0, r1, r2, r3, r4, r5, r6, r7, r8, r9, r10], _ =>
    have f0 : DataW.trod enc Tryz.prog w base spare held n 2 (List.take (Tryz.prog.cellsOf 2) (List.drop 0 [r0, r1, r2, r3, r4, r5, r6, r7, r8, r9, r10])) = xs[0]? := hf 0 _ rfl; have f1 : DataW.trod enc Tryz.prog w base spare held n 37 (List.take (Tryz.prog.cellsOf 37) (List.drop 1 [r0, r1, r2, r3, r4, r5, r6, r7, r8, r9, r10])) = xs[1]? := hf 1 _ rfl; have f2 : DataW.trod enc Tryz.prog w base spare held n 26 (List.take (Tryz.prog.cellsOf 26) (List.drop 10 [r0, r1, r2, r3, r4, r5, r6, r7, r8, r9, r10])) = xs[2]? := hf 2 _ rfl; simp only [cj, c9, ci, List.drop_zero, List.drop_succ_cons, List.take_succ_cons, List.take_zero] at f0 f1 f2; rw [List.getElem?_eq_getElem (by omega)] at f0 f1 f2; obtain ⟨a, h0, _, hb⟩ := DataW.trod_int Tryz.underlying2 f0; obtain ⟨e, he, hn⟩ := ex_of_trod2 n _ _ f1; obtain ⟨l, hi, hi2⟩ := ints_of_trod f2; simp only [List.cons.injEq, and_true] at h0; subst h0; exact ⟨⟨a, e, l⟩, ⟨i64_bd hb, hn, hi2⟩, [r1, r2, r3, r4, r5, r6, r7, r8, r9], r10, rfl, he, hi⟩
theorem nds_of_trod {v : Value} (h : DataW.trod enc Tryz.prog w base spare held fuel 25 [v] = some x) : ∃ l, IsNds w.heap.size w v l ∧ ∀ y ∈ l, i64 y.every ∧ y.ex.num64 ∧ ∀ i ∈ y.ins, i64 i := by
  obtain ⟨rows, ha, hlen, n, _, hr⟩ := arr_of_trod Tryz.underlying25 (sz := 11) (by kernel_rfl) (by decide) h
  obtain ⟨l, hl, hR⟩ := list_choose (R := fun (r : List Value) (y : Nd) => (i64 y.every ∧ y.ex.num64 ∧ ∀ i ∈ y.ins, i64 i) ∧ IsNd w.heap.size w y r) rows (fun r hr' => by
    obtain ⟨z, hz⟩ := hr r hr'; exact nd_of_trod hz)
  refine ⟨l, ⟨rows, ha, hl.symm, fun k r y h1 h2 => (hR k r y h1 h2).2⟩, fun y hy => ?_⟩
  obtain ⟨k, hk, rfl⟩ := List.getElem_of_mem hy
  exact (hR k (rows[k]'(by omega)) l[k] (by simp) (by simp)).1
end
section
variable {H : Type} {enc : TypeId × Value → H} {w : World} {r : Reach} {b0 : Nat} {v : Value} {d : DataW H} {ps : List MemPlace}
theorem open_qs (hval : Value.okWide Tryz.prog w r b0 22 v) (hd : DataW.Trod enc Tryz.prog w 0 (fun _ => true) true 22 v d ps) :
    ∃ l, IsQs w.heap.size w v l ∧ (∀ len cap, v = .slice none len cap → cap = 0) ∧ ∀ q ∈ l, i64 q.1 ∧ q.2.num64 := by
  obtain ⟨a, len, cap, rfl⟩ := okWide_slice Tryz.underlying22 hval
  obtain ⟨fuel, hf⟩ := hd
  have hf' : DataW.trod enc Tryz.prog w 0 (fun _ => true) true fuel 22 [.slice a len cap] = some (d, ps) := by simpa [Value.cells] using hf
  obtain ⟨l, h1, h2⟩ := qs_of_trod hf'
  exact ⟨l, h1, room_of_trod Tryz.underlying22 hf', h2⟩
theorem open_nds (hval : Value.okWide Tryz.prog w r b0 25 v) (hd : DataW.Trod enc Tryz.prog w 0 (fun _ => true) true 25 v d ps) :
    ∃ l, IsNds w.heap.size w v l ∧ (∀ len cap, v = .slice none len cap → cap = 0) ∧ ∀ y ∈ l, i64 y.every ∧ y.ex.num64 ∧ ∀ i ∈ y.ins, i64 i := by
  obtain ⟨a, len, cap, rfl⟩ := okWide_slice Tryz.underlying25 hval
  obtain ⟨fuel, hf⟩ := hd
  have hf' : DataW.trod enc Tryz.prog w 0 (fun _ => true) true fuel 25 [.slice a len cap] = some (d, ps) := by simpa [Value.cells] using hf
  obtain ⟨l, h1, h2⟩ := nds_of_trod hf'
  exact ⟨l, h1, room_of_trod Tryz.underlying25 hf', h2⟩
theorem open_ints (hval : Value.okWide Tryz.prog w r b0 26 v) (hd : DataW.Trod enc Tryz.prog w 0 (fun _ => true) true 26 v d ps) :
    ∃ l : List Int, IsInts w.heap.size w v l ∧ (∀ len cap, v = .slice none len cap → cap = 0) ∧ ∀ i ∈ l, i64 i := by
  obtain ⟨a, len, cap, rfl⟩ := okWide_slice Tryz.underlying26 hval
  obtain ⟨fuel, hf⟩ := hd
  have hf' : DataW.trod enc Tryz.prog w 0 (fun _ => true) true fuel 26 [.slice a len cap] = some (d, ps) := by simpa [Value.cells] using hf
  obtain ⟨l, h1, h2⟩ := ints_of_trod hf'
  exact ⟨l, h1, room_of_trod Tryz.underlying26 hf', h2⟩
end
end Go.Proofs.YtdjdikiimhhjpaaGreatDoor
