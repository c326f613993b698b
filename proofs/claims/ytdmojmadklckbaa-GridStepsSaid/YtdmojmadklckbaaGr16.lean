/- From what an argument reads as to queries, lists of queries and of whole numbers in memory. -/
import Derived.Test.YtdmojmadklckbaaBridge
import Derived.Test.YtdmojmadklckbaaGr11
namespace Go.Proofs.Ytdmojmadklckbaa
open Go.ChangeShapes Go.WideShapes Go.ChangeAt Go.RowKit
set_option linter.unusedVariables false

section
variable {H : Type} {enc : TypeId × Value → H} {w : World} {base : Nat} {spare : Nat → Bool} {held : Bool} {fuel : Nat} {x : DataW H × List MemPlace}
/-- A nil slice that reads has no room. -/
theorem room_of_trod {t e : TypeId} {v : Value} (ht : Try.prog.underlying t = some (.slice e)) (h : DataW.trod enc Try.prog w base spare held fuel t [v] = some x) : ∀ len cap, v = .slice none len cap → cap = 0 := by
  intro len cap hv
  subst hv
  rcases DataW.trod_slice ht h with ⟨hv, _⟩ | ⟨a, len', cap', elems, rest, n, _, hv, _⟩
  · simp at hv; exact hv.2
  · simp at hv
theorem ints_of_trod {v : Value} (h : DataW.trod enc Try.prog w base spare held fuel 46 [v] = some x) : ∃ l : List Int, IsInts w.heap.size w v l ∧ ∀ i ∈ l, i64 i := by
  obtain ⟨rows, ha, hlen, n, _, hr⟩ := arr_of_trod Try.underlying46 (sz := 1) (by kernel_rfl) (by decide) h
  obtain ⟨l, hl, hR⟩ := list_choose (R := fun (r : List Value) (i : Int) => r = [.int .i64 i] ∧ i64 i) rows (fun r hr' => by
    obtain ⟨y, hy⟩ := hr r hr'
    obtain ⟨i, h1, _, h2⟩ := DataW.trod_int Try.underlying2 hy
    exact ⟨i, h1, i64_bd h2⟩)
  have he : rows = l.map fun i => [.int .i64 i] := by
    apply List.ext_getElem
    · simp [hl]
    · intro k h1 h2
      have := (hR k rows[k] (l[k]'(by omega)) (by simp) (by simp)).1
      simpa using this
  refine ⟨l, by unfold IsInts; rw [← he]; exact ha, fun m hm => ?_⟩
  obtain ⟨k, hk, rfl⟩ := List.getElem_of_mem hm
  exact (hR k (rows[k]'(by omega)) l[k] (by simp) (by simp)).2
theorem q_of_trod {r : List Value} (h : DataW.trod enc Try.prog w base spare held fuel 28 r = some x) : ∃ q : Int × Ex, i64 q.1 ∧ ∃ cs, r = .int .i64 q.1 :: cs ∧ IsEx w.heap.size w q.2 cs := by
  obtain ⟨xs, n, rfl, _, hl, hxs, hf⟩ := DataW.trod_struct Try.underlying28 h
  have c10 : Try.prog.cellsOf 28 = 10 := by kernel_rfl
  have cj : Try.prog.cellsOf 2 = 1 := by kernel_rfl
  have c9 : Try.prog.cellsOf 26 = 9 := by kernel_rfl
  rw [c10] at hl
  have hxs : xs.length = 2 := hxs
  match r, hl with
  | [r0, r1, r2, r3, r4, r5, r6, r7, r8, r9], _ =>
    have f0 : DataW.trod enc Try.prog w base spare held n 2 (List.take (Try.prog.cellsOf 2) (List.drop 0 [r0, r1, r2, r3, r4, r5, r6, r7, r8, r9])) = xs[0]? := hf 0 _ rfl
    have f1 : DataW.trod enc Try.prog w base spare held n 26 (List.take (Try.prog.cellsOf 26) (List.drop 1 [r0, r1, r2, r3, r4, r5, r6, r7, r8, r9])) = xs[1]? := hf 1 _ rfl
    simp only [cj, c9, List.drop_zero, List.drop_succ_cons, List.take_succ_cons, List.take_zero] at f0 f1
    rw [List.getElem?_eq_getElem (by omega)] at f0 f1
    obtain ⟨a, h0, _, hb⟩ := DataW.trod_int Try.underlying2 f0
    obtain ⟨e, he⟩ := ex_of_trod n _ _ f1
    simp only [List.cons.injEq, and_true] at h0
    subst h0
    exact ⟨(a, e), i64_bd hb, _, rfl, he⟩
theorem qs_of_trod {v : Value} (h : DataW.trod enc Try.prog w base spare held fuel 29 [v] = some x) : ∃ l, IsQs w.heap.size w v l ∧ ∀ q ∈ l, i64 q.1 := by
  obtain ⟨rows, ha, hlen, n, _, hr⟩ := arr_of_trod Try.underlying29 (sz := 10) (by kernel_rfl) (by decide) h
  obtain ⟨l, hl, hR⟩ := list_choose (R := fun (r : List Value) (q : Int × Ex) => i64 q.1 ∧ ∃ cs, r = .int .i64 q.1 :: cs ∧ IsEx w.heap.size w q.2 cs) rows (fun r hr' => by
    obtain ⟨y, hy⟩ := hr r hr'
    exact q_of_trod hy)
  refine ⟨l, ⟨rows, ha, hl.symm, fun k r q h1 h2 => (hR k r q h1 h2).2⟩, fun q hq => ?_⟩
  obtain ⟨k, hk, rfl⟩ := List.getElem_of_mem hq
  exact (hR k (rows[k]'(by omega)) l[k] (by simp) (by simp)).1
end

section
variable {H : Type} {enc : TypeId × Value → H} {w : World} {r : Reach} {b0 : Nat} {v : Value} {d : DataW H} {ps : List MemPlace}
/-- An argument that is a query. -/
theorem open_q (hval : Value.okWide Try.prog w r b0 28 v) (hd : DataW.Trod enc Try.prog w 0 (fun _ => true) true 28 v d ps) :
    ∃ (ev : Int) (cs : List Value) (e : Ex), v = .agg (.int .i64 ev :: cs).toArray ∧ IsEx w.heap.size w e cs ∧ i64 ev := by
  obtain ⟨cs, rfl, _⟩ := okWide_struct Try.underlying28 hval
  obtain ⟨fuel, hf⟩ := hd
  obtain ⟨⟨ev, e⟩, hb, cs', hc, he⟩ := q_of_trod (fuel := fuel) (r := cs.toList) (by simpa [Value.cells] using hf)
  exact ⟨ev, cs', e, by rw [← hc], he, hb⟩
/-- An argument that is a list of queries. -/
theorem open_qs (hval : Value.okWide Try.prog w r b0 29 v) (hd : DataW.Trod enc Try.prog w 0 (fun _ => true) true 29 v d ps) :
    ∃ l, IsQs w.heap.size w v l ∧ (∀ len cap, v = .slice none len cap → cap = 0) ∧ ∀ q ∈ l, i64 q.1 := by
  obtain ⟨a, len, cap, rfl⟩ := okWide_slice Try.underlying29 hval
  obtain ⟨fuel, hf⟩ := hd
  have hf' : DataW.trod enc Try.prog w 0 (fun _ => true) true fuel 29 [.slice a len cap] = some (d, ps) := by simpa [Value.cells] using hf
  obtain ⟨l, h1, h2⟩ := qs_of_trod hf'
  exact ⟨l, h1, room_of_trod Try.underlying29 hf', h2⟩
/-- An argument that is a list of whole numbers. -/
theorem open_ints (hval : Value.okWide Try.prog w r b0 46 v) (hd : DataW.Trod enc Try.prog w 0 (fun _ => true) true 46 v d ps) :
    ∃ l : List Int, IsInts w.heap.size w v l ∧ (∀ len cap, v = .slice none len cap → cap = 0) ∧ ∀ i ∈ l, i64 i := by
  obtain ⟨a, len, cap, rfl⟩ := okWide_slice Try.underlying46 hval
  obtain ⟨fuel, hf⟩ := hd
  have hf' : DataW.trod enc Try.prog w 0 (fun _ => true) true fuel 46 [.slice a len cap] = some (d, ps) := by simpa [Value.cells] using hf
  obtain ⟨l, h1, h2⟩ := ints_of_trod hf'
  exact ⟨l, h1, room_of_trod Try.underlying46 hf', h2⟩
end
end Go.Proofs.Ytdmojmadklckbaa
