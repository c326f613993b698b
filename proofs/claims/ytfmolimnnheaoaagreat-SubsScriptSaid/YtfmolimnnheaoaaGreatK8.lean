/- From what an argument reads as to lists of results in memory. -/
import Derived.Test.YtfmolimnnheaoaaGreatK4
import Derived.Test.YtfmolimnnheaoaaGreatK7
import Derived.Test.YtfmolimnnheaoaaGreatK2
namespace Go.Proofs.YtfmolimnnheaoaaGreat
open Go.ChangeShapes Go.WideShapes Go.ChangeAt Go.RowKit
set_option linter.unusedVariables false
set_option maxRecDepth 100000

theorem i64_bd {n : Int} (h : (Lit.int .i64 n).wf = true) : i64 n := by
  simp [Lit.wf, IntKind.min, IntKind.max, IntKind.signed, IntKind.bits] at h
  constructor <;> omega
section
variable {H : Type} {enc : TypeId × Value → H} {w : World} {base : Nat} {spare : Nat → Bool} {held : Bool} {fuel : Nat} {x : DataW H × List MemPlace}
theorem res_of_trod {r : List Value} (h : DataW.trod enc Tryz.prog w base spare held fuel 95 r = some x) : ∃ m : Rs, RsRow w.heap.size w m r := by
  obtain ⟨xs, n, rfl, _, hl, hxs, hf⟩ := DataW.trod_struct Tryz.underlying95 h
  have c3 : Tryz.prog.cellsOf 95 = 3 := by kernel_rfl
  have cl : Tryz.prog.cellsOf 91 = 1 := by kernel_rfl
  have cv : Tryz.prog.cellsOf 93 = 2 := by kernel_rfl
  have cj : Tryz.prog.cellsOf 2 = 1 := by kernel_rfl
  have cb : Tryz.prog.cellsOf 4 = 1 := by kernel_rfl
  rw [c3] at hl
  have hxs : xs.length = 2 := hxs
  match r, hl with
  | [r0, r1, r2], _ =>
    have f0 : DataW.trod enc Tryz.prog w base spare held n 91 (List.take (Tryz.prog.cellsOf 91) (List.drop 0 [r0, r1, r2])) = xs[0]? := hf 0 _ rfl
    have f1 : DataW.trod enc Tryz.prog w base spare held n 93 (List.take (Tryz.prog.cellsOf 93) (List.drop 1 [r0, r1, r2])) = xs[1]? := hf 1 _ rfl
    simp only [cl, cv, List.drop_zero, List.drop_succ_cons, List.take_succ_cons, List.take_zero] at f0 f1
    rw [List.getElem?_eq_getElem (by omega)] at f0 f1
    obtain ⟨l, hL⟩ := labs_of_trod f0
    obtain ⟨p, c, hv, -⟩ := hL.open
    subst hv
    obtain ⟨ys, m, rfl, _, hl4, hys, hg⟩ := DataW.trod_struct Tryz.underlying93 f1
    have hys : ys.length = 2 := hys
    have g0 : DataW.trod enc Tryz.prog w base spare held m 2 (List.take (Tryz.prog.cellsOf 2) (List.drop 0 [r1, r2])) = ys[0]? := hg 0 _ rfl
    have g1 : DataW.trod enc Tryz.prog w base spare held m 4 (List.take (Tryz.prog.cellsOf 4) (List.drop 1 [r1, r2])) = ys[1]? := hg 1 _ rfl
    simp only [cj, cb, List.drop_zero, List.drop_succ_cons, List.take_succ_cons, List.take_zero] at g0 g1
    rw [List.getElem?_eq_getElem (by omega)] at g0 g1
    obtain ⟨a, h4, _, b4⟩ := DataW.trod_int Tryz.underlying2 g0
    obtain ⟨b, h5, _⟩ := DataW.trod_bool Tryz.underlying4 g1
    simp only [List.cons.injEq, and_true] at h4 h5
    subst h4 h5
    exact ⟨⟨l, a, b⟩, p, c, rfl, hL, i64_bd b4⟩
theorem ress_of_trod {v : Value} (h : DataW.trod enc Tryz.prog w base spare held fuel 32 [v] = some x) : ∃ l, IsRes w.heap.size w v l := by
  obtain ⟨rows, ha, hlen, n, _, hr⟩ := arr_of_trod Tryz.underlying32 (sz := 3) (by kernel_rfl) (by decide) h
  obtain ⟨l, hl, hR⟩ := list_choose (R := fun (r : List Value) (m : Rs) => RsRow w.heap.size w m r) rows (fun r hr' => by
    obtain ⟨y, hy⟩ := hr r hr'
    exact res_of_trod hy)
  exact ⟨l, rows, ha, hl.symm, fun k row r h1 h2 => hR k row r h1 h2⟩
end
section
variable {H : Type} {enc : TypeId × Value → H} {w : World} {r : Reach} {b0 : Nat} {v : Value} {d : DataW H} {ps : List MemPlace}
theorem open_ress (hval : Value.okWide Tryz.prog w r b0 32 v) (hd : DataW.Trod enc Tryz.prog w 0 (fun _ => true) true 32 v d ps) :
    ∃ l, IsRes w.heap.size w v l ∧ (∀ len cap, v = .slice none len cap → cap = 0) := by
  obtain ⟨a, len, cap, rfl⟩ := okWide_slice Tryz.underlying32 hval
  obtain ⟨fuel, hf⟩ := hd
  have hf' : DataW.trod enc Tryz.prog w 0 (fun _ => true) true fuel 32 [.slice a len cap] = some (d, ps) := by simpa [Value.cells] using hf
  obtain ⟨l, h1⟩ := ress_of_trod hf'
  exact ⟨l, h1, room_of_trod Tryz.underlying32 hf'⟩
end
end Go.Proofs.YtfmolimnnheaoaaGreat

/- From what an argument reads as to calls of a board, and lists of calls, in memory. (For SubsScript.) -/
namespace Go.Proofs.YtfmolimnnheaoaaGreat
open Go.ChangeShapes Go.WideShapes Go.ChangeAt Go.RowKit
set_option linter.unusedVariables false
set_option maxRecDepth 100000

section
variable {H : Type} {enc : TypeId × Value → H} {w : World} {base : Nat} {spare : Nat → Bool} {held : Bool} {fuel : Nat} {x : DataW H × List MemPlace}
/-- A call of a board. -/
structure CallR where
  kind : Int
  query : Int
  sub : Int
  time : Int
  ttime : Int
  res : Value
  n : Int
def CallR.cells (c : CallR) : List Value := [.int .i64 c.kind, .int .i64 c.query, .int .i64 c.sub, .int .i64 c.time, .int .i64 c.ttime, c.res, .int .i64 c.n]
def CallR.ok (c : CallR) : Prop := i64 c.kind ∧ i64 c.query ∧ i64 c.sub ∧ i64 c.time ∧ i64 c.ttime ∧ i64 c.n
theorem call_of_trod {r : List Value} (h : DataW.trod enc Tryz.prog w base spare held fuel 36 r = some x) : ∃ c : CallR, r = c.cells ∧ c.ok ∧ ∃ rs, IsRes w.heap.size w c.res rs := by
  obtain ⟨xs, n, rfl, _, hl, hxs, hf⟩ := DataW.trod_struct Tryz.underlying36 h
  have c7 : Tryz.prog.cellsOf 36 = 7 := by kernel_rfl
  have ci : Tryz.prog.cellsOf 3 = 1 := by kernel_rfl
  have cj : Tryz.prog.cellsOf 2 = 1 := by kernel_rfl
  have ct : Tryz.prog.cellsOf 34 = 2 := by kernel_rfl
  have cr : Tryz.prog.cellsOf 32 = 1 := by kernel_rfl
  rw [c7] at hl
  have hxs : xs.length = 6 := hxs
  match r, hl with
  | [r0, r1, r2, r3, r4, r5, r6], _ =>
    have f0 : DataW.trod enc Tryz.prog w base spare held n 3 (List.take (Tryz.prog.cellsOf 3) (List.drop 0 [r0, r1, r2, r3, r4, r5, r6])) = xs[0]? := hf 0 _ rfl
    have f1 : DataW.trod enc Tryz.prog w base spare held n 3 (List.take (Tryz.prog.cellsOf 3) (List.drop 1 [r0, r1, r2, r3, r4, r5, r6])) = xs[1]? := hf 1 _ rfl
    have f2 : DataW.trod enc Tryz.prog w base spare held n 3 (List.take (Tryz.prog.cellsOf 3) (List.drop 2 [r0, r1, r2, r3, r4, r5, r6])) = xs[2]? := hf 2 _ rfl
    have f3 : DataW.trod enc Tryz.prog w base spare held n 2 (List.take (Tryz.prog.cellsOf 2) (List.drop 3 [r0, r1, r2, r3, r4, r5, r6])) = xs[3]? := hf 3 _ rfl
    have f4 : DataW.trod enc Tryz.prog w base spare held n 34 (List.take (Tryz.prog.cellsOf 34) (List.drop 4 [r0, r1, r2, r3, r4, r5, r6])) = xs[4]? := hf 4 _ rfl
    have f5 : DataW.trod enc Tryz.prog w base spare held n 3 (List.take (Tryz.prog.cellsOf 3) (List.drop 6 [r0, r1, r2, r3, r4, r5, r6])) = xs[5]? := hf 5 _ rfl
    simp only [ci, cj, ct, List.drop_zero, List.drop_succ_cons, List.take_succ_cons, List.take_zero] at f0 f1 f2 f3 f4 f5
    rw [List.getElem?_eq_getElem (by omega)] at f0 f1 f2 f3 f4 f5
    obtain ⟨a0, h0, _, b0⟩ := DataW.trod_int Tryz.underlying3 f0
    obtain ⟨a1, h1, _, b1⟩ := DataW.trod_int Tryz.underlying3 f1
    obtain ⟨a2, h2, _, b2⟩ := DataW.trod_int Tryz.underlying3 f2
    obtain ⟨a3, h3, _, b3⟩ := DataW.trod_int Tryz.underlying2 f3
    obtain ⟨a6, h6, _, b6⟩ := DataW.trod_int Tryz.underlying3 f5
    obtain ⟨ys, m, rfl, _, hl4, hys, hg⟩ := DataW.trod_struct Tryz.underlying34 f4
    have hys : ys.length = 2 := hys
    have g0 : DataW.trod enc Tryz.prog w base spare held m 2 (List.take (Tryz.prog.cellsOf 2) (List.drop 0 [r4, r5])) = ys[0]? := hg 0 _ rfl
    have g1 : DataW.trod enc Tryz.prog w base spare held m 32 (List.take (Tryz.prog.cellsOf 32) (List.drop 1 [r4, r5])) = ys[1]? := hg 1 _ rfl
    simp only [cj, cr, List.drop_zero, List.drop_succ_cons, List.take_succ_cons, List.take_zero] at g0 g1
    rw [List.getElem?_eq_getElem (by omega)] at g0 g1
    obtain ⟨a4, h4, _, b4⟩ := DataW.trod_int Tryz.underlying2 g0
    obtain ⟨vec, hv⟩ := ress_of_trod g1
    simp only [List.cons.injEq, and_true] at h0 h1 h2 h3 h4 h6
    subst h0 h1 h2 h3 h4 h6
    exact ⟨⟨a0, a1, a2, a3, a4, r5, a6⟩, rfl, ⟨i64_bd b0, i64_bd b1, i64_bd b2, i64_bd b3, i64_bd b4, i64_bd b6⟩, vec, hv⟩
theorem calls_of_trod {v : Value} (h : DataW.trod enc Tryz.prog w base spare held fuel 22 [v] = some x) : ∃ l : List CallR, Arr w.heap.size w v 7 (l.map CallR.cells) ∧ ∀ c ∈ l, c.ok ∧ ∃ rs, IsRes w.heap.size w c.res rs := by
  obtain ⟨rows, ha, hlen, n, _, hr⟩ := arr_of_trod Tryz.underlying22 (sz := 7) (by kernel_rfl) (by decide) h
  obtain ⟨l, hl, hR⟩ := list_choose (R := fun (r : List Value) (c : CallR) => r = c.cells ∧ c.ok ∧ ∃ rs, IsRes w.heap.size w c.res rs) rows (fun r hr' => by
    obtain ⟨y, hy⟩ := hr r hr'
    exact call_of_trod hy)
  have he : rows = l.map CallR.cells := by
    apply List.ext_getElem
    · simp [hl]
    · intro k h1 h2
      have := (hR k rows[k] (l[k]'(by omega)) (by simp) (by simp)).1
      simpa using this
  refine ⟨l, by rw [← he]; exact ha, fun m hm => ?_⟩
  obtain ⟨k, hk, rfl⟩ := List.getElem_of_mem hm
  exact (hR k (rows[k]'(by omega)) l[k] (by simp) (by simp)).2
end
section
variable {H : Type} {enc : TypeId × Value → H} {w : World} {r : Reach} {b0 : Nat} {v : Value} {d : DataW H} {ps : List MemPlace}
/-- An argument that is a call. -/
theorem open_call (hval : Value.okWide Tryz.prog w r b0 36 v) (hd : DataW.Trod enc Tryz.prog w 0 (fun _ => true) true 36 v d ps) :
    ∃ c : CallR, v = .agg c.cells.toArray ∧ c.ok ∧ ∃ rs, IsRes w.heap.size w c.res rs := by
  obtain ⟨cs, rfl, _⟩ := okWide_struct Tryz.underlying36 hval
  obtain ⟨fuel, hf⟩ := hd
  obtain ⟨c, hc, h1, h2⟩ := call_of_trod (fuel := fuel) (r := cs.toList) (by simpa [Value.cells] using hf)
  exact ⟨c, by rw [← hc], h1, h2⟩
/-- An argument that is a list of calls. -/
theorem open_calls (hval : Value.okWide Tryz.prog w r b0 22 v) (hd : DataW.Trod enc Tryz.prog w 0 (fun _ => true) true 22 v d ps) :
    ∃ l : List CallR, Arr w.heap.size w v 7 (l.map CallR.cells) ∧ ∀ c ∈ l, c.ok ∧ ∃ rs, IsRes w.heap.size w c.res rs := by
  obtain ⟨a, len, cap, rfl⟩ := okWide_slice Tryz.underlying22 hval
  obtain ⟨fuel, hf⟩ := hd
  have hf' : DataW.trod enc Tryz.prog w 0 (fun _ => true) true fuel 22 [.slice a len cap] = some (d, ps) := by simpa [Value.cells] using hf
  exact calls_of_trod hf'
end
end Go.Proofs.YtfmolimnnheaoaaGreat
