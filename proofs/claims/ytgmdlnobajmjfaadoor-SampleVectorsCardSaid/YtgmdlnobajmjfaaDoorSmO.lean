/- From what an argument reads as to lists of results in memory. -/
import Derived.Test.YtgmdlnobajmjfaaDoorLaO
import Derived.Test.YtgmdlnobajmjfaaDoorSm2
namespace Go.Proofs.YtgmdlnobajmjfaaDoor
open Go.ChangeShapes Go.WideShapes Go.ChangeAt Go.RowKit
set_option linter.unusedVariables false
set_option maxRecDepth 100000

theorem i64_bd {n : Int} (h : (Lit.int .i64 n).wf = true) : i64 n := by
  simp [Lit.wf, IntKind.min, IntKind.max, IntKind.signed, IntKind.bits] at h
  constructor <;> omega
section
variable {H : Type} {enc : TypeId × Value → H} {w : World} {base : Nat} {spare : Nat → Bool} {held : Bool} {fuel : Nat} {x : DataW H × List MemPlace}
theorem res_of_trod {r : List Value} (h : DataW.trod enc Tryd.prog w base spare held fuel 39 r = some x) : ∃ m : Rs, RsRow w.heap.size w m r := by
  obtain ⟨xs, n, rfl, _, hl, hxs, hf⟩ := DataW.trod_struct Tryd.underlying39 h
  have c3 : Tryd.prog.cellsOf 39 = 3 := by kernel_rfl
  have cl : Tryd.prog.cellsOf 23 = 1 := by kernel_rfl
  have cv : Tryd.prog.cellsOf 31 = 2 := by kernel_rfl
  have cj : Tryd.prog.cellsOf 2 = 1 := by kernel_rfl
  have cb : Tryd.prog.cellsOf 4 = 1 := by kernel_rfl
  rw [c3] at hl
  have hxs : xs.length = 2 := hxs
  match r, hl with
  | [r0, r1, r2], _ =>
    have f0 : DataW.trod enc Tryd.prog w base spare held n 23 (List.take (Tryd.prog.cellsOf 23) (List.drop 0 [r0, r1, r2])) = xs[0]? := hf 0 _ rfl
    have f1 : DataW.trod enc Tryd.prog w base spare held n 31 (List.take (Tryd.prog.cellsOf 31) (List.drop 1 [r0, r1, r2])) = xs[1]? := hf 1 _ rfl
    simp only [cl, cv, List.drop_zero, List.drop_succ_cons, List.take_succ_cons, List.take_zero] at f0 f1
    rw [List.getElem?_eq_getElem (by omega)] at f0 f1
    obtain ⟨l, hL⟩ := labs_of_trod f0
    obtain ⟨p, c, hv, -⟩ := hL.open
    subst hv
    obtain ⟨ys, m, rfl, _, hl4, hys, hg⟩ := DataW.trod_struct Tryd.underlying31 f1
    have hys : ys.length = 2 := hys
    have g0 : DataW.trod enc Tryd.prog w base spare held m 2 (List.take (Tryd.prog.cellsOf 2) (List.drop 0 [r1, r2])) = ys[0]? := hg 0 _ rfl
    have g1 : DataW.trod enc Tryd.prog w base spare held m 4 (List.take (Tryd.prog.cellsOf 4) (List.drop 1 [r1, r2])) = ys[1]? := hg 1 _ rfl
    simp only [cj, cb, List.drop_zero, List.drop_succ_cons, List.take_succ_cons, List.take_zero] at g0 g1
    rw [List.getElem?_eq_getElem (by omega)] at g0 g1
    obtain ⟨a, h4, _, b4⟩ := DataW.trod_int Tryd.underlying2 g0
    obtain ⟨b, h5, _⟩ := DataW.trod_bool Tryd.underlying4 g1
    simp only [List.cons.injEq, and_true] at h4 h5
    subst h4 h5
    exact ⟨⟨l, a, b⟩, p, c, rfl, hL, i64_bd b4⟩
theorem ress_of_trod {v : Value} (h : DataW.trod enc Tryd.prog w base spare held fuel 22 [v] = some x) : ∃ l, IsRes w.heap.size w v l := by
  obtain ⟨rows, ha, hlen, n, _, hr⟩ := arr_of_trod Tryd.underlying22 (sz := 3) (by kernel_rfl) (by decide) h
  obtain ⟨l, hl, hR⟩ := list_choose (R := fun (r : List Value) (m : Rs) => RsRow w.heap.size w m r) rows (fun r hr' => by
    obtain ⟨y, hy⟩ := hr r hr'
    exact res_of_trod hy)
  exact ⟨l, rows, ha, hl.symm, fun k row r h1 h2 => hR k row r h1 h2⟩
end
section
variable {H : Type} {enc : TypeId × Value → H} {w : World} {r : Reach} {b0 : Nat} {v : Value} {d : DataW H} {ps : List MemPlace}
theorem open_ress (hval : Value.okWide Tryd.prog w r b0 22 v) (hd : DataW.Trod enc Tryd.prog w 0 (fun _ => true) true 22 v d ps) :
    ∃ l, IsRes w.heap.size w v l ∧ (∀ len cap, v = .slice none len cap → cap = 0) := by
  obtain ⟨a, len, cap, rfl⟩ := okWide_slice Tryd.underlying22 hval
  obtain ⟨fuel, hf⟩ := hd
  have hf' : DataW.trod enc Tryd.prog w 0 (fun _ => true) true fuel 22 [.slice a len cap] = some (d, ps) := by simpa [Value.cells] using hf
  obtain ⟨l, h1⟩ := ress_of_trod hf'
  exact ⟨l, h1, room_of_trod Tryd.underlying22 hf'⟩
end
end Go.Proofs.YtgmdlnobajmjfaaDoor
