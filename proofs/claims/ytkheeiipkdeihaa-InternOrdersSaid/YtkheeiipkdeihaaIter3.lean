/- ast.Size. -/
import Derived.Test.YtkheeiipkdeihaaIter2
namespace Go.Proofs.Ytkheeiipkdeihaa
open Go.Shelf
open Go.RowKit
set_option linter.unusedSimpArgs false
set_option linter.unusedVariables false
attribute [local go_sem] Oper.semAt_some

/-- One block that the body owns. -/
def Vc (c : Nat) (W : World) : Prop := c < W.heap.size
def Xc (c : Nat) (_ : World) (k : Nat) : Prop := k = c
theorem dirtyC {n₀ c : Nat} (h : n₀ ≤ c) : Dirty n₀ (Vc c) (Xc c) where
  lo := fun W k hv hx => by have hv : c < W.heap.size := hv; have hx : k = c := hx; subst hx; exact ⟨h, hv⟩
  al := fun W o hv => ⟨by have hv : c < W.heap.size := hv; show c < (W.alloc o).heap.size; simp; omega, fun k h => h⟩
  pu := fun W l o o' hv _ _ => ⟨by have hv : c < W.heap.size := hv; show c < (W.putObj l o').heap.size; simpa using hv, fun k h => h⟩
theorem KpX.setC (c : Nat) (W : World) (v : Value) : KpX (Vc c) (Xc c) W (W.setCell ⟨c, 0, none⟩ v) := fun hv =>
  ⟨by have hv : c < W.heap.size := hv; show c < (W.setCell _ _).heap.size; simpa using hv,
    ⟨by simp, fun k o hk _ hx => by rw [Below.heap_setCell _ _ _ _ (show k ≠ c from hx)]; exact hk, fun k hk => .inl hk⟩⟩

set_option maxRecDepth 100000 in
set_option maxHeartbeats 4000000 in
theorem aSize (e : Ex) (cs : List Value) (n : Nat) (w : World) (hn : n ≤ w.heap.size) (he : IsEx n w e cs) (hsz : e.size ≤ 1000000) :
    Calls Try.prog 44 #[.agg cs.toArray] w fun e' w' => e' = .returned (.int .i64 e.size) ∧ Below w.heap.size w w' := by
  refine (callsIn_wide (n := 9)).1 ?_
  obtain ⟨pm, cm, pn, cn, pk, ck, rfl, _⟩ := he.cellsE
  have He := Lib.hid he; clear he
  have hall := fun W (h : Below n w W) => aAll e _ n W (He.out.mono h (Nat.le_refl _))
  have Hall := Lib.hid hall; clear hall
  refine callsIn_of_wp_marks Try.func44 rfl trivial ?_ rfl; simp only [Try.ntmps44, List.size_toArray, List.length_cons, List.length_nil, Nat.reduceAdd, Nat.reduceSub, Array.replicate_succ, Array.replicate_zero, List.push_toArray, List.append_toArray, List.nil_append, List.cons_append]; (try simp only [List.append_eq, List.cons_append, List.nil_append])
  gi_wp2_with ((try refine ⟨trivial, ?_⟩); gi_at_call 46; refine (callsIn_wide.2 (Hall.out _ (((Below.refl n w).alloc hn _).alloc (by simp; omega) _))).mono ?_; rintro e' w' ⟨rfl, rfl⟩)
  obtain ⟨W3, hW3⟩ : ∃ W3, ((w.alloc (.cells ([.int .i64 e.kind, .int .i64 e.fn, .int .i64 e.op, .int .i64 e.num, .string e.metric, .slice pm e.mats.length cm, .int .i64 e.span, .slice pn e.names.length cn, .slice pk e.kids.length ck]).toArray 45)).alloc (.cells #[.int .i64 0] 3)).alloc (.cells ([.int .i64 e.kind, .int .i64 e.fn, .int .i64 e.op, .int .i64 e.num, .string e.metric, .slice pm e.mats.length cm, .int .i64 e.span, .slice pn e.names.length cn, .slice pk e.kids.length ck]).toArray 45) = W3 := ⟨_, rfl⟩
  have hbw : Below w.heap.size w W3 := by rw [← hW3]; exact (((Below.refl _ _).alloc (Nat.le_refl _) _).alloc (by simp) _).alloc (by simp; omega) _
  have hsz3 : W3.heap.size = w.heap.size + 3 := by rw [← hW3]; simp
  have hc0 : W3.cell? ⟨w.heap.size + 1, 0, none⟩ = some (.int .i64 0) := by rw [← hW3]; simp [go_sem]
  have hf0 : W3.frozen? ⟨w.heap.size + 1, 0, none⟩ = false := by rw [← hW3]; simp [go_sem]
  have hB3 : Box W3 (w.heap.size + 2) ([.int .i64 e.kind, .int .i64 e.fn, .int .i64 e.op, .int .i64 e.num, .string e.metric, .slice pm e.mats.length cm, .int .i64 e.span, .slice pn e.names.length cn, .slice pk e.kids.length ck]) := by
    have := Box.new ((w.alloc (.cells ([.int .i64 e.kind, .int .i64 e.fn, .int .i64 e.op, .int .i64 e.num, .string e.metric, .slice pm e.mats.length cm, .int .i64 e.span, .slice pn e.names.length cn, .slice pk e.kids.length ck]).toArray 45)).alloc (.cells #[.int .i64 0] 3)) ([.int .i64 e.kind, .int .i64 e.fn, .int .i64 e.op, .int .i64 e.num, .string e.metric, .slice pm e.mats.length cm, .int .i64 e.span, .slice pn e.names.length cn, .slice pk e.kids.length ck]) 45
    rw [hW3] at this
    simpa using this
  rw [hW3]
  have HW3 := Lib.hid hW3; clear hW3
  have Hsz3 := Lib.hid hsz3; clear hsz3
  have hn3 : n ≤ W3.heap.size := by have := Hsz3.out; omega
  have hc3 : w.heap.size + 1 < W3.heap.size := by have := Hsz3.out; omega
  refine wpIn_rangeFunc_ownF rfl (by omega) (gf := 60) (lb := #[.pointer (some ⟨w.heap.size + 2, 0, none⟩)]) rfl trivial (enters_of Try.func60 (by kernel_rfl) rfl)
    (allStops (dirtyC (n₀ := n) (c := w.heap.size + 1) (by omega)) 8 e _ W3 (w.heap.size + 2) He.out (Cells.of_below (hbw.mono hn)) hB3 hn3 (fun W hW => Nat.lt_of_lt_of_le hc3 hW.size)) (fun h k => h.trans k)
    (fun W l o o' _ ho hcl _ => KpX.put (dirtyC (n₀ := n) (by omega)) W l o o' ho hcl) (Below.refl _ _) (fun _ => rfl)
    (fun pre W => (W.cell? ⟨w.heap.size + 1, 0, none⟩ = some (.int .i64 pre.length) ∧ W.frozen? ⟨w.heap.size + 1, 0, none⟩ = false) ∧ Below w.heap.size w W)
    (fun _ _ _ => False)
    (OwnFrom.and (Own.from (fun s A B row hs hg hr => ⟨cell_kept hs.1 hg hr, (frozen_kept hs.1 hg hr).trans hs.2⟩) _) (ownFrom_below (Nat.le_refl _) (by have := Hsz3.out; omega)))
    (fun _ _ _ _ _ hs _ _ => hs)
    ⟨⟨hc0, hf0⟩, hbw⟩
    (fun x => { tmps := #[.agg ([.int .i64 e.kind, .int .i64 e.fn, .int .i64 e.op, .int .i64 e.num, .string e.metric, .slice pm e.mats.length cm, .int .i64 e.span, .slice pn e.names.length cn, .slice pk e.kids.length ck]).toArray, .pointer (some ⟨w.heap.size, 0, none⟩), .int .i64 0, .pointer (some ⟨w.heap.size + 1, 0, none⟩), .agg ([.int .i64 e.kind, .int .i64 e.fn, .int .i64 e.op, .int .i64 e.num, .string e.metric, .slice pm e.mats.length cm, .int .i64 e.span, .slice pn e.names.length cn, .slice pk e.kids.length ck]).toArray, .func (.func 60) #[] #[.pointer (some ⟨w.heap.size + 2, 0, none⟩)], .agg x.1.2.toArray, undef, undef, undef], defers := [] })
    ?assign ?body ?done ?stop
  case assign =>
    intro l x W K hK
    gi_wp2
    simpa using hK
  case body =>
    rintro l pre x W ⟨⟨hc, hf⟩, hb⟩ hlen
    gi_wp2
    refine ⟨KeepsOthers.setCell _ _ _, KpX.setC _ _ _, ⟨?_, ?_⟩, hb.setCell (p := ⟨w.heap.size + 1, 0, none⟩) (by simp) _⟩
    · rw [World.cell?_setCell_same' _ _ _ (by rw [hc]; rfl)]
      simp
    · rw [World.frozen?_setCell]; exact hf
  case done =>
    rintro D ys W hD hys ⟨⟨hc, hf⟩, hb⟩ hK
    gi_wp2
    refine ⟨by simp, .inl ⟨_, _, rfl, run_takeDeferred hK, ?_⟩⟩
    refine ⟨_, results_tmp rfl _ _ _, ?_⟩
    refine ⟨ret_int ?_, hb.trans (belowK_b (w := w) (Nat.le_refl _) W D _ _ (by have := Hsz3.out; omega) hK rfl rfl)⟩
    have h1 := congrArg List.length hys
    simp only [exs, List.length_map, flat_length] at h1
    rw [h1]
  case stop =>
    rintro D c pre W _ _ h _
    exact h.elim

end Go.Proofs.Ytkheeiipkdeihaa
