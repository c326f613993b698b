/- ast.CheckExpr, ast.Check. -/
import Derived.Test.YtkheeiipkdeihaaAst2
import Derived.Test.YtkheeiipkdeihaaAst3
namespace Go.Proofs.Ytkheeiipkdeihaa
open Go.Shelf
open Go.RowKit
set_option linter.unusedSimpArgs false
set_option linter.unusedVariables false
attribute [local go_sem] Oper.semAt_some

theorem KeepsFrom.of_below {B : Nat} {W W' : World} (h : Below W.heap.size W W') : KeepsFrom B W W' :=
  ⟨h.size, fun k o _ hk _ => (h.block k (Array.getElem?_eq_some_iff.1 hk).1).trans hk⟩
theorem KpX.of_belowC {c : Nat} {W W' : World} (h : Below W.heap.size W W') : KpX (Vc c) (Xc c) W W' := fun hv =>
  ⟨Nat.lt_of_lt_of_le hv h.size, ⟨h.size, fun k o hk _ _ => (h.block k (Array.getElem?_eq_some_iff.1 hk).1).trans hk, fun _ hk => .inl hk⟩⟩
theorem Boxed.keepB {W W' : World} {B t : Nat} {v : Value} (h : Boxed W B t v) (hb : Below W.heap.size W W') : Boxed W' B t v := (hb.block B h.lt).trans h
theorem Blk.own {n g t : Nat} {cs : List Value} : OwnFrom n (fun (_ : Unit) W => Blk W g t cs) := fun _ W W' row hs hg hr =>
  (hg.block g hs.lt (fun e => by obtain ⟨_, o, ho, hc⟩ := hr g e.symm; rw [show W.heap[g]? = _ from hs] at ho; cases ho; cases hc)).trans hs

/-- A scalar result that lies in memory. -/
theorem results_cell {P : Program} {fn : Func} {p : Tmp} {ty g : Nat} {v : Value} {w : World} (h : fn.results = #[.cell p ty]) (tmps : Array Value) (hp : tmps.getD p undef = .pointer (some ⟨g, 0, none⟩))
    (hagg : (isAgg ty).run P w = .ok false w) (hc : w.cell? ⟨g, 0, none⟩ = some v) : (results fn tmps).run P w = .ok v w := by
  have hp' : tmps[p]?.getD undef = .pointer (some ⟨g, 0, none⟩) := by rw [← hp]; simp
  simp only [results, h]
  simp [Sem.run_bind, Result.andThen, hp', asAddr, loadVar, hagg, hc]

/-- ast.CheckExpr. -/
def checkExpr (e : Ex) : Int := if 200 < e.size ∨ 16 < e.deep then 3 else if e.flat.all rightB then 0 else 2
theorem checkExpr_long {e : Ex} (h : 200 < e.size ∨ 16 < e.deep) : checkExpr e = 3 := by unfold checkExpr; rw [if_pos h]
theorem checkExpr_ok {e : Ex} (h : ¬ (200 < e.size ∨ 16 < e.deep)) (h' : e.flat.all rightB = true) : checkExpr e = 0 := by unfold checkExpr; rw [if_neg h, if_pos h']
theorem checkExpr_bad {e : Ex} (h : ¬ (200 < e.size ∨ 16 < e.deep)) (h' : ¬ e.flat.all rightB = true) : checkExpr e = 2 := by unfold checkExpr; rw [if_neg h, if_neg h']

set_option maxRecDepth 100000 in
set_option maxHeartbeats 4000000 in
theorem aCheckExpr (e : Ex) (cs : List Value) (n : Nat) (w : World) (hn : n ≤ w.heap.size) (he : IsEx n w e cs) (hsz : e.size ≤ 1000000) :
    Calls Try.prog 29 #[.agg cs.toArray] w fun e' w' => e' = .returned (.int .i64 (checkExpr e)) ∧ Below w.heap.size w w' := by
  obtain ⟨pm, cm, pn, cn, pk, ck, rfl, _⟩ := he.cellsE
  have He := Lib.hid he; clear he
  have hsize := fun W (h : Below n w W) (hs : n ≤ W.heap.size) => aSize e _ n W hs (He.out.mono h (Nat.le_refl _)) hsz
  have Hsize := Lib.hid hsize; clear hsize
  have hdeep := fun W (h : Below n w W) (hs : n ≤ W.heap.size) => aDeep e _ n W hs (He.out.mono h (Nat.le_refl _)) hsz
  have Hdeep := Lib.hid hdeep; clear hdeep
  have hall := fun W (h : Below n w W) => aAll e _ n W (He.out.mono h (Nat.le_refl _))
  have Hall := Lib.hid hall; clear hall
  have hd1 := deep_le_size e
  -- the boxes
  obtain ⟨W1, hW1⟩ : ∃ W1, (w.alloc (.cells ([.int .i64 e.kind, .int .i64 e.fn, .int .i64 e.op, .int .i64 e.num, .string e.metric, .slice pm e.mats.length cm, .int .i64 e.span, .slice pn e.names.length cn, .slice pk e.kids.length ck]).toArray 45)).alloc (.cells #[.int .i64 0] 28) = W1 := ⟨_, rfl⟩
  have hbw1 : Below w.heap.size w W1 := by rw [← hW1]; exact ((Below.refl _ _).alloc (Nat.le_refl _) _).alloc (by simp) _
  have hsz1 : W1.heap.size = w.heap.size + 2 := by rw [← hW1]; simp
  have hB1 : Box W1 w.heap.size ([.int .i64 e.kind, .int .i64 e.fn, .int .i64 e.op, .int .i64 e.num, .string e.metric, .slice pm e.mats.length cm, .int .i64 e.span, .slice pn e.names.length cn, .slice pk e.kids.length ck]) := by rw [← hW1]; exact (Box.new w _ _).keep ((Below.refl _ _).alloc (Nat.le_refl _) _)
  have hR1 : Blk W1 (w.heap.size + 1) 28 [.int .i64 0] := by
    have := Blk.new (w.alloc (.cells ([.int .i64 e.kind, .int .i64 e.fn, .int .i64 e.op, .int .i64 e.num, .string e.metric, .slice pm e.mats.length cm, .int .i64 e.span, .slice pn e.names.length cn, .slice pk e.kids.length ck]).toArray 45)) [.int .i64 0] 28
    rw [hW1] at this
    simpa using this
  have HW1 := Lib.hid hW1; clear hW1
  have Hsz1 := Lib.hid hsz1; clear hsz1
  have hn1 : n ≤ W1.heap.size := by have := Hsz1.out; omega
  by_cases hs : 200 < e.size
  · go_enter Try.func29, Try.ntmps29; (try simp only [List.append_eq, List.cons_append, List.nil_append])
    go_wp2_with (go_at_call 44; rw [HW1.out]; refine (Hsize.out _ (hbw1.mono hn) hn1).mono ?_; rintro e' w2 ⟨rfl, hb2⟩; have r2 := (hR1.keep hb2).cell 0 _ rfl; have f2 := (hR1.keep hb2).free 0; have Hb2 := Lib.hid hb2; clear hb2)
    have HR1 := Lib.hid hR1; clear hR1
    exact bodyPost_ret (results_cell rfl _ rfl (Try.isAgg28 _) (World.cell?_setCell_same' _ _ _ (by rw [r2]; rfl))) rfl ⟨ret_int (checkExpr_long (.inl hs)).symm, (hbw1.trans (Hb2.out.mono hbw1.size)).setCell (p := ⟨w.heap.size + 1, 0, none⟩) (by simp) _⟩
  by_cases hdp : 16 < e.deep
  · go_enter Try.func29, Try.ntmps29; (try simp only [List.append_eq, List.cons_append, List.nil_append])
    go_wp2_with (first
      | (go_at_call 44; rw [HW1.out]; refine (Hsize.out _ (hbw1.mono hn) hn1).mono ?_; rintro e' w2 ⟨rfl, hb2⟩; have b0 := (hB1.keep hb2).2 0 _ rfl; have b1 := (hB1.keep hb2).2 1 _ rfl; have b2 := (hB1.keep hb2).2 2 _ rfl; have b3 := (hB1.keep hb2).2 3 _ rfl; have b4 := (hB1.keep hb2).2 4 _ rfl; have b5 := (hB1.keep hb2).2 5 _ rfl; have b6 := (hB1.keep hb2).2 6 _ rfl; have b7 := (hB1.keep hb2).2 7 _ rfl; have b8 := (hB1.keep hb2).2 8 _ rfl; have r2 := (hR1.keep hb2).cell 0 _ rfl; have f2 := (hR1.keep hb2).free 0; have Hb2 := Lib.hid hb2; clear hb2)
      | (go_at_call 45; refine (Hdeep.out _ ((hbw1.mono hn).trans (Hb2.out.mono hn1)) (Nat.le_trans hn1 Hb2.out.size)).mono ?_; rintro e' w3 ⟨rfl, hb3⟩; have r3 := (hR1.keep (Hb2.out.trans (hb3.mono Hb2.out.size))).cell 0 _ rfl; have f3 := (hR1.keep (Hb2.out.trans (hb3.mono Hb2.out.size))).free 0; have Hb3 := Lib.hid hb3; clear hb3))
    exact bodyPost_ret (results_cell rfl _ rfl (Try.isAgg28 _) (World.cell?_setCell_same' _ _ _ (by rw [r3]; rfl))) rfl ⟨ret_int (checkExpr_long (.inr hdp)).symm,
      ((hbw1.trans (Hb2.out.mono hbw1.size)).trans (Hb3.out.mono (Nat.le_trans hbw1.size Hb2.out.size))).setCell (p := ⟨w.heap.size + 1, 0, none⟩) (by simp) _⟩
  have hgood : ¬ (200 < e.size ∨ 16 < e.deep) := by omega
  have Hgood := Lib.hid hgood; clear hgood
  refine (callsIn_wide (n := 9)).1 ?_
  refine callsIn_of_wp_marks Try.func29 rfl trivial ?_ rfl; simp only [Try.ntmps29, List.size_toArray, List.length_cons, List.length_nil, Nat.reduceAdd, Nat.reduceSub, Array.replicate_succ, Array.replicate_zero, List.push_toArray, List.append_toArray, List.nil_append, List.cons_append]; (try simp only [List.append_eq, List.cons_append, List.nil_append])
  gi_wp2_with (first
    | ((try refine ⟨trivial, ?_⟩); gi_at_call 44; rw [HW1.out]; refine (callsIn_wide.2 (Hsize.out _ (hbw1.mono hn) hn1)).mono ?_; rintro e' w2 ⟨rfl, hb2⟩; have b0 := (hB1.keep hb2).2 0 _ rfl; have b1 := (hB1.keep hb2).2 1 _ rfl; have b2 := (hB1.keep hb2).2 2 _ rfl; have b3 := (hB1.keep hb2).2 3 _ rfl; have b4 := (hB1.keep hb2).2 4 _ rfl; have b5 := (hB1.keep hb2).2 5 _ rfl; have b6 := (hB1.keep hb2).2 6 _ rfl; have b7 := (hB1.keep hb2).2 7 _ rfl; have b8 := (hB1.keep hb2).2 8 _ rfl; have Hb2 := Lib.hid hb2; clear hb2)
    | ((try refine ⟨trivial, ?_⟩); gi_at_call 45; refine (callsIn_wide.2 (Hdeep.out _ ((hbw1.mono hn).trans (Hb2.out.mono hn1)) (Nat.le_trans hn1 Hb2.out.size))).mono ?_; rintro e' w3 ⟨rfl, hb3⟩; have d0 := (hB1.keep (Hb2.out.trans (hb3.mono Hb2.out.size))).2 0 _ rfl; have d1 := (hB1.keep (Hb2.out.trans (hb3.mono Hb2.out.size))).2 1 _ rfl; have d2 := (hB1.keep (Hb2.out.trans (hb3.mono Hb2.out.size))).2 2 _ rfl; have d3 := (hB1.keep (Hb2.out.trans (hb3.mono Hb2.out.size))).2 3 _ rfl; have d4 := (hB1.keep (Hb2.out.trans (hb3.mono Hb2.out.size))).2 4 _ rfl; have d5 := (hB1.keep (Hb2.out.trans (hb3.mono Hb2.out.size))).2 5 _ rfl; have d6 := (hB1.keep (Hb2.out.trans (hb3.mono Hb2.out.size))).2 6 _ rfl; have d7 := (hB1.keep (Hb2.out.trans (hb3.mono Hb2.out.size))).2 7 _ rfl; have d8 := (hB1.keep (Hb2.out.trans (hb3.mono Hb2.out.size))).2 8 _ rfl; have Hb3 := Lib.hid hb3; clear hb3)
    | ((try refine ⟨trivial, ?_⟩); gi_at_call 46; refine (callsIn_wide.2 (Hall.out _ (((hbw1.mono hn).trans (Hb2.out.mono hn1)).trans (Hb3.out.mono (Nat.le_trans hn1 Hb2.out.size))))).mono ?_; rintro e' w4 ⟨rfl, rfl⟩))
  have hb4 : Below w.heap.size w (w3.alloc (.cells ([.int .i64 e.kind, .int .i64 e.fn, .int .i64 e.op, .int .i64 e.num, .string e.metric, .slice pm e.mats.length cm, .int .i64 e.span, .slice pn e.names.length cn, .slice pk e.kids.length ck]).toArray 45)) :=
    ((hbw1.trans (Hb2.out.mono hbw1.size)).trans (Hb3.out.mono (Nat.le_trans hbw1.size Hb2.out.size))).alloc (Nat.le_trans hbw1.size (Nat.le_trans Hb2.out.size Hb3.out.size)) _
  have hR4 : Boxed (w3.alloc (.cells ([.int .i64 e.kind, .int .i64 e.fn, .int .i64 e.op, .int .i64 e.num, .string e.metric, .slice pm e.mats.length cm, .int .i64 e.span, .slice pn e.names.length cn, .slice pk e.kids.length ck]).toArray 45)) (w.heap.size + 1) 28 (.int .i64 0) :=
    ((hR1.keep Hb2.out).keep Hb3.out).keep ((Below.refl _ _).alloc (Nat.le_refl _) _)
  have hB4 := Box.new w3 ([.int .i64 e.kind, .int .i64 e.fn, .int .i64 e.op, .int .i64 e.num, .string e.metric, .slice pm e.mats.length cm, .int .i64 e.span, .slice pn e.names.length cn, .slice pk e.kids.length ck]) 45
  have hs3 : w.heap.size + 2 ≤ w3.heap.size := by have := Hsz1.out; have := Hb2.out.size; have := Hb3.out.size; omega
  obtain ⟨W4, hW4⟩ : ∃ W4, w3.alloc (.cells ([.int .i64 e.kind, .int .i64 e.fn, .int .i64 e.op, .int .i64 e.num, .string e.metric, .slice pm e.mats.length cm, .int .i64 e.span, .slice pn e.names.length cn, .slice pk e.kids.length ck]).toArray 45) = W4 := ⟨_, rfl⟩
  have hsz4 : W4.heap.size = w3.heap.size + 1 := by rw [← hW4]; simp
  rw [hW4] at hb4 hR4 hB4 ⊢
  clear hW4
  have Hsz4 := Lib.hid hsz4; clear hsz4
  have hc4 : w.heap.size + 1 < W4.heap.size := by have := Hsz4.out; omega
  have hn4 : n ≤ W4.heap.size := by omega
  refine wpIn_rangeFunc_ownH rfl (by omega) (gf := 60) (lb := #[.pointer (some ⟨w3.heap.size, 0, none⟩)]) rfl trivial (enters_of Try.func60 (by kernel_rfl) rfl)
    (allStops (dirtyC (n₀ := n) (c := w.heap.size + 1) (by omega)) 8 e _ W4 w3.heap.size He.out (Cells.of_below (hb4.mono hn)) hB4 hn4 (fun W hW => Nat.lt_of_lt_of_le hc4 hW.size)) (fun h k => h.trans k)
    (fun W l o o' _ ho hcl _ => KpX.put (dirtyC (n₀ := n) (by omega)) W l o o' ho hcl) (Below.refl _ _) (fun _ => rfl)
    (fun pre W => Boxed W (w.heap.size + 1) 28 (.int .i64 0) ∧ (exs pre).all rightB = true ∧ Below w.heap.size w W)
    (fun c pre W => c = .ret ∧ Boxed W (w.heap.size + 1) 28 (.int .i64 2) ∧ ¬ (exs pre).all rightB = true ∧ Below w.heap.size w W)
    (OwnFrom.and (Own.from (boxed_own _ _ _) _) (OwnFrom.and (ownFrom_pure _ _) (ownFrom_below (Nat.le_refl _) (by omega))))
    (fun c => OwnFrom.and (ownFrom_pure _ _) (OwnFrom.and (Own.from (boxed_own _ _ _) _) (OwnFrom.and (ownFrom_pure _ _) (ownFrom_below (Nat.le_refl _) (by omega)))))
    ⟨hR4, rfl, hb4⟩
    (fun x a' W => ∃ Bx, w.heap.size + 1 < Bx ∧ Blk W Bx 45 x.1.2 ∧ a' = { tmps := #[.agg ([.int .i64 e.kind, .int .i64 e.fn, .int .i64 e.op, .int .i64 e.num, .string e.metric, .slice pm e.mats.length cm, .int .i64 e.span, .slice pn e.names.length cn, .slice pk e.kids.length ck]).toArray, .pointer (some ⟨w.heap.size, 0, none⟩), .pointer (some ⟨w.heap.size + 1, 0, none⟩), .pointer (some ⟨Bx, 0, none⟩), .agg ([.int .i64 e.kind, .int .i64 e.fn, .int .i64 e.op, .int .i64 e.num, .string e.metric, .slice pm e.mats.length cm, .int .i64 e.span, .slice pn e.names.length cn, .slice pk e.kids.length ck]).toArray, .int .i64 e.size, .bool false, .bool false, .agg ([.int .i64 e.kind, .int .i64 e.fn, .int .i64 e.op, .int .i64 e.num, .string e.metric, .slice pm e.mats.length cm, .int .i64 e.span, .slice pn e.names.length cn, .slice pk e.kids.length ck]).toArray, .int .i64 e.deep, .bool false, .bool false, .agg ([.int .i64 e.kind, .int .i64 e.fn, .int .i64 e.op, .int .i64 e.num, .string e.metric, .slice pm e.mats.length cm, .int .i64 e.span, .slice pn e.names.length cn, .slice pk e.kids.length ck]).toArray, .func (.func 60) #[] #[.pointer (some ⟨w3.heap.size, 0, none⟩)], .agg x.1.2.toArray, undef, undef, undef], defers := [] })
    (fun x a' => fun s W W' row hs hg hr => by
      obtain ⟨Bx, h1, h2, h3⟩ := hs
      exact ⟨Bx, h1, Blk.own () W W' row h2 hg hr, h3⟩)
    ?assign ?body ?done ?stop
  case assign =>
    rintro l pre ⟨⟨ex, cx⟩, hx⟩ W K ⟨hR, hp, hb⟩ hK
    change IsEx n w ex cx at hx
    obtain ⟨pm', cm', pn', cn', pk', ck', rfl, _⟩ := hx.cellsE
    have hRl := hR.lt
    gi_wp2
    refine hK _ _ (KeepsFrom.of_below ((Below.refl _ _).alloc (Nat.le_refl _) _)) (KpX.of_belowC ((Below.refl _ _).alloc (Nat.le_refl _) _)) ⟨hR.alloc _, hp, hb.alloc hb.size _⟩ ⟨W.heap.size, hRl, Blk.new _ _ _, ?_⟩
    simp
    omega
  case body =>
    rintro l pre ⟨⟨ex, cx⟩, hx⟩ a' W hl hr ⟨hR, hp, hb⟩ ⟨Bx, hBx, hX, rfl⟩ hlen
    clear hr
    change IsEx n w ex cx at hx
    have Hx := Lib.hid hx
    obtain ⟨pm', cm', pn', cn', pk', ck', rfl, _⟩ := hx.cellsE
    change Blk W Bx 45 [.int .i64 ex.kind, .int .i64 ex.fn, .int .i64 ex.op, .int .i64 ex.num, .string ex.metric, .slice pm' ex.mats.length cm', .int .i64 ex.span, .slice pn' ex.names.length cn', .slice pk' ex.kids.length ck'] at hX
    have x0 := hX.cell 0 _ rfl
    have x1 := hX.cell 1 _ rfl
    have x2 := hX.cell 2 _ rfl
    have x3 := hX.cell 3 _ rfl
    have x4 := hX.cell 4 _ rfl
    have x5 := hX.cell 5 _ rfl
    have x6 := hX.cell 6 _ rfl
    have x7 := hX.cell 7 _ rfl
    have x8 := hX.cell 8 _ rfl
    have hright := aRight ex _ n W (Nat.le_trans hn hb.size) (Hx.out.mono (hb.mono hn) (Nat.le_refl _))
    have Hright := Lib.hid hright; clear hright
    have hall2 : (exs (pre ++ [⟨(ex, _), Hx.out⟩])).all rightB = rightB ex := by
      rw [exs_append, List.all_append, hp]; simp [exs]
    have Hall2 := Lib.hid hall2; clear hall2
    have HR := Lib.hid hR; clear hR
    have Hp := Lib.hid hp; clear hp
    have Hb := Lib.hid hb; clear hb
    cases hrt : rightB ex with
    | true =>
      rw [hrt] at Hright Hall2
      gi_wp2_with ((try refine ⟨trivial, ?_⟩); gi_at_call 47; refine (CallsIn.inRound l (callsIn_wide.2 Hright.out)).mono ?_; rintro e' w5 ⟨rfl, hb5⟩)
      exact ⟨KeepsFrom.of_below hb5, KpX.of_belowC hb5, Boxed.keepB HR.out hb5, Hall2.out, Hb.out.trans (hb5.mono Hb.out.size)⟩
    | false =>
      rw [hrt] at Hright Hall2
      gi_wp2_with ((try refine ⟨trivial, ?_⟩); gi_at_call 47; refine (CallsIn.inRound l (callsIn_wide.2 Hright.out)).mono ?_; rintro e' w5 ⟨rfl, hb5⟩; have r5 := Boxed.cell (Boxed.keepB HR.out hb5); have f5 := Boxed.frozen (Boxed.keepB HR.out hb5); have Hb5 := Lib.hid hb5; clear hb5)
      exact ⟨(KeepsFrom.of_below Hb5.out).trans ((KeepsOthers.setCell _ _ _).from _), rfl, Boxed.set _ (Boxed.keepB HR.out Hb5.out), by rw [Hall2.out]; simp, (Hb.out.trans (Hb5.out.mono Hb.out.size)).setCell (p := ⟨w.heap.size + 1, 0, none⟩) (by simp) _⟩
  case done =>
    rintro D ys W hD hys ⟨hR, hp, hb⟩ hK
    have hc := hR.cell
    have hf := hR.frozen
    gi_wp2
    have hK' : (W.setCell ⟨w.heap.size + 1, 0, none⟩ (.int .i64 0)).heap[D]? = some (.deferred (some [])) := (KeepsOthers.setCell _ _ _).same D _ hK rfl
    refine ⟨by simp, .inl ⟨_, _, rfl, run_takeDeferred hK', ?_⟩⟩
    have hb' : Below w.heap.size w ((W.setCell ⟨w.heap.size + 1, 0, none⟩ (.int .i64 0)).putObj D (.deferred none)) :=
      (hb.setCell (p := ⟨w.heap.size + 1, 0, none⟩) (by simp) _).trans (belowK_b (w := w) (Nat.le_refl _) _ D _ _ (by omega) hK' rfl rfl)
    refine ⟨_, results_cell rfl _ rfl (Try.isAgg28 _) ((hR.set (.int .i64 0)).kept (grownBy_putObj' _ D _) (by simp; omega)).cell, ret_int ?_, hb'⟩
    rw [hys] at hp
    exact (checkExpr_ok Hgood.out hp).symm
  case stop =>
    rintro D c pre W hD hpre ⟨rfl, hR, hp, hb⟩ hK
    gi_wp2
    refine ⟨by simp, .inl ⟨_, _, rfl, run_takeDeferred hK, ?_⟩⟩
    refine ⟨_, results_cell rfl _ rfl (Try.isAgg28 _) (hR.kept (grownBy_putObj' _ D _) (by simp; omega)).cell, ret_int ?_, hb.trans (belowK_b (w := w) (Nat.le_refl _) _ D _ _ (by omega) hK rfl rfl)⟩
    refine (checkExpr_bad Hgood.out (fun h => hp ?_)).symm
    obtain ⟨r, hr⟩ := hpre
    rw [← hr, List.all_append, Bool.and_eq_true] at h
    exact h.1

end Go.Proofs.Ytkheeiipkdeihaa
