/- ast.CheckExpr, ast.Check. -/
import Derived.Test.YtdjdikiimhhjpaaGreatDoorK5
import Derived.Test.YtdjdikiimhhjpaaGreatDoorK8
import Derived.Test.YtdjdikiimhhjpaaGreatDoorK7
set_option maxRecDepth 100000
set_option maxHeartbeats 16000000
namespace Go.Proofs.YtdjdikiimhhjpaaGreatDoor
open Go.Shelf
open Go.RowKit
set_option linter.unusedSimpArgs false
set_option linter.unusedVariables false
attribute [local go_sem] Oper.semAt_some
theorem KeepsFrom.of_below {B : Nat} {W W' : World} (h : Below W.heap.size W W') : KeepsFrom B W W' :=
  ⟨h.size, fun k o _ hk _ => (h.block k (Array.getElem?_eq_some_iff.1 hk).1).trans hk⟩
theorem KpX.of_belowC {c : Nat} {W W' : World} (h : Below W.heap.size W W') : KpX (Vc c) (Xc c) W W' := fun hv =>
  ⟨Nat.lt_of_lt_of_le hv h.size, ⟨h.size, fun k o hk _ _ => (h.block k (Array.getElem?_eq_some_iff.1 hk).1).trans hk, fun _ hk => .inl hk⟩⟩
theorem Boxed.keepB {W W' : World} {B t : Nat} {v : Value} (h : Boxed W B t v) (hb : Below W.heap.size W W') : Boxed W' B t v := (hb.block B h.lt).trans h
theorem Blk.own {n g t : Nat} {cs : List Value} : OwnFrom n (fun (_ : Unit) W => Blk W g t cs) := fun _ W W' row hs hg hr =>
  (hg.block g hs.lt (fun e => by obtain ⟨_, o, ho, hc⟩ := hr g e.symm; rw [show W.heap[g]? = _ from hs] at ho; cases ho; cases hc)).trans hs
theorem results_cell {P : Program} {fn : Func} {p : Tmp} {ty g : Nat} {v : Value} {w : World} (h : fn.results = #[.cell p ty]) (tmps : Array Value) (hp : tmps.getD p undef = .pointer (some ⟨g, 0, none⟩))
    (hagg : (isAgg ty).run P w = .ok false w) (hc : w.cell? ⟨g, 0, none⟩ = some v) : (results fn tmps).run P w = .ok v w := by
  have hp' : tmps[p]?.getD undef = .pointer (some ⟨g, 0, none⟩) := by rw [← hp]; simp
  simp only [results, h]
  simp [Sem.run_bind, Result.andThen, hp', asAddr, loadVar, hagg, hc]
def checkExpr (e : Ex) : Int := if 200 < e.size ∨ 16 < e.deep then 3 else if e.flat.all rightB then 0 else 2
theorem checkExpr_long {e : Ex} (h : 200 < e.size ∨ 16 < e.deep) : checkExpr e = 3 := by unfold checkExpr; rw [if_pos h]
theorem checkExpr_ok {e : Ex} (h : ¬ (200 < e.size ∨ 16 < e.deep)) (h' : e.flat.all rightB = true) : checkExpr e = 0 := by unfold checkExpr; rw [if_neg h, if_pos h']
theorem checkExpr_bad {e : Ex} (h : ¬ (200 < e.size ∨ 16 < e.deep)) (h' : ¬ e.flat.all rightB = true) : checkExpr e = 2 := by unfold checkExpr; rw [if_neg h, if_neg h']
theorem aCheckExpr (e : Ex) (cs : List Value) (n : Nat) (w : World) (hn : n ≤ w.heap.size) (he : IsEx n w e cs) (hsz : e.size ≤ 1000000) :
    Calls Tryz.prog 27 #[.agg cs.toArray] w fun e' w' => e' = .returned (.int .i64 (checkExpr e)) ∧ Below w.heap.size w w' := by
  obtain ⟨pm, cm, pn, cn, pk, ck, rfl, _⟩ := he.cellsE
  have He := Lib.hid he; clear he
  have hsize := fun W (h : Below n w W) (hs : n ≤ W.heap.size) => aSize e _ n W hs (He.out.mono h (Nat.le_refl _)) hsz
  have Hsize := Lib.hid hsize; clear hsize
  have hdeep := fun W (h : Below n w W) (hs : n ≤ W.heap.size) => aDeep e _ n W hs (He.out.mono h (Nat.le_refl _)) hsz
  have Hdeep := Lib.hid hdeep; clear hdeep
  have hall := fun W (h : Below n w W) => aAll e _ n W (He.out.mono h (Nat.le_refl _))
  have Hall := Lib.hid hall; clear hall
  have hd1 := deep_le_size e
  -- the boxes
  obtain ⟨W1, hW1⟩ : ∃ W1, (w.alloc (.cells ([.int .i64 e.kind, .int .i64 e.fn, .int .i64 e.op, .int .i64 e.num, .string e.metric, .slice pm e.mats.length cm, .int .i64 e.span, .slice pn e.names.length cn, .slice pk e.kids.length ck]).toArray 37)).alloc (.cells #[.int .i64 0] 27) = W1 := ⟨_, rfl⟩
  have hbw1 : Below w.heap.size w W1 := by rw [← hW1]; exact ((Below.refl _ _).alloc (Nat.le_refl _) _).alloc (by simp) _
  have hsz1 : W1.heap.size = w.heap.size + 2 := by rw [← hW1]; simp
  have hB1 : Box W1 w.heap.size ([.int .i64 e.kind, .int .i64 e.fn, .int .i64 e.op, .int .i64 e.num, .string e.metric, .slice pm e.mats.length cm, .int .i64 e.span, .slice pn e.names.length cn, .slice pk e.kids.length ck]) := by rw [← hW1]; exact (Box.new w _ _).keep ((Below.refl _ _).alloc (Nat.le_refl _) _)
  have hR1 : Blk W1 (w.heap.size + 1) 27 [.int .i64 0] := by
    have := Blk.new (w.alloc (.cells ([.int .i64 e.kind, .int .i64 e.fn, .int .i64 e.op, .int .i64 e.num, .string e.metric, .slice pm e.mats.length cm, .int .i64 e.span, .slice pn e.names.length cn, .slice pk e.kids.length ck]).toArray 37)) [.int .i64 0] 27; rw [hW1] at this
    simpa using this
  have HW1 := Lib.hid hW1; clear hW1
  have Hsz1 := Lib.hid hsz1; clear hsz1
  have hn1 : n ≤ W1.heap.size := by have := Hsz1.out; omega
  by_cases hs : 200 < e.size
  · go_enter Tryz.func27, Tryz.ntmps27; (try simp only [List.append_eq, List.cons_append, List.nil_append])
    go_wp2_with (go_at_call 37; rw [HW1.out]; refine (Hsize.out _ (hbw1.mono hn) hn1).mono ?_; rintro e' w2 ⟨rfl, hb2⟩; have r2 := (hR1.keep hb2).cell 0 _ rfl; have f2 := (hR1.keep hb2).free 0; have Hb2 := Lib.hid hb2; clear hb2)
    have HR1 := Lib.hid hR1; clear hR1; exact bodyPost_ret (results_cell rfl _ rfl (Tryz.isAgg27 _) (World.cell?_setCell_same' _ _ _ (by rw [r2]; rfl))) rfl ⟨ret_int (checkExpr_long (.inl hs)).symm, (hbw1.trans (Hb2.out.mono hbw1.size)).setCell (p := ⟨w.heap.size + 1, 0, none⟩) (by simp) _⟩
  by_cases hdp : 16 < e.deep
  · go_enter Tryz.func27, Tryz.ntmps27; (try simp only [List.append_eq, List.cons_append, List.nil_append])
    go_wp2_with (first
      | (go_at_call 37; rw [HW1.out]; refine (Hsize.out _ (hbw1.mono hn) hn1).mono ?_; rintro e' w2 ⟨rfl, hb2⟩; have b0 := (hB1.keep hb2).2 0 _ rfl; have b1 := (hB1.keep hb2).2 1 _ rfl; have b2 := (hB1.keep hb2).2 2 _ rfl; have b3 := (hB1.keep hb2).2 3 _ rfl; have b4 := (hB1.keep hb2).2 4 _ rfl; have b5 := (hB1.keep hb2).2 5 _ rfl; have b6 := (hB1.keep hb2).2 6 _ rfl; have b7 := (hB1.keep hb2).2 7 _ rfl; have b8 := (hB1.keep hb2).2 8 _ rfl; have r2 := (hR1.keep hb2).cell 0 _ rfl; have f2 := (hR1.keep hb2).free 0; have Hb2 := Lib.hid hb2; clear hb2)
      | (go_at_call 38; refine (Hdeep.out _ ((hbw1.mono hn).trans (Hb2.out.mono hn1)) (Nat.le_trans hn1 Hb2.out.size)).mono ?_; rintro e' w3 ⟨rfl, hb3⟩; have r3 := (hR1.keep (Hb2.out.trans (hb3.mono Hb2.out.size))).cell 0 _ rfl; have f3 := (hR1.keep (Hb2.out.trans (hb3.mono Hb2.out.size))).free 0; have Hb3 := Lib.hid hb3; clear hb3))
    exact bodyPost_ret (results_cell rfl _ rfl (Tryz.isAgg27 _) (World.cell?_setCell_same' _ _ _ (by rw [r3]; rfl))) rfl ⟨ret_int (checkExpr_long (.inr hdp)).symm,
      ((hbw1.trans (Hb2.out.mono hbw1.size)).trans (Hb3.out.mono (Nat.le_trans hbw1.size Hb2.out.size))).setCell (p := ⟨w.heap.size + 1, 0, none⟩) (by simp) _⟩
  have hgood : ¬ (200 < e.size ∨ 16 < e.deep) := by omega
  have Hgood := Lib.hid hgood; clear hgood
  refine (callsIn_wide (n := 9)).1 ?_
  refine callsIn_of_wp_marks Tryz.func27 rfl trivial ?_ rfl; simp only [Tryz.ntmps27, List.size_toArray, List.length_cons, List.length_nil, Nat.reduceAdd, Nat.reduceSub, Array.replicate_succ, Array.replicate_zero, List.push_toArray, List.append_toArray, List.nil_append, List.cons_append]; (try simp only [List.append_eq, List.cons_append, List.nil_append])
  gi_wp2_with (first
    | ((try refine ⟨trivial, ?_⟩); gi_at_call 37; rw [HW1.out]; refine (callsIn_wide.2 (Hsize.out _ (hbw1.mono hn) hn1)).mono ?_; rintro e' w2 ⟨rfl, hb2⟩; have b0 := (hB1.keep hb2).2 0 _ rfl; have b1 := (hB1.keep hb2).2 1 _ rfl; have b2 := (hB1.keep hb2).2 2 _ rfl; have b3 := (hB1.keep hb2).2 3 _ rfl; have b4 := (hB1.keep hb2).2 4 _ rfl; have b5 := (hB1.keep hb2).2 5 _ rfl; have b6 := (hB1.keep hb2).2 6 _ rfl; have b7 := (hB1.keep hb2).2 7 _ rfl; have b8 := (hB1.keep hb2).2 8 _ rfl; have Hb2 := Lib.hid hb2; clear hb2)
    | ((try refine ⟨trivial, ?_⟩); gi_at_call 38; refine (callsIn_wide.2 (Hdeep.out _ ((hbw1.mono hn).trans (Hb2.out.mono hn1)) (Nat.le_trans hn1 Hb2.out.size))).mono ?_; rintro e' w3 ⟨rfl, hb3⟩; have d0 := (hB1.keep (Hb2.out.trans (hb3.mono Hb2.out.size))).2 0 _ rfl; have d1 := (hB1.keep (Hb2.out.trans (hb3.mono Hb2.out.size))).2 1 _ rfl; have d2 := (hB1.keep (Hb2.out.trans (hb3.mono Hb2.out.size))).2 2 _ rfl; have d3 := (hB1.keep (Hb2.out.trans (hb3.mono Hb2.out.size))).2 3 _ rfl; have d4 := (hB1.keep (Hb2.out.trans (hb3.mono Hb2.out.size))).2 4 _ rfl; have d5 := (hB1.keep (Hb2.out.trans (hb3.mono Hb2.out.size))).2 5 _ rfl; have d6 := (hB1.keep (Hb2.out.trans (hb3.mono Hb2.out.size))).2 6 _ rfl; have d7 := (hB1.keep (Hb2.out.trans (hb3.mono Hb2.out.size))).2 7 _ rfl; have d8 := (hB1.keep (Hb2.out.trans (hb3.mono Hb2.out.size))).2 8 _ rfl; have Hb3 := Lib.hid hb3; clear hb3)
    | ((try refine ⟨trivial, ?_⟩); gi_at_call 39; refine (callsIn_wide.2 (Hall.out _ (((hbw1.mono hn).trans (Hb2.out.mono hn1)).trans (Hb3.out.mono (Nat.le_trans hn1 Hb2.out.size))))).mono ?_; rintro e' w4 ⟨rfl, rfl⟩))
  have hb4 : Below w.heap.size w (w3.alloc (.cells ([.int .i64 e.kind, .int .i64 e.fn, .int .i64 e.op, .int .i64 e.num, .string e.metric, .slice pm e.mats.length cm, .int .i64 e.span, .slice pn e.names.length cn, .slice pk e.kids.length ck]).toArray 37)) :=
    ((hbw1.trans (Hb2.out.mono hbw1.size)).trans (Hb3.out.mono (Nat.le_trans hbw1.size Hb2.out.size))).alloc (Nat.le_trans hbw1.size (Nat.le_trans Hb2.out.size Hb3.out.size)) _
  have hR4 : Boxed (w3.alloc (.cells ([.int .i64 e.kind, .int .i64 e.fn, .int .i64 e.op, .int .i64 e.num, .string e.metric, .slice pm e.mats.length cm, .int .i64 e.span, .slice pn e.names.length cn, .slice pk e.kids.length ck]).toArray 37)) (w.heap.size + 1) 27 (.int .i64 0) :=
    ((hR1.keep Hb2.out).keep Hb3.out).keep ((Below.refl _ _).alloc (Nat.le_refl _) _)
  have hB4 := Box.new w3 ([.int .i64 e.kind, .int .i64 e.fn, .int .i64 e.op, .int .i64 e.num, .string e.metric, .slice pm e.mats.length cm, .int .i64 e.span, .slice pn e.names.length cn, .slice pk e.kids.length ck]) 37
  have hs3 : w.heap.size + 2 ≤ w3.heap.size := by have := Hsz1.out; have := Hb2.out.size; have := Hb3.out.size; omega
  obtain ⟨W4, hW4⟩ : ∃ W4, w3.alloc (.cells ([.int .i64 e.kind, .int .i64 e.fn, .int .i64 e.op, .int .i64 e.num, .string e.metric, .slice pm e.mats.length cm, .int .i64 e.span, .slice pn e.names.length cn, .slice pk e.kids.length ck]).toArray 37) = W4 := ⟨_, rfl⟩
  have hsz4 : W4.heap.size = w3.heap.size + 1 := by rw [← hW4]; simp
  rw [hW4] at hb4 hR4 hB4 ⊢
  clear hW4
  have Hsz4 := Lib.hid hsz4; clear hsz4
  have hc4 : w.heap.size + 1 < W4.heap.size := by have := Hsz4.out; omega
  have hn4 : n ≤ W4.heap.size := by omega
  refine wpIn_rangeFunc_ownH rfl (by omega) (gf := 56) (lb := #[.pointer (some ⟨w3.heap.size, 0, none⟩)]) rfl trivial (enters_of Tryz.func56 (by kernel_rfl) rfl)
    (allStops (dirtyC (n₀ := n) (c := w.heap.size + 1) (by omega)) 8 e _ W4 w3.heap.size He.out (Cells.of_below (hb4.mono hn)) hB4 hn4 (fun W hW => Nat.lt_of_lt_of_le hc4 hW.size)) (fun h k => h.trans k)
    (fun W l o o' _ ho hcl _ => KpX.put (dirtyC (n₀ := n) (by omega)) W l o o' ho hcl) (Below.refl _ _) (fun _ => rfl)
    (fun pre W => Boxed W (w.heap.size + 1) 27 (.int .i64 0) ∧ (exs pre).all rightB = true ∧ Below w.heap.size w W)
    (fun c pre W => c = .ret ∧ Boxed W (w.heap.size + 1) 27 (.int .i64 2) ∧ ¬ (exs pre).all rightB = true ∧ Below w.heap.size w W)
    (OwnFrom.and (Own.from (boxed_own _ _ _) _) (OwnFrom.and (ownFrom_pure _ _) (ownFrom_below (Nat.le_refl _) (by omega))))
    (fun c => OwnFrom.and (ownFrom_pure _ _) (OwnFrom.and (Own.from (boxed_own _ _ _) _) (OwnFrom.and (ownFrom_pure _ _) (ownFrom_below (Nat.le_refl _) (by omega)))))
    ⟨hR4, rfl, hb4⟩
    (fun x a' W => ∃ Bx, w.heap.size + 1 < Bx ∧ Blk W Bx 37 x.1.2 ∧ a' = { tmps := #[.agg ([.int .i64 e.kind, .int .i64 e.fn, .int .i64 e.op, .int .i64 e.num, .string e.metric, .slice pm e.mats.length cm, .int .i64 e.span, .slice pn e.names.length cn, .slice pk e.kids.length ck]).toArray, .pointer (some ⟨w.heap.size, 0, none⟩), .pointer (some ⟨w.heap.size + 1, 0, none⟩), .pointer (some ⟨Bx, 0, none⟩), .agg ([.int .i64 e.kind, .int .i64 e.fn, .int .i64 e.op, .int .i64 e.num, .string e.metric, .slice pm e.mats.length cm, .int .i64 e.span, .slice pn e.names.length cn, .slice pk e.kids.length ck]).toArray, .int .i64 e.size, .bool false, .bool false, .agg ([.int .i64 e.kind, .int .i64 e.fn, .int .i64 e.op, .int .i64 e.num, .string e.metric, .slice pm e.mats.length cm, .int .i64 e.span, .slice pn e.names.length cn, .slice pk e.kids.length ck]).toArray, .int .i64 e.deep, .bool false, .bool false, .agg ([.int .i64 e.kind, .int .i64 e.fn, .int .i64 e.op, .int .i64 e.num, .string e.metric, .slice pm e.mats.length cm, .int .i64 e.span, .slice pn e.names.length cn, .slice pk e.kids.length ck]).toArray, .func (.func 56) #[] #[.pointer (some ⟨w3.heap.size, 0, none⟩)], .agg x.1.2.toArray, undef, undef, undef], defers := [] })
    (fun x a' => fun s W W' row hs hg hr => by
      obtain ⟨Bx, h1, h2, h3⟩ := hs; exact ⟨Bx, h1, Blk.own () W W' row h2 hg hr, h3⟩)
    ?assign ?body ?done ?stop
  case assign =>
    rintro l pre ⟨⟨ex, cx⟩, hx⟩ W K ⟨hR, hp, hb⟩ hK
    change IsEx n w ex cx at hx
    obtain ⟨pm', cm', pn', cn', pk', ck', rfl, _⟩ := hx.cellsE; have hRl := hR.lt
    gi_wp2
    refine hK _ _ (KeepsFrom.of_below ((Below.refl _ _).alloc (Nat.le_refl _) _)) (KpX.of_belowC ((Below.refl _ _).alloc (Nat.le_refl _) _)) ⟨hR.alloc _, hp, hb.alloc hb.size _⟩ ⟨W.heap.size, hRl, Blk.new _ _ _, ?_⟩
    simp
    omega
  case body =>
    rintro l pre ⟨⟨ex, cx⟩, hx⟩ a' W hl hr ⟨hR, hp, hb⟩ ⟨Bx, hBx, hX, rfl⟩ hlen; clear hr
    change IsEx n w ex cx at hx
    have Hx := Lib.hid hx; obtain ⟨pm', cm', pn', cn', pk', ck', rfl, _⟩ := hx.cellsE
    change Blk W Bx 37 [.int .i64 ex.kind, .int .i64 ex.fn, .int .i64 ex.op, .int .i64 ex.num, .string ex.metric, .slice pm' ex.mats.length cm', .int .i64 ex.span, .slice pn' ex.names.length cn', .slice pk' ex.kids.length ck'] at hX
    have x0 := hX.cell 0 _ rfl; have x1 := hX.cell 1 _ rfl; have x2 := hX.cell 2 _ rfl; have x3 := hX.cell 3 _ rfl; have x4 := hX.cell 4 _ rfl; have x5 := hX.cell 5 _ rfl; have x6 := hX.cell 6 _ rfl; have x7 := hX.cell 7 _ rfl; have x8 := hX.cell 8 _ rfl; have hright := aRight ex _ n W (Nat.le_trans hn hb.size) (Hx.out.mono (hb.mono hn) (Nat.le_refl _)); have Hright := Lib.hid hright; clear hright; have hall2 : (exs (pre ++ [⟨(ex, _), Hx.out⟩])).all rightB = rightB ex := by
      rw [exs_append, List.all_append, hp]; simp [exs]
    have Hall2 := Lib.hid hall2; clear hall2; have HR := Lib.hid hR; clear hR; have Hp := Lib.hid hp; clear hp; have Hb := Lib.hid hb; clear hb; cases hrt : rightB ex with
    | true =>
      rw [hrt] at Hright Hall2
      gi_wp2_with ((try refine ⟨trivial, ?_⟩); gi_at_call 40; refine (CallsIn.inRound l (callsIn_wide.2 Hright.out)).mono ?_; rintro e' w5 ⟨rfl, hb5⟩)
      exact ⟨KeepsFrom.of_below hb5, KpX.of_belowC hb5, Boxed.keepB HR.out hb5, Hall2.out, Hb.out.trans (hb5.mono Hb.out.size)⟩
    | false =>
      rw [hrt] at Hright Hall2
      gi_wp2_with ((try refine ⟨trivial, ?_⟩); gi_at_call 40; refine (CallsIn.inRound l (callsIn_wide.2 Hright.out)).mono ?_; rintro e' w5 ⟨rfl, hb5⟩; have r5 := Boxed.cell (Boxed.keepB HR.out hb5); have f5 := Boxed.frozen (Boxed.keepB HR.out hb5); have Hb5 := Lib.hid hb5; clear hb5)
      exact ⟨(KeepsFrom.of_below Hb5.out).trans ((KeepsOthers.setCell _ _ _).from _), rfl, Boxed.set _ (Boxed.keepB HR.out Hb5.out), by rw [Hall2.out]; simp, (Hb.out.trans (Hb5.out.mono Hb.out.size)).setCell (p := ⟨w.heap.size + 1, 0, none⟩) (by simp) _⟩
  case done =>
    rintro D ys W hD hys ⟨hR, hp, hb⟩ hK; have hc := hR.cell; have hf := hR.frozen
    gi_wp2
    have hK' : (W.setCell ⟨w.heap.size + 1, 0, none⟩ (.int .i64 0)).heap[D]? = some (.deferred (some [])) := (KeepsOthers.setCell _ _ _).same D _ hK rfl; refine ⟨by simp, .inl ⟨_, _, rfl, run_takeDeferred hK', ?_⟩⟩; have hb' : Below w.heap.size w ((W.setCell ⟨w.heap.size + 1, 0, none⟩ (.int .i64 0)).putObj D (.deferred none)) :=
      (hb.setCell (p := ⟨w.heap.size + 1, 0, none⟩) (by simp) _).trans (belowK_b (w := w) (Nat.le_refl _) _ D _ _ (by omega) hK' rfl rfl)
    refine ⟨_, results_cell rfl _ rfl (Tryz.isAgg27 _) ((hR.set (.int .i64 0)).kept (grownBy_putObj' _ D _) (by simp; omega)).cell, ret_int ?_, hb'⟩; rw [hys] at hp; exact (checkExpr_ok Hgood.out hp).symm
  case stop =>
    rintro D c pre W hD hpre ⟨rfl, hR, hp, hb⟩ hK
    gi_wp2
    refine ⟨by simp, .inl ⟨_, _, rfl, run_takeDeferred hK, ?_⟩⟩; refine ⟨_, results_cell rfl _ rfl (Tryz.isAgg27 _) (hR.kept (grownBy_putObj' _ D _) (by simp; omega)).cell, ret_int ?_, hb.trans (belowK_b (w := w) (Nat.le_refl _) _ D _ _ (by omega) hK rfl rfl)⟩; refine (checkExpr_bad Hgood.out (fun h => hp ?_)).symm; obtain ⟨r, hr⟩ := hpre; rw [← hr, List.all_append, Bool.and_eq_true] at h; exact h.1
end Go.Proofs.YtdjdikiimhhjpaaGreatDoor
namespace Go.Proofs.YtdjdikiimhhjpaaGreatDoor
open Go.RowKit
set_option linter.unusedSimpArgs false
set_option linter.unusedVariables false
def checkQuery (every : Int) (e : Ex) : Int := if 1 ≤ every ∧ every ≤ 1073741824 then checkExpr e else 2
theorem aCheck (every : Int) (e : Ex) (cs : List Value) (n : Nat) (w : World) (hn : n ≤ w.heap.size) (he : IsEx n w e cs) (hsz : e.size ≤ 1000000) :
    Calls Tryz.prog 14 #[.agg (.int .i64 every :: cs).toArray] w fun e' w' => e' = .returned (.int .i64 (checkQuery every e)) ∧ Below w.heap.size w w' := by
  obtain ⟨pm, cm, pn, cn, pk, ck, rfl, -⟩ := he.cellsE
  have He := Lib.hid he; clear he
  go_enter Tryz.func14, Tryz.ntmps14; (try simp only [List.append_eq, List.cons_append, List.nil_append])
  by_cases hev : 1 ≤ every ∧ every ≤ 1073741824
  · go_wp2_with (first
      | (go_at_call 26; refine (aSpan every _).mono ?_; rw [decide_eq_true hev]; rintro e' w1 ⟨rfl, rfl⟩)
      | (go_at_call 27; refine (aCheckExpr e _ n _ (by simp; omega) (He.out.mono ((Below.refl _ _).alloc hn _) (Nat.le_refl _)) hsz).mono ?_; rintro e' w1 ⟨rfl, hb1⟩; have Hb1 := Lib.hid hb1; clear hb1))
    go_ret; exact ⟨ret_int (by unfold checkQuery; rw [if_pos hev]), ((Below.refl _ _).alloc (Nat.le_refl _) _).trans (Hb1.out.mono (by simp))⟩
  · go_wp2_with (go_at_call 26; refine (aSpan every _).mono ?_; rw [decide_eq_false hev]; rintro e' w1 ⟨rfl, rfl⟩)
    go_ret; exact ⟨ret_int (by unfold checkQuery; rw [if_neg hev]), (Below.refl _ _).alloc (Nat.le_refl _) _⟩
end Go.Proofs.YtdjdikiimhhjpaaGreatDoor
namespace Go.Proofs.YtdjdikiimhhjpaaGreatDoor
open Go.RowKit
set_option linter.unusedSimpArgs false
set_option linter.unusedVariables false
/-! ### expressions are compared -/
def matEq (a b : Mat) : Bool := a.kind == b.kind && a.name.data.toList == b.name.data.toList && a.text.data.toList == b.text.data.toList
def listEq {α : Type} (f : α → α → Bool) : List α → List α → Bool
  | [], [] => true
  | x :: r, y :: q => f x y && listEq f r q
  | _, _ => false
mutual
def exEq : Ex → Ex → Bool
  | .mk a b c d m ms s ns ks, .mk a' b' c' d' m' ms' s' ns' ks' =>
    a == a' && b == b' && c == c' && d == d' && m.data.toList == m'.data.toList && listEq matEq ms ms' && s == s' && listEq (fun x y : ByteArray => x.data.toList == y.data.toList) ns ns' && exsEq ks ks'
def exsEq : List Ex → List Ex → Bool
  | [], [] => true
  | x :: r, y :: q => exEq x y && exsEq r q
  | [], _ :: _ => false
  | _ :: _, [] => false
end
theorem ba_eq {x y : ByteArray} : (x.data.toList == y.data.toList) = true ↔ x = y := by
  rw [beq_iff_eq]
  constructor
  · intro h; exact ByteArray.ext (Array.toList_inj.1 h)
  · rintro rfl; rfl
theorem matEq_iff {a b : Mat} : matEq a b = true ↔ a = b := by
  unfold matEq
  rw [Bool.and_eq_true, Bool.and_eq_true, ba_eq, ba_eq, beq_iff_eq]
  cases a; cases b; simp [and_assoc]
theorem listEq_iff {α : Type} {f : α → α → Bool} (hf : ∀ a b, f a b = true ↔ a = b) : ∀ {l r : List α}, listEq f l r = true ↔ l = r
  | [], [] => by simp [listEq]
  | [], _ :: _ => by simp [listEq]
  | _ :: _, [] => by simp [listEq]
  | x :: r, y :: q => by rw [listEq, Bool.and_eq_true, hf, listEq_iff hf, List.cons.injEq]
mutual
theorem exEq_iff : ∀ {a b : Ex}, exEq a b = true ↔ a = b
  | .mk a b c d m ms s ns ks, .mk a' b' c' d' m' ms' s' ns' ks' => by
    rw [exEq]; simp only [Bool.and_eq_true, beq_iff_eq, listEq_iff (fun a b => matEq_iff), listEq_iff (f := fun x y : ByteArray => x.data.toList == y.data.toList) (fun a b => ba_eq), exsEq_iff, Ex.mk.injEq]; rw [show (m.data.toList = m'.data.toList) ↔ m = m' from by rw [← beq_iff_eq, ba_eq]]; simp only [and_assoc]
theorem exsEq_iff : ∀ {a b : List Ex}, exsEq a b = true ↔ a = b
  | [], [] => by simp [exsEq]
  | x :: r, y :: q => by rw [exsEq, Bool.and_eq_true, exEq_iff, exsEq_iff, List.cons.injEq]
  | [], _ :: _ => by simp [exsEq]
  | _ :: _, [] => by simp [exsEq]
end
/-! ### nodes -/
structure Nd where
  every : Int
  ex : Ex
  ins : List Int
def ndEq (a b : Nd) : Bool := a.every == b.every && exEq a.ex b.ex && a.ins == b.ins
theorem ndEq_iff {a b : Nd} : ndEq a b = true ↔ a = b := by
  unfold ndEq
  rw [Bool.and_eq_true, Bool.and_eq_true, exEq_iff, beq_iff_eq, beq_iff_eq]
  cases a; cases b; simp [and_assoc]
def Ex.withKids (e : Ex) (ks : List Ex) : Ex := .mk e.kind e.fn e.op e.num e.metric e.mats e.span e.names ks
def Ex.bare (e : Ex) : Ex := e.withKids []
structure NX where
  every : Int
  full : Ex
  ins : List Int
def NX.nd (x : NX) : Nd := ⟨x.every, x.full.bare, x.ins⟩
def findX (ev : Int) (e : Ex) : List NX → Nat → Option Nat
  | [], _ => none
  | x :: r, i => if x.every == ev && exEq x.full e then some i else findX ev e r (i + 1)
def addX (ev : Int) (e : Ex) (ins : List Int) (L : List NX) : List NX × Int := match findX ev e L 0 with
  | some i => (L, (i : Int) + 1)
  | none => (L ++ [⟨ev, e, ins⟩], (L.length : Int) + 1)
mutual
def putX (ev : Int) : Ex → List NX → List NX × Int
  | .mk a b c d m ms s ns ks, L => addX ev (.mk a b c d m ms s ns ks) (putXs ev ks L).2 (putXs ev ks L).1
def putXs (ev : Int) : List Ex → List NX → List NX × List Int
  | [], L => (L, [])
  | k :: ks, L => ((putXs ev ks (putX ev k L).1).1, (putX ev k L).2 :: (putXs ev ks (putX ev k L).1).2)
end
theorem putX_eq (ev : Int) (e : Ex) (L : List NX) : putX ev e L = addX ev e (putXs ev e.kids L).2 (putXs ev e.kids L).1 := by
  cases e; rw [putX]; rfl
def putQs : List (Int × Ex) → List NX → List NX × List Int
  | [], L => (L, [])
  | q :: r, L => ((putQs r (putX q.1 q.2 L).1).1, (putX q.1 q.2 L).2 :: (putQs r (putX q.1 q.2 L).1).2)
def firstBad : List (Int × Ex) → Int
  | [] => 0
  | q :: r => if checkQuery q.1 q.2 = 0 then firstBad r else checkQuery q.1 q.2
def planOf (l : List (Int × Ex)) : List Nd × List Int × Int :=
  if firstBad l = 0 then (if (putQs l []).1.length ≤ 1000 then ((putQs l []).1.map NX.nd, (putQs l []).2, 0) else ([], [], 3)) else ([], [], firstBad l)
/-! ### what is there grows -/
theorem addX_grow (ev : Int) (e : Ex) (ins : List Int) (L : List NX) : ∃ R, (addX ev e ins L).1 = L ++ R ∧ R.length ≤ 1 := by
  unfold addX
  split
  · exact ⟨[], by simp, by simp⟩
  · exact ⟨_, rfl, by simp⟩
theorem putX_grow (ev : Int) : ∀ (e : Ex) (L : List NX), ∃ R, (putX ev e L).1 = L ++ R ∧ R.length ≤ e.size := by
  refine Ex.ind fun e ih => ?_
  intro L
  have hks : ∀ (ks : List Ex), (∀ k ∈ ks, ∀ L, ∃ R, (putX ev k L).1 = L ++ R ∧ R.length ≤ k.size) → ∀ L, ∃ R, (putXs ev ks L).1 = L ++ R ∧ R.length ≤ sizes ks := by
    intro ks
    induction ks with
    | nil => intro _ L; exact ⟨[], by simp [putXs], by simp⟩
    | cons k ks ih2 =>
      intro h L; obtain ⟨R, h1, h2⟩ := h k (by simp) L; obtain ⟨R2, h3, h4⟩ := ih2 (fun k hk => h k (by simp [hk])) (putX ev k L).1; exact ⟨R ++ R2, by rw [putXs, h3, h1, List.append_assoc], by simp [sizes]; omega⟩
  obtain ⟨R, h1, h2⟩ := hks e.kids (fun k hk L => ih k hk L) L
  obtain ⟨R2, h3, h4⟩ := addX_grow ev e (putXs ev e.kids L).2 (putXs ev e.kids L).1
  exact ⟨R ++ R2, by rw [putX_eq, h3, h1, List.append_assoc], by have := e.size_eq; simp; omega⟩
theorem putXs_grow (ev : Int) : ∀ (ks : List Ex) (L : List NX), ∃ R, (putXs ev ks L).1 = L ++ R ∧ R.length ≤ sizes ks
  | [], L => ⟨[], by simp [putXs], by simp⟩
  | k :: ks, L => by
    obtain ⟨R, h1, h2⟩ := putX_grow ev k L; obtain ⟨R2, h3, h4⟩ := putXs_grow ev ks (putX ev k L).1; exact ⟨R ++ R2, by rw [putXs, h3, h1, List.append_assoc], by simp [sizes]; omega⟩
theorem putQs_grow : ∀ (l : List (Int × Ex)) (L : List NX), ∃ R, (putQs l L).1 = L ++ R
  | [], L => ⟨[], by simp [putQs]⟩
  | q :: r, L => by
    obtain ⟨R, h1, h2⟩ := putX_grow q.1 q.2 L; obtain ⟨R2, h3⟩ := putQs_grow r (putX q.1 q.2 L).1; exact ⟨R ++ R2, by rw [putQs, h3, h1, List.append_assoc]⟩
end Go.Proofs.YtdjdikiimhhjpaaGreatDoor
namespace Go.Proofs.YtdjdikiimhhjpaaGreatDoor
open Go.RowKit
set_option linter.unusedSimpArgs false
set_option linter.unusedVariables false
def SameOn (a : Ex) : Prop := ∀ (b : Ex) (cs ds : List Value) (n : Nat) (w : World), n ≤ w.heap.size → IsEx n w a cs → IsEx n w b ds →
    Calls Tryz.prog 78 #[.agg cs.toArray, .agg ds.toArray] w fun e' w' => e' = .returned (.bool (decide (a = b))) ∧ Below w.heap.size w w'
theorem eqExs (la lb : List Ex) (va vb : Value) (n : Nat) (w : World) (hih : ∀ a ∈ la, SameOn a) (hn : n ≤ w.heap.size) (ha : IsExs n w va la) (hb : IsExs n w vb lb) :
    Calls Tryz.prog 87 #[va, vb, (.func (.func 78) #[] #[])] w fun e w' => e = .returned (.bool (decide (la = lb))) ∧ Below w.heap.size w w' := by
  obtain ⟨p, cap, rfl, _, _, hla⟩ := ha.open
  obtain ⟨q, cbp, rfl, _, _, hlb⟩ := hb.open
  have Hih := Lib.hid hih; clear hih
  unfold maxLen at hla hlb
  go_enter Tryz.func87, Tryz.ntmps87; (try simp only [List.append_eq, List.cons_append, List.nil_append])
  by_cases hl : la.length = lb.length
  · have Hl := Lib.hid hl; clear hl
    have hl : ((la.length : Int) != (lb.length : Int)) = false := by simp [Hl.out]
    go_wp2
    go_loopw [17] (fun i wr => ∃ k : Nat, k ≤ la.length ∧ i = .int .i64 k ∧ la.take k = lb.take k ∧ Below w.heap.size w wr) (fun i _ => la.length - (intOf i).toNat)
    case atStart => exact ⟨0, Nat.zero_le _, rfl, by simp, Below.refl _ _⟩
    case round =>
      obtain ⟨k, hk, rfl, hr, hbl⟩ := hrel; have Hr := Lib.hid hr; clear hr; have Hbl := Lib.hid hbl; clear hbl
      by_cases hlt : k < la.length
      · have hltb : k < lb.length := by have := Hl.out; omega
        obtain ⟨b1, off, pm, cm, pn, cn, pk, ck, rfl, hbn, hei, e0, e1, e2, e3, e4, e5, e6, e7, e8⟩ := (ha.mono (Hbl.out.mono hn) (Nat.le_refl _)).getE (Cells.refl _ _) hlt; have Hei := Lib.hid hei; clear hei; have hszr := Hbl.out.size; have Ha := Lib.hid ha; clear ha; have Hb := Lib.hid hb; clear hb; have Hl2 := Lib.hid (take_eq_step' (a := la) (b := lb) Hr.out hlt hltb); have Hne := Lib.hid (ne_of_at (a := la) (b := lb) hlt hltb)
        go_upto_region 5 with fail
        go_cut [7, 8] (fun s7 s8 wx => s7 = .int .i64 k ∧ s8 = .pointer (some ⟨wr.heap.size, 0, none⟩) ∧ Below wr.heap.size wr wx ∧ Box wx wr.heap.size [.int .i64 la[k].kind, .int .i64 la[k].fn, .int .i64 la[k].op, .int .i64 la[k].num, .string la[k].metric, .slice pm la[k].mats.length cm, .int .i64 la[k].span, .slice pn la[k].names.length cn, .slice pk la[k].kids.length ck])
        case first =>
          go_wp2
          go_meet
          exact ⟨rfl, rfl, (Below.refl _ _).alloc (Nat.le_refl _) _, Box.new wr _ _⟩
        case rest =>
          obtain ⟨rfl, rfl, hbv, hx⟩ := hcut; obtain ⟨V, rfl⟩ : ∃ V : World, V = wc := ⟨_, rfl⟩; obtain ⟨b2, off2, qm, dm, qn, dn, qk, dk, hq, hbn2, hei2, f0, f1, f2, f3, f4, f5, f6, f7, f8⟩ := (Hb.out.mono ((Hbl.out.trans (hbv.mono hszr)).mono hn) (Nat.le_refl _)).getE (Cells.refl _ _) hltb; cases hq; have Hei2 := Lib.hid hei2; clear hei2; have hszv := hbv.size; have hszx := hx.1; have Hbv := Lib.hid hbv; clear hbv; have Hx := Lib.hid hx; clear hx
          go_upto_region 6 with fail
          go_cut [9] (fun s9 wx => s9 = .pointer (some ⟨V.heap.size, 0, none⟩) ∧ Below V.heap.size V wx ∧ Box wx V.heap.size [.int .i64 lb[k].kind, .int .i64 lb[k].fn, .int .i64 lb[k].op, .int .i64 lb[k].num, .string lb[k].metric, .slice qm lb[k].mats.length dm, .int .i64 lb[k].span, .slice qn lb[k].names.length dn, .slice qk lb[k].kids.length dk])
          case first =>
            go_wp2
            go_meet
            exact ⟨rfl, (Below.refl _ _).alloc (Nat.le_refl _) _, Box.new V _ _⟩
          case rest =>
          obtain ⟨rfl, hbw, hy⟩ := hcut; have hx := Hx.out.keep hbw; have Hvw := Lib.hid (Hbv.out.trans (hbw.mono hszv)); obtain ⟨W, rfl⟩ : ∃ W : World, W = wc := ⟨_, rfl⟩; have g0 := hx.2 0 _ rfl; have g1 := hx.2 1 _ rfl; have g2 := hx.2 2 _ rfl; have g3 := hx.2 3 _ rfl; have g4 := hx.2 4 _ rfl; have g5 := hx.2 5 _ rfl; have g6 := hx.2 6 _ rfl; have g7 := hx.2 7 _ rfl; have g8 := hx.2 8 _ rfl; have i0 := hy.2 0 _ rfl; have i1 := hy.2 1 _ rfl; have i2 := hy.2 2 _ rfl; have i3 := hy.2 3 _ rfl; have i4 := hy.2 4 _ rfl; have i5 := hy.2 5 _ rfl; have i6 := hy.2 6 _ rfl; have i7 := hy.2 7 _ rfl; have i8 := hy.2 8 _ rfl; have hszx := hx.1; have hszy := hy.1; have Hbw := Lib.hid hbw; clear hbw; have Hx := Lib.hid hx; clear hx; have Hy := Lib.hid hy; clear hy
          go_wp2_with (go_at_call 78; refine (Hih.out _ (List.getElem_mem hlt) lb[k] _ _ n W (by omega) (Hei.out.mono (Hvw.out.mono (by omega)) (Nat.le_refl _)) (Hei2.out.mono (Hbw.out.mono (by omega)) (Nat.le_refl _))).mono ?_; rintro e' w2 ⟨rfl, hb2⟩; have Hb2 := Lib.hid hb2; clear hb2)
          all_goals (try simp only [Bool.not_eq_true', Bool.not_eq_false', Bool.not_true, Bool.not_false, Bool.not_eq_true, Bool.not_eq_false, beq_iff_eq, beq_eq_false_iff_ne, bne_iff_ne, ne_eq, bne_eq_false_iff_eq, decide_eq_true_eq, decide_eq_false_iff_not, toList_inj] at *)
          · go_ret
            refine ⟨ret_bool (Eq.symm (decide_eq_false (Hne.out ?_))), Hbl.out.trans ((Hvw.out.trans (Hb2.out.mono (by omega))).mono hszr)⟩
            assumption
          · refine ⟨⟨k + 1, by omega, by go_num, Hl2.out ?_, Hbl.out.trans ((Hvw.out.trans (Hb2.out.mono (by omega))).mono hszr)⟩, by simp [intOf]; omega⟩
            assumption
      · go_wp2
        go_ret; refine ⟨ret_bool (Eq.symm (decide_eq_true ?_)), Hbl.out⟩; have hk' : k = la.length := by omega
        subst hk'; exact eq_of_upto Hl.out Hr.out
  · have hl' : ((la.length : Int) != (lb.length : Int)) = true := by simp; omega
    go_wp2; go_ret; exact ⟨ret_bool (Eq.symm (decide_eq_false (fun e => hl (by rw [e])))), Below.refl _ _⟩
theorem ret_same_false {p : Prop} [Decidable p] (h : ¬ p) : Value.bool false = Value.bool (decide p) := by rw [decide_eq_false h]
theorem aSame : ∀ (a : Ex), SameOn a := by
  refine Ex.ind fun a ih => ?_
  intro b cs ds n w hn ha hb
  obtain ⟨am, an, ak, rfl, hsa, hma, hna, hka⟩ := ha.cells
  obtain ⟨bm, bn, bk, rfl, hsb, hmb, hnb, hkb⟩ := hb.cells
  obtain ⟨pa, ca, rfl, _, _, hla⟩ := hka.open
  obtain ⟨pb, cb, rfl, _, _, hlb⟩ := hkb.open
  have Hih := Lib.hid ih; clear ih
  have Ha := Lib.hid ha; clear ha
  have Hb := Lib.hid hb; clear hb
  unfold maxLen at hla hlb
  go_enter Tryz.func78, Tryz.ntmps78; (try simp only [List.append_eq, List.cons_append, List.nil_append])
  go_upto_region 0 with fail
  go_cut [2, 3, 4] (fun s2 s3 s4 wx => s2 = .pointer (some ⟨w.heap.size, 0, none⟩) ∧ s3 = .pointer (some ⟨w.heap.size + 1, 0, none⟩) ∧ s4 = .bool false ∧ Below w.heap.size w wx ∧
      Box wx w.heap.size [.int .i64 a.kind, .int .i64 a.fn, .int .i64 a.op, .int .i64 a.num, .string a.metric, am, .int .i64 a.span, an, .slice pa a.kids.length ca] ∧ Box wx (w.heap.size + 1) [.int .i64 b.kind, .int .i64 b.fn, .int .i64 b.op, .int .i64 b.num, .string b.metric, bm, .int .i64 b.span, bn, .slice pb b.kids.length cb])
  case first =>
    go_wp2
    go_meet
    have hby := Box.new (w.alloc (.cells ([.int .i64 a.kind, .int .i64 a.fn, .int .i64 a.op, .int .i64 a.num, .string a.metric, am, .int .i64 a.span, an, .slice pa a.kids.length ca]).toArray 37)) [.int .i64 b.kind, .int .i64 b.fn, .int .i64 b.op, .int .i64 b.num, .string b.metric, bm, .int .i64 b.span, bn, .slice pb b.kids.length cb] 37; rw [World.size_alloc] at hby; exact ⟨rfl, rfl, rfl, ((Below.refl _ _).alloc (Nat.le_refl _) _).alloc (by simp) _, (Box.new w _ _).keep ((Below.refl _ _).alloc (Nat.le_refl _) _), hby⟩
  case rest =>
    obtain ⟨rfl, rfl, rfl, hbw, hbx, hby⟩ := hcut; obtain ⟨W, rfl⟩ : ∃ W : World, W = wc := ⟨_, rfl⟩; have hsz := hbx.1; have hsz2 := hby.1; have Hbx := Lib.hid hbx; clear hbx; have Hby := Lib.hid hby; clear hby; have Hbw := Lib.hid hbw; clear hbw; have Hma := Lib.hid (hma.mono (Hbw.out.mono hn) (Nat.le_refl _)); clear hma; have Hmb := Lib.hid (hmb.mono (Hbw.out.mono hn) (Nat.le_refl _)); clear hmb; have Hna := Lib.hid (hna.mono (Hbw.out.mono hn) (Nat.le_refl _)); clear hna; have Hnb := Lib.hid (hnb.mono (Hbw.out.mono hn) (Nat.le_refl _)); clear hnb; have Hka := Lib.hid (hka.mono (Hbw.out.mono hn) (Nat.le_refl _)); clear hka; have Hkb := Lib.hid (hkb.mono (Hbw.out.mono hn) (Nat.le_refl _)); clear hkb; have hnW : n ≤ W.heap.size := by omega
    clear hn
    go_upto_region 1 with fail
    go_cut [0, 1, 4] (fun s0 s1 s4 wx => s4 = .bool (decide (a = b)) ∧ Below W.heap.size W wx)
    case first =>
      have c0 := Hbx.out.2 0 _ rfl; have d0 := Hby.out.2 0 _ rfl; have c1 := Hbx.out.2 1 _ rfl; have d1 := Hby.out.2 1 _ rfl; have c2 := Hbx.out.2 2 _ rfl; have d2 := Hby.out.2 2 _ rfl; have c3 := Hbx.out.2 3 _ rfl; have d3 := Hby.out.2 3 _ rfl; have c4 := Hbx.out.2 4 _ rfl; have d4 := Hby.out.2 4 _ rfl; have c5 := Hbx.out.2 5 _ rfl; have d5 := Hby.out.2 5 _ rfl; have c6 := Hbx.out.2 6 _ rfl; have d6 := Hby.out.2 6 _ rfl; have c7 := Hbx.out.2 7 _ rfl; have d7 := Hby.out.2 7 _ rfl; have c8 := Hbx.out.2 8 _ rfl; have d8 := Hby.out.2 8 _ rfl
      go_wp2_with (first
        | (go_at_call 85; refine (eqMats _ _ _ _ n _ hnW Hma.out Hmb.out).mono ?_; rintro e' w1 ⟨rfl, hb1⟩; have x6 := (Hbx.out.keep hb1).2 6 _ rfl; have x7 := (Hbx.out.keep hb1).2 7 _ rfl; have x8 := (Hbx.out.keep hb1).2 8 _ rfl; have y6 := (Hby.out.keep hb1).2 6 _ rfl; have y7 := (Hby.out.keep hb1).2 7 _ rfl; have y8 := (Hby.out.keep hb1).2 8 _ rfl; have Hb1 := Lib.hid hb1; clear hb1)
        | (go_at_call 86; refine (eqStrs _ _ _ _ n _ (Nat.le_trans hnW Hb1.out.size) (Hna.out.mono (Hb1.out.mono hnW) (Nat.le_refl _)) (Hnb.out.mono (Hb1.out.mono hnW) (Nat.le_refl _))).mono ?_; rintro e' w2 ⟨rfl, hb2⟩; have Hb12 := Lib.hid (Hb1.out.trans (hb2.mono Hb1.out.size)); have z8 := (Hbx.out.keep Hb12.out).2 8 _ rfl; have u8 := (Hby.out.keep Hb12.out).2 8 _ rfl; clear hb2)
        | (go_at_call 87; refine (eqExs _ _ _ _ n _ Hih.out (Nat.le_trans hnW Hb12.out.size) (Hka.out.mono (Hb12.out.mono hnW) (Nat.le_refl _)) (Hkb.out.mono (Hb12.out.mono hnW) (Nat.le_refl _))).mono ?_; rintro e' w3 ⟨rfl, hb3⟩; have Hb13 := Lib.hid (Hb12.out.trans (hb3.mono Hb12.out.size)); clear hb3))
      all_goals go_meet
      all_goals (try simp only [Bool.not_eq_true', Bool.not_eq_false', Bool.not_true, Bool.not_false, Bool.not_eq_true, Bool.not_eq_false, beq_iff_eq, beq_eq_false_iff_ne, bne_iff_ne, ne_eq, bne_eq_false_iff_eq, decide_eq_true_eq, decide_eq_false_iff_not, toList_inj] at *)
      all_goals first
        | (refine ⟨ret_same_false (fun e => ?_), ?_⟩
           · subst e; contradiction
           · first
               | exact Below.refl _ _
               | exact Hb1.out
               | exact Hb12.out)
        | skip
      refine ⟨?_, Hb13.out⟩
      by_cases hk : a.kids = b.kids
      · rw [decide_eq_true hk, decide_eq_true (show a = b from Ex.ext (by assumption) (by assumption) (by assumption) (by assumption) (by assumption) (by assumption) (by assumption) (by assumption) hk)]
      · rw [decide_eq_false hk, decide_eq_false (fun e => hk (by rw [e]))]
    case rest =>
      obtain ⟨rfl, hbc⟩ := hcut; go_wp2; go_ret; exact ⟨rfl, Hbw.out.trans (hbc.mono (by omega))⟩
end Go.Proofs.YtdjdikiimhhjpaaGreatDoor
namespace Go.Proofs.YtdjdikiimhhjpaaGreatDoor
open Go.RowKit
set_option linter.unusedSimpArgs false
set_option linter.unusedVariables false
def Rep (L : List NX) (ev : Int) (e : Ex) (n : Int) : Prop := ∃ (i : Nat) (x : NX), L[i]? = some x ∧ n = (i : Int) + 1 ∧ x.every = ev ∧ x.full = e
def Reps (L : List NX) (ev : Int) : List Ex → List Int → Prop
  | [], [] => True
  | e :: es, n :: ns => Rep L ev e n ∧ Reps L ev es ns
  | [], _ :: _ => False
  | _ :: _, [] => False
structure Inv (L : List NX) : Prop where
  kids : ∀ (i : Nat) (x : NX), L[i]? = some x → Reps (L.take i) x.every x.full.kids x.ins
  one : ∀ (i j : Nat) (x y : NX), L[i]? = some x → L[j]? = some y → x.every = y.every → x.full = y.full → i = j
theorem Rep.app {L : List NX} {ev : Int} {e : Ex} {n : Int} (h : Rep L ev e n) (R : List NX) : Rep (L ++ R) ev e n := by
  obtain ⟨i, x, h1, h2⟩ := h
  refine ⟨i, x, ?_, h2⟩
  rw [List.getElem?_append_left (List.getElem?_eq_some_iff.1 h1).1]; exact h1
theorem Rep.bd {L : List NX} {ev : Int} {e : Ex} {n : Int} (h : Rep L ev e n) : 1 ≤ n ∧ n ≤ (L.length : Int) := by
  obtain ⟨i, x, h1, h2, -⟩ := h
  have := (List.getElem?_eq_some_iff.1 h1).1
  omega
theorem Rep.one {L : List NX} (hL : Inv L) {ev : Int} {e : Ex} {n m : Int} (h : Rep L ev e n) (k : Rep L ev e m) : n = m := by
  obtain ⟨i, x, h1, rfl, h3, h4⟩ := h
  obtain ⟨j, y, k1, rfl, k3, k4⟩ := k
  rw [hL.one i j x y h1 k1 (h3.trans k3.symm) (h4.trans k4.symm)]
theorem Rep.same {L : List NX} {ev ev' : Int} {e e' : Ex} {n : Int} (h : Rep L ev e n) (k : Rep L ev' e' n) : ev = ev' ∧ e = e' := by
  obtain ⟨i, x, h1, h2, h3, h4⟩ := h
  obtain ⟨j, y, k1, k2, k3, k4⟩ := k
  obtain rfl : i = j := by omega
  rw [h1] at k1
  cases k1
  exact ⟨h3.symm.trans k3, h4.symm.trans k4⟩
theorem Rep.drop {L : List NX} {i : Nat} {ev : Int} {e : Ex} {n : Int} (h : Rep (L.take i) ev e n) : Rep L ev e n := by
  have := h.app (L.drop i)
  rwa [List.take_append_drop] at this
theorem Reps.app {L : List NX} {ev : Int} (R : List NX) : ∀ {es : List Ex} {ns : List Int}, Reps L ev es ns → Reps (L ++ R) ev es ns
  | [], [], _ => trivial
  | _ :: _, _ :: _, h => ⟨h.1.app R, Reps.app R h.2⟩
  | [], _ :: _, h => h.elim
  | _ :: _, [], h => h.elim
theorem Reps.drop {L : List NX} {i : Nat} {ev : Int} : ∀ {es : List Ex} {ns : List Int}, Reps (L.take i) ev es ns → Reps L ev es ns
  | [], [], _ => trivial
  | _ :: _, _ :: _, h => ⟨h.1.drop, Reps.drop h.2⟩
  | [], _ :: _, h => h.elim
  | _ :: _, [], h => h.elim
theorem Reps.one {L : List NX} (hL : Inv L) {ev : Int} : ∀ {es : List Ex} {ns ms : List Int}, Reps L ev es ns → Reps L ev es ms → ns = ms
  | [], [], [], _, _ => rfl
  | _ :: _, _ :: _, _ :: _, h, k => by rw [h.1.one hL k.1, Reps.one hL h.2 k.2]
  | [], _ :: _, _, h, _ => h.elim
  | [], [], _ :: _, _, k => k.elim
  | _ :: _, [], _, h, _ => h.elim
  | _ :: _, _ :: _, [], _, k => k.elim
theorem Reps.same {L : List NX} {ev ev' : Int} : ∀ {es es' : List Ex} {ns : List Int}, Reps L ev es ns → Reps L ev' es' ns → es = es'
  | [], [], [], _, _ => rfl
  | _ :: _, _ :: _, _ :: _, h, k => by rw [(h.1.same k.1).2, Reps.same h.2 k.2]
  | [], _, _ :: _, h, _ => h.elim
  | _ :: _, _, [], h, _ => h.elim
  | [], _ :: _, [], _, k => k.elim
  | _ :: _, [], _ :: _, _, k => k.elim
theorem Reps.len {L : List NX} {ev : Int} : ∀ {es : List Ex} {ns : List Int}, Reps L ev es ns → ns.length = es.length
  | [], [], _ => rfl
  | _ :: _, _ :: _, h => by simp [Reps.len h.2]
  | [], _ :: _, h => h.elim
  | _ :: _, [], h => h.elim
theorem Reps.mem {L : List NX} {ev : Int} : ∀ {es : List Ex} {ns : List Int}, Reps L ev es ns → ∀ n ∈ ns, ∃ e ∈ es, Rep L ev e n
  | [], [], _, n, hn => by simp at hn
  | e :: _, _ :: _, h, n, hn => by
    rcases List.mem_cons.1 hn with rfl | hn
    · exact ⟨e, by simp, h.1⟩
    · obtain ⟨e', h1, h2⟩ := Reps.mem h.2 n hn
      exact ⟨e', by simp [h1], h2⟩
  | [], _ :: _, h, _, _ => h.elim
  | _ :: _, [], h, _, _ => h.elim
theorem Inv.nil : Inv [] := ⟨fun i x h => by simp at h, fun i j x y h => by simp at h⟩
/-! ### the search -/
theorem findX_none {ev : Int} {e : Ex} : ∀ {L : List NX} {i : Nat}, findX ev e L i = none ↔ ∀ x ∈ L, ¬ (x.every = ev ∧ x.full = e)
  | [], i => by simp [findX]
  | x :: r, i => by
    unfold findX
    by_cases h : (x.every == ev && exEq x.full e) = true
    · rw [if_pos h]
      rw [Bool.and_eq_true, beq_iff_eq, exEq_iff] at h
      simp [h]
    · rw [if_neg h, findX_none]
      rw [Bool.and_eq_true, beq_iff_eq, exEq_iff] at h; exact ⟨fun k y hy => by rcases List.mem_cons.1 hy with rfl | hy; exact h; exact k y hy, fun k y hy => k y (by simp [hy])⟩
theorem findX_some {ev : Int} {e : Ex} : ∀ {L : List NX} {i k : Nat}, findX ev e L i = some k → ∃ x, i ≤ k ∧ L[k - i]? = some x ∧ x.every = ev ∧ x.full = e
  | [], i, k, h => by simp [findX] at h
  | x :: r, i, k, h => by
    unfold findX at h
    by_cases h1 : (x.every == ev && exEq x.full e) = true
    · rw [if_pos h1] at h
      cases h; rw [Bool.and_eq_true, beq_iff_eq, exEq_iff] at h1; exact ⟨x, Nat.le_refl _, by simp, h1⟩
    · rw [if_neg h1] at h
      obtain ⟨y, h2, h3, h4⟩ := findX_some h; refine ⟨y, by omega, ?_, h4⟩; rw [show k - i = (k - (i + 1)) + 1 by omega, List.getElem?_cons_succ]; exact h3
theorem addX_inv {L : List NX} (hL : Inv L) {ev : Int} {e : Ex} {ins : List Int} (hi : Reps L ev e.kids ins) : Inv (addX ev e ins L).1 ∧ Rep (addX ev e ins L).1 ev e (addX ev e ins L).2 := by
  unfold addX
  cases hf : findX ev e L 0 with
  | some k =>
    obtain ⟨x, -, h2, h3⟩ := findX_some hf; exact ⟨hL, k, x, by simpa using h2, rfl, h3⟩
  | none =>
    have hn := findX_none.1 hf; refine ⟨⟨fun i x hx => ?_, fun i j x y hx hy h1 h2 => ?_⟩, L.length, ⟨ev, e, ins⟩, by simp, rfl, rfl, rfl⟩
    · by_cases h : i < L.length
      · rw [List.getElem?_append_left h] at hx
        rw [List.take_append_of_le_length (Nat.le_of_lt h)]; exact hL.kids i x hx
      · have hl := (List.getElem?_eq_some_iff.1 hx).1
        simp at hl
        obtain rfl : i = L.length := by omega
        simp at hx
        subst hx; rw [List.take_left]; exact hi
    · have key : ∀ (i : Nat) (x : NX), (L ++ [⟨ev, e, ins⟩])[i]? = some x → (i < L.length ∧ L[i]? = some x) ∨ (i = L.length ∧ x = ⟨ev, e, ins⟩) := by
        intro i x hx
        by_cases h : i < L.length
        · rw [List.getElem?_append_left h] at hx; exact Or.inl ⟨h, hx⟩
        · have hl := (List.getElem?_eq_some_iff.1 hx).1
          simp at hl
          obtain rfl : i = L.length := by omega
          simp at hx
          exact Or.inr ⟨rfl, hx.symm⟩
      rcases key i x hx with ⟨a, b⟩ | ⟨a, rfl⟩ <;> rcases key j y hy with ⟨c, d⟩ | ⟨c, rfl⟩
      · exact hL.one i j x y b d h1 h2
      · exact absurd ⟨h1, h2⟩ (hn x (List.mem_of_getElem? b))
      · exact absurd ⟨h1.symm, h2.symm⟩ (hn y (List.mem_of_getElem? d))
      · omega
theorem putX_inv (ev : Int) : ∀ (e : Ex) (L : List NX), Inv L → Inv (putX ev e L).1 ∧ Rep (putX ev e L).1 ev e (putX ev e L).2 := by
  refine Ex.ind fun e ih => ?_
  intro L hL
  have hks : ∀ (ks : List Ex), (∀ k ∈ ks, ∀ L, Inv L → Inv (putX ev k L).1 ∧ Rep (putX ev k L).1 ev k (putX ev k L).2) → ∀ L, Inv L → Inv (putXs ev ks L).1 ∧ Reps (putXs ev ks L).1 ev ks (putXs ev ks L).2 := by
    intro ks
    induction ks with
    | nil => intro _ L hL; exact ⟨hL, trivial⟩
    | cons k ks ih2 =>
      intro h L hL; obtain ⟨h1, h2⟩ := h k (by simp) L hL; obtain ⟨h3, h4⟩ := ih2 (fun k hk => h k (by simp [hk])) _ h1; obtain ⟨R, hR, -⟩ := putXs_grow ev ks (putX ev k L).1; rw [putXs]; exact ⟨h3, by rw [hR]; exact h2.app R, h4⟩
  obtain ⟨h1, h2⟩ := hks e.kids (fun k hk L => ih k hk L) L hL
  rw [putX_eq]
  exact addX_inv h1 h2
theorem putXs_inv (ev : Int) : ∀ (ks : List Ex) (L : List NX), Inv L → Inv (putXs ev ks L).1 ∧ Reps (putXs ev ks L).1 ev ks (putXs ev ks L).2
  | [], L, hL => ⟨hL, trivial⟩
  | k :: ks, L, hL => by
    obtain ⟨h1, h2⟩ := putX_inv ev k L hL; obtain ⟨h3, h4⟩ := putXs_inv ev ks _ h1; obtain ⟨R, hR, -⟩ := putXs_grow ev ks (putX ev k L).1; rw [putXs]; exact ⟨h3, by rw [hR]; exact h2.app R, h4⟩
/-! ### the reference's -/
def findN (n : Nd) : List Nd → Nat → Option Nat
  | [], _ => none
  | x :: r, i => if ndEq x n then some i else findN n r (i + 1)
def addN (n : Nd) (P : List Nd) : List Nd × Int := match findN n P 0 with
  | some i => (P, (i : Int) + 1)
  | none => (P ++ [n], (P.length : Int) + 1)
mutual
def putN (ev : Int) : Ex → List Nd → List Nd × Int
  | .mk a b c d m ms s ns ks, P => addN ⟨ev, .mk a b c d m ms s ns [], (putNs ev ks P).2⟩ (putNs ev ks P).1
def putNs (ev : Int) : List Ex → List Nd → List Nd × List Int
  | [], P => (P, [])
  | k :: ks, P => ((putNs ev ks (putN ev k P).1).1, (putN ev k P).2 :: (putNs ev ks (putN ev k P).1).2)
end
theorem putN_eq (ev : Int) (e : Ex) (P : List Nd) : putN ev e P = addN ⟨ev, e.bare, (putNs ev e.kids P).2⟩ (putNs ev e.kids P).1 := by
  cases e; rw [putN]; rfl
theorem ex_of_bare {a b : Ex} (h : a.bare = b.bare) (hk : a.kids = b.kids) : a = b := by
  cases a; cases b
  simp only [Ex.bare, Ex.withKids, Ex.mk.injEq, Ex.kind, Ex.fn, Ex.op, Ex.num, Ex.metric, Ex.mats, Ex.span, Ex.names, and_true] at h
  simp only [Ex.kids] at hk
  simp [h, hk]
theorem find_same {L : List NX} (hL : Inv L) {ev : Int} {e : Ex} {ins : List Int} (hi : Reps L ev e.kids ins) : ∀ (r : List NX) (i : Nat), (∀ x ∈ r, x ∈ L) → findN ⟨ev, e.bare, ins⟩ (r.map NX.nd) i = findX ev e r i
  | [], i, _ => rfl
  | x :: r, i, h => by
    rw [List.map_cons, findN, findX, find_same hL hi r (i + 1) (fun y hy => h y (by simp [hy]))]; have e1 : ndEq x.nd ⟨ev, e.bare, ins⟩ = (x.every == ev && exEq x.full e) := by
      rw [Bool.eq_iff_iff, ndEq_iff, Bool.and_eq_true, beq_iff_eq, exEq_iff]; obtain ⟨k, hk, hx⟩ := List.getElem_of_mem (h x (by simp)); have hR := (hL.kids k x (by rw [← hx]; simp)).drop
      constructor
      · intro h1
        simp only [NX.nd, Nd.mk.injEq] at h1; obtain ⟨rfl, h2, rfl⟩ := h1; exact ⟨rfl, ex_of_bare h2 (hR.same hi)⟩
      · rintro ⟨rfl, rfl⟩
        simp only [NX.nd, Nd.mk.injEq, true_and]; exact hR.one hL hi
    rw [e1]
theorem addN_same {L : List NX} (hL : Inv L) {ev : Int} {e : Ex} {ins : List Int} (hi : Reps L ev e.kids ins) : addN ⟨ev, e.bare, ins⟩ (L.map NX.nd) = ((addX ev e ins L).1.map NX.nd, (addX ev e ins L).2) := by
  unfold addN addX
  rw [find_same hL hi L 0 (fun x hx => hx)]
  cases findX ev e L 0 with
  | none => simp [NX.nd]
  | some k => rfl
theorem putN_same (ev : Int) : ∀ (e : Ex) (L : List NX), Inv L → putN ev e (L.map NX.nd) = ((putX ev e L).1.map NX.nd, (putX ev e L).2) := by
  refine Ex.ind fun e ih => ?_
  intro L hL
  have hks : ∀ (ks : List Ex), (∀ k ∈ ks, ∀ L, Inv L → putN ev k (L.map NX.nd) = ((putX ev k L).1.map NX.nd, (putX ev k L).2)) → ∀ L, Inv L → putNs ev ks (L.map NX.nd) = ((putXs ev ks L).1.map NX.nd, (putXs ev ks L).2) := by
    intro ks
    induction ks with
    | nil => intro _ L hL; rfl
    | cons k ks ih2 =>
      intro h L hL; rw [putNs, h k (by simp) L hL, putXs, ih2 (fun k hk => h k (by simp [hk])) _ (putX_inv ev k L hL).1]
  obtain ⟨h1, h2⟩ := putXs_inv ev e.kids L hL
  rw [putN_eq, putX_eq, hks e.kids (fun k hk L => ih k hk L) L hL]
  exact addN_same h1 h2
theorem putQs_inv : ∀ (l : List (Int × Ex)) (L : List NX), Inv L → Inv (putQs l L).1
  | [], L, hL => hL
  | q :: r, L, hL => by rw [putQs]; exact putQs_inv r _ (putX_inv q.1 q.2 L hL).1
end Go.Proofs.YtdjdikiimhhjpaaGreatDoor
namespace Go.Proofs.YtdjdikiimhhjpaaGreatDoor
open Go.RowKit
set_option linter.unusedSimpArgs false
set_option linter.unusedVariables false
def standX (c : UInt8) : Ex := .mk 1 1 0 0 ⟨#[c]⟩ [] 1 [] []
def wholeX (c : UInt8) (e : Ex) : Ex := e.withKids (List.replicate (kidsOf e.kind).toNat (standX c))
theorem kidsOf_bd (k : Int) : -1 ≤ kidsOf k ∧ kidsOf k ≤ 2 := by
  unfold kidsOf
  by_cases h : kindOk k = true
  · rw [if_pos h]
    have h' : 1 ≤ k ∧ k ≤ 5 := by simpa [kindOk] using h
    obtain rfl | rfl | rfl | rfl | rfl : k = 1 ∨ k = 2 ∨ k = 3 ∨ k = 4 ∨ k = 5 := by omega
    all_goals decide
  · rw [if_neg h]; decide
theorem rightB_with (e : Ex) (ks : List Ex) : rightB (e.withKids ks) = (kindOk e.kind && rightH (hasOf e.kind) ks.length e.fn e.op e.num e.metric e.mats e.span e.names) := rfl
theorem withKids_kids (e : Ex) : e.withKids e.kids = e := by cases e; rfl
theorem rightB_kids {e : Ex} (h : rightB e = true) : (e.kids.length : Int) = kidsOf e.kind := by
  unfold rightB rightH at h
  simp only [Bool.and_eq_true, decide_eq_true_eq] at h
  unfold kidsOf
  rw [if_pos h.1]
  exact h.2.1.1.1.1.1.1
theorem rightB_len {e : Ex} {ks qs : List Ex} (h : ks.length = qs.length) : rightB (e.withKids ks) = rightB (e.withKids qs) := by rw [rightB_with, rightB_with, h]
theorem stand_right {c : UInt8} (hc : c = 120 ∨ c = 97) : rightB (standX c) = true := by rcases hc with rfl | rfl <;> rfl
theorem flats_rep (x : Ex) (hx : x.flat = [x]) : ∀ k, flats (List.replicate k x) = List.replicate k x
  | 0 => rfl
  | k + 1 => by rw [List.replicate_succ, flats, hx, flats_rep x hx k]; rfl
theorem sizes_rep (x : Ex) (hx : x.size = 1) : ∀ k, sizes (List.replicate k x) = k
  | 0 => rfl
  | k + 1 => by rw [List.replicate_succ, sizes, hx, sizes_rep x hx k]; omega
theorem deeps_rep (x : Ex) (hx : x.deep = 1) : ∀ k, deeps (List.replicate k x) ≤ 1
  | 0 => by simp [deeps]
  | k + 1 => by rw [List.replicate_succ, deeps, hx]; have := deeps_rep x hx k; omega
theorem whole_check {c : UInt8} (hc : c = 120 ∨ c = 97) (e : Ex) : checkExpr (wholeX c e) = if rightB (wholeX c e) then 0 else 2 := by
  have hb := kidsOf_bd e.kind
  have h1 : ¬ (200 < (wholeX c e).size ∨ 16 < (wholeX c e).deep) := by
    rw [Ex.size_eq, Ex.deep_eq]; have e1 : (wholeX c e).kids = List.replicate (kidsOf e.kind).toNat (standX c) := rfl; have h2 := deeps_rep (standX c) rfl (kidsOf e.kind).toNat; rw [e1, sizes_rep (standX c) rfl]; omega
  unfold checkExpr
  rw [if_neg h1, Ex.flat_eq]
  have e1 : (wholeX c e).kids = List.replicate (kidsOf e.kind).toNat (standX c) := rfl
  rw [e1, flats_rep (standX c) rfl, List.all_cons]
  have e2 : (List.replicate (kidsOf e.kind).toNat (standX c)).all rightB = true := by
    rw [List.all_eq_true]; intro x hx; rw [List.eq_of_mem_replicate hx]; exact stand_right hc
  rw [e2, Bool.and_true]
theorem whole_same (c d : UInt8) (e : Ex) : rightB (wholeX c e) = rightB (wholeX d e) := rightB_len (by simp)
structure OkNd (p : List Nd) (i : Nat) (x : Nd) : Prop where
  bare : x.ex.kids = []
  len : (x.ins.length : Int) = kidsOf x.ex.kind
  whole : checkQuery x.every (wholeX 120 x.ex) = 0
  ins : ∀ n ∈ x.ins, 1 ≤ n ∧ n ≤ (i : Int) ∧ ∃ y, p[n.toNat - 1]? = some y ∧ y.every = x.every
  new : x ∉ p.take i
def OkPlan (p : List Nd) : Prop := ∀ (i : Nat) (x : Nd), p[i]? = some x → OkNd p i x
noncomputable def ndCheck (p : List Nd) : Int := open Classical in if 1000 < p.length then 3 else if OkPlan p then 0 else 2
theorem ndCheck_ok {p : List Nd} (h : p.length ≤ 1000) (k : OkPlan p) : ndCheck p = 0 := by unfold ndCheck; rw [if_neg (by omega), if_pos k]
theorem ndCheck_0 {p : List Nd} (h : ndCheck p = 0) : p.length ≤ 1000 ∧ OkPlan p := by
  unfold ndCheck at h
  split at h
  · exact absurd h (by decide)
  · split at h
    · rename_i h1 h2; exact ⟨by omega, h2⟩
    · exact absurd h (by decide)
theorem bare_kind (e : Ex) : e.bare.kind = e.kind := rfl
theorem whole_bare (c : UInt8) (e : Ex) : wholeX c e.bare = wholeX c e := rfl
theorem plan_ok {L : List NX} (hL : Inv L) (hv : ∀ x ∈ L, checkQuery x.every x.full = 0) : OkPlan (L.map NX.nd) := by
  intro i n hn
  rw [List.getElem?_map] at hn
  obtain ⟨x, hx, rfl⟩ := Option.map_eq_some_iff.1 hn
  have hR := hL.kids i x hx
  have hc := hv x (List.mem_of_getElem? hx)
  have hc2 : (1 ≤ x.every ∧ x.every ≤ 1073741824) ∧ checkExpr x.full = 0 := by
    unfold checkQuery at hc
    split at hc
    · rename_i h; exact ⟨h, hc⟩
    · exact absurd hc (by decide)
  have hr : rightB x.full = true := by
    obtain ⟨-, h2⟩ := hc2; unfold checkExpr at h2
    split at h2
    · exact absurd h2 (by decide)
    · split at h2
      · rename_i h3
        rw [Ex.flat_eq, List.all_cons, Bool.and_eq_true] at h3; exact h3.1
      · exact absurd h2 (by decide)
  have hk := rightB_kids hr
  refine ⟨rfl, ?_, ?_, ?_, ?_⟩
  · show (x.ins.length : Int) = kidsOf x.full.kind
    rw [hR.len, hk]
  · show checkQuery x.every (wholeX 120 x.full.bare) = 0
    unfold checkQuery; rw [if_pos hc2.1, whole_bare, whole_check (Or.inl rfl)]; have : rightB (wholeX 120 x.full) = true := by
      rw [← hr]
      conv => rhs; rw [← withKids_kids x.full]
      exact rightB_len (by rw [List.length_replicate]; omega)
    rw [if_pos this]
  · intro m hm
    obtain ⟨e, -, h1⟩ := hR.mem m hm; obtain ⟨j, y, h2, rfl, h3, h4⟩ := h1; have hj := (List.getElem?_eq_some_iff.1 h2).1; have hi := (List.getElem?_eq_some_iff.1 hx).1; rw [List.length_take] at hj; refine ⟨by omega, by omega, y.nd, ?_, h3⟩; rw [show ((j : Int) + 1).toNat - 1 = j by omega, List.getElem?_map]; rw [List.getElem?_take_of_lt (by omega)] at h2; rw [h2]; rfl
  · intro hm
    rw [← List.map_take] at hm; obtain ⟨y, hy, hxy⟩ := List.mem_map.1 hm; obtain ⟨j, hj, hyj⟩ := List.getElem_of_mem hy; rw [List.length_take] at hj; have hy2 : L[j]? = some y := by
      rw [List.getElem_take] at hyj; rw [← hyj]; simp
    have hRy := (hL.kids j y hy2).drop; simp only [NX.nd, Nd.mk.injEq] at hxy; obtain ⟨h1, h2, h3⟩ := hxy; rw [h3] at hRy; have hf := ex_of_bare h2 (hRy.same hR.drop); have := hL.one j i y x hy2 hx h1 hf; omega
end Go.Proofs.YtdjdikiimhhjpaaGreatDoor
namespace Go.Proofs.YtdjdikiimhhjpaaGreatDoor
open Go.RowKit
set_option linter.unusedSimpArgs false
set_option linter.unusedVariables false
def marksIn : List Int → List Bool → List Bool
  | [], m => m
  | n :: r, m => marksIn r (m.set (n.toNat - 1) true)
def insAt (p : List Nd) (i : Nat) : List Int := match p[i]? with
  | some x => x.ins
  | none => []
def usedF (p : List Nd) : Nat → List Bool → List Bool
  | 0, m => m
  | i + 1, m => usedF p i (if m.getD i false then marksIn (insAt p i) m else m)
def markRoots (n : Nat) : List Int → List Bool → List Bool
  | [], m => m
  | r :: rs, m => markRoots n rs (if 1 ≤ r ∧ r ≤ (n : Int) then m.set (r.toNat - 1) true else m)
def usedL (p : List Nd) (roots : List Int) : List Bool := usedF p p.length (markRoots p.length roots (List.replicate p.length false))
def numsOf : List Bool → Int → List Int
  | [], _ => []
  | b :: r, i => if b then (i + 1) :: numsOf r (i + 1) else numsOf r (i + 1)
noncomputable def ndUsed (p : List Nd) (roots : List Int) : List Int := if ndCheck p = 0 then numsOf (usedL p roots) 0 else []
theorem marksIn_len : ∀ (l : List Int) (m : List Bool), (marksIn l m).length = m.length
  | [], m => rfl
  | n :: r, m => by rw [marksIn, marksIn_len r]; simp
theorem usedF_len (p : List Nd) : ∀ (k : Nat) (m : List Bool), (usedF p k m).length = m.length
  | 0, m => rfl
  | k + 1, m => by rw [usedF, usedF_len p k]; split; exact marksIn_len _ _; rfl
theorem markRoots_len (n : Nat) : ∀ (l : List Int) (m : List Bool), (markRoots n l m).length = m.length
  | [], m => rfl
  | r :: rs, m => by rw [markRoots, markRoots_len n rs]; split; simp; rfl
theorem getD_set {m : List Bool} {j i : Nat} (h : i < m.length) : (m.set j true).getD i false = (m.getD i false || decide (j = i)) := by
  simp only [List.getD_eq_getElem?_getD, List.getElem?_set]
  by_cases e : j = i
  · subst e; simp [h]
  · simp [e]
theorem marksIn_get : ∀ (l : List Int) (m : List Bool) (i : Nat), i < m.length → ((marksIn l m).getD i false = true ↔ m.getD i false = true ∨ ∃ n ∈ l, n.toNat - 1 = i)
  | [], m, i, h => by simp [marksIn]
  | n :: r, m, i, h => by
    rw [marksIn, marksIn_get r _ i (by simpa using h), getD_set h, Bool.or_eq_true, decide_eq_true_eq]; simp only [List.mem_cons, exists_eq_or_imp]
    constructor
    · rintro ((h1 | h1) | h1)
      · exact Or.inl h1
      · exact Or.inr (Or.inl h1)
      · exact Or.inr (Or.inr h1)
    · rintro (h1 | h1 | h1)
      · exact Or.inl (Or.inl h1)
      · exact Or.inl (Or.inr h1)
      · exact Or.inr h1
theorem markRoots_get (n : Nat) : ∀ (l : List Int) (m : List Bool) (i : Nat), i < m.length → ((markRoots n l m).getD i false = true ↔ m.getD i false = true ∨ ∃ r ∈ l, (1 ≤ r ∧ r ≤ (n : Int)) ∧ r.toNat - 1 = i)
  | [], m, i, h => by simp [markRoots]
  | r :: rs, m, i, h => by
    rw [markRoots]
    by_cases hr : 1 ≤ r ∧ r ≤ (n : Int)
    · rw [if_pos hr, markRoots_get n rs _ i (by simpa using h), getD_set h, Bool.or_eq_true, decide_eq_true_eq]
      simp only [List.mem_cons, exists_eq_or_imp, hr, true_and]
      constructor
      · rintro ((h1 | h1) | h1)
        · exact Or.inl h1
        · exact Or.inr (Or.inl h1)
        · exact Or.inr (Or.inr h1)
      · rintro (h1 | h1 | h1)
        · exact Or.inl (Or.inl h1)
        · exact Or.inl (Or.inr h1)
        · exact Or.inr h1
    · rw [if_neg hr, markRoots_get n rs _ i h]
      simp only [List.mem_cons, exists_eq_or_imp, hr, false_and, false_or]
def Ahead (p : List Nd) : Prop := ∀ (i : Nat), ∀ n ∈ insAt p i, 1 ≤ n ∧ n ≤ (i : Int)
theorem OkPlan.ahead {p : List Nd} (h : OkPlan p) : Ahead p := by
  intro i n hn
  unfold insAt at hn
  split at hn
  · rename_i x hx
    obtain ⟨a, b, -⟩ := (h i x hx).ins n hn; exact ⟨a, b⟩
  · simp at hn
theorem Ahead.none {p : List Nd} {i : Nat} (h : p.length ≤ i) : insAt p i = [] := by
  unfold insAt; rw [List.getElem?_eq_none h]
section
variable {p : List Nd}
theorem usedF_far (hA : Ahead p) : ∀ (k : Nat) (m : List Bool) (i : Nat), k ≤ i → i < m.length → (usedF p k m).getD i false = m.getD i false
  | 0, m, i, _, _ => rfl
  | k + 1, m, i, hk, hi => by
    rw [usedF]
    split
    · rw [usedF_far hA k _ i (by omega) (by rw [marksIn_len]; exact hi), Bool.eq_iff_iff, marksIn_get _ _ _ hi]
      constructor
      · rintro (h | ⟨n, hn, h⟩)
        · exact h
        · have := hA k n hn; omega
      · exact Or.inl
    · exact usedF_far hA k m i (by omega) hi
theorem usedF_more : ∀ (k : Nat) (m : List Bool) (i : Nat), i < m.length → m.getD i false = true → (usedF p k m).getD i false = true
  | 0, m, i, _, h => h
  | k + 1, m, i, hi, h => by
    rw [usedF]
    split
    · exact usedF_more k _ i (by rw [marksIn_len]; exact hi) ((marksIn_get _ _ _ hi).2 (Or.inl h))
    · exact usedF_more k m i hi h
theorem usedF_why (hA : Ahead p) : ∀ (k : Nat) (m : List Bool) (i : Nat), k ≤ m.length → i < m.length → (usedF p k m).getD i false = true → m.getD i false = true ∨ ∃ j n, j < k ∧ (usedF p k m).getD j false = true ∧ n ∈ insAt p j ∧ n.toNat - 1 = i
  | 0, m, i, _, _, h => Or.inl h
  | k + 1, m, i, hk, hi, h => by
    rw [usedF] at h ⊢
    by_cases hm : m.getD k false = true
    · rw [if_pos hm] at h ⊢
      have hl := marksIn_len (insAt p k) m; rcases usedF_why hA k _ i (by omega) (by omega) h with h1 | ⟨j, n, h1, h2, h3, h4⟩
      · rcases (marksIn_get _ _ _ hi).1 h1 with h1 | ⟨n, h3, h4⟩
        · exact Or.inl h1
        · refine Or.inr ⟨k, n, by omega, ?_, h3, h4⟩
          exact usedF_more k _ k (by omega) ((marksIn_get _ _ _ (by omega)).2 (Or.inl hm))
      · exact Or.inr ⟨j, n, by omega, h2, h3, h4⟩
    · rw [if_neg hm] at h ⊢
      rcases usedF_why hA k m i (by omega) hi h with h1 | ⟨j, n, h1, h2, h3, h4⟩
      · exact Or.inl h1
      · exact Or.inr ⟨j, n, by omega, h2, h3, h4⟩
theorem usedF_shut (hA : Ahead p) : ∀ (k : Nat) (m : List Bool) (j : Nat), k ≤ m.length → j < k → (usedF p k m).getD j false = true → ∀ n ∈ insAt p j, (usedF p k m).getD (n.toNat - 1) false = true
  | 0, m, j, _, hj, _, _, _ => by omega
  | k + 1, m, j, hk, hj, h, n, hn => by
    rw [usedF] at h ⊢
    by_cases hm : m.getD k false = true
    · rw [if_pos hm] at h ⊢
      have hl := marksIn_len (insAt p k) m
      by_cases e : j = k
      · subst e
        have := hA j n hn; exact usedF_more j _ _ (by omega) ((marksIn_get _ _ _ (by omega)).2 (Or.inr ⟨n, hn, rfl⟩))
      · exact usedF_shut hA k _ j (by omega) (by omega) h n hn
    · rw [if_neg hm] at h ⊢
      by_cases e : j = k
      · subst e
        rw [usedF_far hA j m j (Nat.le_refl _) (by omega)] at h; exact absurd h hm
      · exact usedF_shut hA k m j (by omega) (by omega) h n hn
theorem usedF_all : ∀ (k : Nat) (m : List Bool), k ≤ m.length → (∀ i, k ≤ i → i < m.length → m.getD i false = true) → (∀ i, i < k → m.getD i false = true ∨ ∃ j n, i < j ∧ j < k ∧ n ∈ insAt p j ∧ n.toNat - 1 = i) → ∀ i, i < m.length → (usedF p k m).getD i false = true
  | 0, m, _, h1, _, i, hi => h1 i (Nat.zero_le _) hi
  | k + 1, m, hk, h1, h2, i, hi => by
    have hm : m.getD k false = true := by
      rcases h2 k (by omega) with h | ⟨j, n, a, b, -⟩
      · exact h
      · omega
    rw [usedF, if_pos hm]; have hl := marksIn_len (insAt p k) m; refine usedF_all k _ (by omega) (fun i a b => ?_) (fun i a => ?_) i (by omega)
    · refine (marksIn_get _ _ _ (by omega)).2 (Or.inl ?_)
      by_cases e : i = k
      · rw [e]; exact hm
      · exact h1 i (by omega) (by omega)
    · rcases h2 i (by omega) with h | ⟨j, n, c, d, e, f⟩
      · exact Or.inl ((marksIn_get _ _ _ (by omega)).2 (Or.inl h))
      · by_cases ej : j = k
        · subst ej
          exact Or.inl ((marksIn_get _ _ _ (by omega)).2 (Or.inr ⟨n, e, f⟩))
        · exact Or.inr ⟨j, n, c, by omega, e, f⟩
end
theorem usedL_len (p : List Nd) (roots : List Int) : (usedL p roots).length = p.length := by
  unfold usedL; rw [usedF_len, markRoots_len, List.length_replicate]
def AllUsed (p : List Nd) (roots : List Int) : Prop := ∀ i, i < p.length → (i : Int) + 1 ∈ roots ∨ ∃ j n, i < j ∧ j < p.length ∧ n ∈ insAt p j ∧ n = (i : Int) + 1
theorem numsOf_all : ∀ (m : List Bool) (i : Int), (∀ k, k < m.length → m.getD k false = true) → (numsOf m i).length = m.length
  | [], _, _ => rfl
  | b :: r, i, h => by
    have h0 := h 0 (by simp); rw [List.getD_cons_zero] at h0; rw [numsOf, h0, if_pos rfl, List.length_cons, numsOf_all r (i + 1) (fun k hk => by simpa using h (k + 1) (by simpa using hk)), List.length_cons]
theorem used_all {p : List Nd} {roots : List Int} (h : AllUsed p roots) : ∀ i, i < p.length → (usedL p roots).getD i false = true := by
  intro i hi
  have hl : (markRoots p.length roots (List.replicate p.length false)).length = p.length := by rw [markRoots_len, List.length_replicate]
  unfold usedL
  refine usedF_all p.length _ (by omega) (fun i a b => by omega) (fun i a => ?_) i (by omega)
  rcases h i a with h | ⟨j, n, c, d, e, f⟩
  · exact Or.inl ((markRoots_get _ _ _ _ (by simpa using a)).2 (Or.inr ⟨_, h, by omega, by omega⟩))
  · exact Or.inr ⟨j, n, c, d, e, by omega⟩
theorem used_len {p : List Nd} {roots : List Int} (hc : ndCheck p = 0) (h : AllUsed p roots) : (ndUsed p roots).length = p.length := by
  unfold ndUsed
  rw [if_pos hc, numsOf_all _ _ (fun k hk => used_all h k (by rw [usedL_len] at hk; exact hk)), usedL_len]
end Go.Proofs.YtdjdikiimhhjpaaGreatDoor
namespace Go.Proofs.YtdjdikiimhhjpaaGreatDoor
open Go.RowKit
set_option linter.unusedSimpArgs false
set_option linter.unusedVariables false
/-! ### found again -/
theorem find_rep {L : List NX} (hL : Inv L) {ev : Int} {e : Ex} {n : Int} (h : Rep L ev e n) (ins : List Int) : addX ev e ins L = (L, n) := by
  unfold addX
  cases hf : findX ev e L 0 with
  | none =>
    obtain ⟨i, x, h1, -, h3⟩ := h; exact absurd h3 (findX_none.1 hf x (List.mem_of_getElem? h1))
  | some k =>
    obtain ⟨x, -, h2, h3⟩ := findX_some hf; have : Rep L ev e ((k : Int) + 1) := ⟨k, x, by simpa using h2, rfl, h3⟩; simp only; rw [this.one hL h]
theorem Rep.kids {L : List NX} (hL : Inv L) {ev : Int} {e : Ex} {n : Int} (h : Rep L ev e n) : ∃ ns, Reps L ev e.kids ns := by
  obtain ⟨i, x, h1, -, rfl, rfl⟩ := h
  exact ⟨x.ins, (hL.kids i x h1).drop⟩
theorem putX_found (ev : Int) : ∀ (e : Ex) (L : List NX) (n : Int), Inv L → Rep L ev e n → putX ev e L = (L, n) := by
  refine Ex.ind fun e ih => ?_
  intro L n hL h
  have hks : ∀ (ks : List Ex) (ns : List Int), (∀ k ∈ ks, ∀ (L : List NX) (n : Int), Inv L → Rep L ev k n → putX ev k L = (L, n)) → Reps L ev ks ns → putXs ev ks L = (L, ns) := by
    intro ks
    induction ks with
    | nil => intro ns _ h; cases ns with
      | nil => rfl
      | cons _ _ => exact h.elim
    | cons k ks ih2 =>
      intro ns hh h; cases ns with
      | nil => exact h.elim
      | cons n ns =>
        rw [putXs, hh k (by simp) L n hL h.1, ih2 ns (fun k hk => hh k (by simp [hk])) h.2]
  obtain ⟨ns, hns⟩ := h.kids hL
  rw [putX_eq, hks e.kids ns (fun k hk L n => ih k hk L n) hns]
  exact find_rep hL h ns
theorem putXs_found (ev : Int) {L : List NX} (hL : Inv L) : ∀ (ks : List Ex) (ns : List Int), Reps L ev ks ns → putXs ev ks L = (L, ns)
  | [], [], _ => rfl
  | k :: ks, n :: ns, h => by rw [putXs, putX_found ev k L n hL h.1, putXs_found ev hL ks ns h.2]
  | [], _ :: _, h => h.elim
  | _ :: _, [], h => h.elim
/-! ### what is new -/
theorem putX_new (ev : Int) : ∀ (e : Ex) (L : List NX), ∀ x ∈ (putX ev e L).1, x ∈ L ∨ (x.every = ev ∧ x.full ∈ e.flat) := by
  refine Ex.ind fun e ih => ?_
  intro L x hx
  have hks : ∀ (ks : List Ex), (∀ k ∈ ks, ∀ L, ∀ x ∈ (putX ev k L).1, x ∈ L ∨ (x.every = ev ∧ x.full ∈ k.flat)) → ∀ L, ∀ x ∈ (putXs ev ks L).1, x ∈ L ∨ (x.every = ev ∧ x.full ∈ flats ks) := by
    intro ks
    induction ks with
    | nil => intro _ L x hx; exact Or.inl hx
    | cons k ks ih2 =>
      intro h L x hx; rw [putXs] at hx; rcases ih2 (fun k hk => h k (by simp [hk])) _ x hx with h1 | ⟨h1, h2⟩
      · rcases h k (by simp) L x h1 with h1 | ⟨h1, h2⟩
        · exact Or.inl h1
        · exact Or.inr ⟨h1, by simp [flats, h2]⟩
      · exact Or.inr ⟨h1, by simp [flats, h2]⟩
  rw [putX_eq] at hx
  have h2 := hks e.kids (fun k hk L => ih k hk L) L
  unfold addX at hx
  have h3 : x ∈ (putXs ev e.kids L).1 ∨ x = ⟨ev, e, (putXs ev e.kids L).2⟩ := by
    split at hx
    · exact Or.inl hx
    · simpa using hx
  rcases h3 with h3 | rfl
  · rcases h2 x h3 with h4 | ⟨h4, h5⟩
    · exact Or.inl h4
    · exact Or.inr ⟨h4, by rw [Ex.flat_eq]; simp [h5]⟩
  · exact Or.inr ⟨rfl, by rw [Ex.flat_eq]; simp⟩
theorem flat_size : ∀ (e : Ex), ∀ x ∈ e.flat, x.size ≤ e.size := by
  refine Ex.ind fun e ih => ?_
  intro x hx
  rw [Ex.flat_eq] at hx
  rcases List.mem_cons.1 hx with rfl | hx
  · exact Nat.le_refl _
  · have hks : ∀ ks : List Ex, (∀ k ∈ ks, ∀ x ∈ k.flat, x.size ≤ k.size) → ∀ x ∈ flats ks, x.size ≤ sizes ks := by
      intro ks
      induction ks with
      | nil => intro _ x hx; simp [flats] at hx
      | cons k ks ih2 =>
        intro h x hx; simp only [flats, List.mem_append] at hx; rcases hx with hx | hx
        · have := h k (by simp) x hx; simp [sizes]; omega
        · have := ih2 (fun k hk => h k (by simp [hk])) x hx; simp [sizes]; omega
    have := hks e.kids ih x hx; rw [e.size_eq]; omega
theorem flats_size (ks : List Ex) : ∀ x ∈ flats ks, x.size ≤ sizes ks := by
  induction ks with
  | nil => intro x hx; simp [flats] at hx
  | cons k ks ih =>
    intro x hx; simp only [flats, List.mem_append] at hx; rcases hx with hx | hx
    · have := flat_size k x hx; simp [sizes]; omega
    · have := ih x hx; simp [sizes]; omega
theorem putXs_new (ev : Int) : ∀ (ks : List Ex) (L : List NX), ∀ x ∈ (putXs ev ks L).1, x ∈ L ∨ (x.every = ev ∧ x.full ∈ flats ks)
  | [], L, x, hx => Or.inl hx
  | k :: ks, L, x, hx => by
    rw [putXs] at hx; rcases putXs_new ev ks _ x hx with h1 | ⟨h1, h2⟩
    · rcases putX_new ev k L x h1 with h1 | ⟨h1, h2⟩
      · exact Or.inl h1
      · exact Or.inr ⟨h1, by simp [flats, h2]⟩
    · exact Or.inr ⟨h1, by simp [flats, h2]⟩
/-! ### each node feeds one, or is a root -/
def Feeds (L : List NX) (b : Nat) (ns : List Int) : Prop := ∀ i, b ≤ i → i < L.length → (i : Int) + 1 ∈ ns ∨ ∃ j x, i < j ∧ L[j]? = some x ∧ (i : Int) + 1 ∈ x.ins
theorem Feeds.app {L R : List NX} {b : Nat} {ns ms : List Int} (h : Feeds L b ns) (k : Feeds (L ++ R) L.length ms) : Feeds (L ++ R) b (ns ++ ms) := by
  intro i hb hi
  by_cases hl : i < L.length
  · rcases h i hb hl with h1 | ⟨j, x, h1, h2, h3⟩
    · exact Or.inl (by simp [h1])
    · exact Or.inr ⟨j, x, h1, by rw [List.getElem?_append_left (List.getElem?_eq_some_iff.1 h2).1]; exact h2, h3⟩
  · rcases k i (by omega) hi with h1 | h1
    · exact Or.inl (by simp [h1])
    · exact Or.inr h1
theorem Feeds.stay {L : List NX} {ns : List Int} : Feeds L L.length ns := fun i hb hi => by omega
theorem putX_feeds (ev : Int) : ∀ (e : Ex) (L : List NX), Inv L → Feeds (putX ev e L).1 L.length [(putX ev e L).2] := by
  refine Ex.ind fun e ih => ?_
  intro L hL
  have hks : ∀ (ks : List Ex), (∀ k ∈ ks, ∀ L, Inv L → Feeds (putX ev k L).1 L.length [(putX ev k L).2]) → ∀ L, Inv L → Feeds (putXs ev ks L).1 L.length (putXs ev ks L).2 := by
    intro ks
    induction ks with
    | nil => intro _ L _; exact Feeds.stay
    | cons k ks ih2 =>
      intro h L hL; have h1 := h k (by simp) L hL; have h2 := ih2 (fun k hk => h k (by simp [hk])) _ (putX_inv ev k L hL).1; obtain ⟨R, hR, -⟩ := putXs_grow ev ks (putX ev k L).1; rw [putXs]; rw [hR] at h2 ⊢; exact h1.app h2
  have h2 := hks e.kids (fun k hk L => ih k hk L) L hL
  obtain ⟨i1, i2⟩ := putXs_inv ev e.kids L hL
  rw [putX_eq]
  unfold addX
  cases hf : findX ev e (putXs ev e.kids L).1 0 with
  | some k =>
    obtain ⟨x, -, h3, h4, h5⟩ := findX_some hf; simp only [Nat.sub_zero] at h3; simp only; have hx : x ∈ L := by
      rcases putXs_new ev e.kids L x (List.mem_of_getElem? h3) with h | ⟨-, h⟩
      · exact h
      · have := flats_size e.kids _ h
        rw [h5, e.size_eq] at this; omega
    obtain ⟨j, hj, rfl⟩ := List.getElem_of_mem hx; have hrep : Rep L ev e ((j : Int) + 1) := ⟨j, _, by simp, rfl, h4, h5⟩; obtain ⟨ns, hns⟩ := hrep.kids hL; rw [putXs_found ev hL e.kids ns hns]; exact Feeds.stay
  | none =>
    intro i hb hi; simp only at hi ⊢; rw [List.length_append, List.length_singleton] at hi
    by_cases he : i = (putXs ev e.kids L).1.length
    · exact Or.inl (by simp [he])
    · rcases h2 i hb (by omega) with h3 | ⟨j, x, h3, h4, h5⟩
      · exact Or.inr ⟨(putXs ev e.kids L).1.length, ⟨ev, e, (putXs ev e.kids L).2⟩, by omega, by simp, h3⟩
      · exact Or.inr ⟨j, x, h3, by rw [List.getElem?_append_left (List.getElem?_eq_some_iff.1 h4).1]; exact h4, h5⟩
theorem putQs_feeds : ∀ (l : List (Int × Ex)) (L : List NX), Inv L → Feeds (putQs l L).1 L.length (putQs l L).2
  | [], L, _ => Feeds.stay
  | q :: r, L, hL => by
    have h1 := putX_feeds q.1 q.2 L hL; have h2 := putQs_feeds r _ (putX_inv q.1 q.2 L hL).1; obtain ⟨R, hR⟩ := putQs_grow r (putX q.1 q.2 L).1; rw [putQs]; rw [hR] at h2 ⊢; exact h1.app h2
theorem feeds_all {L : List NX} {roots : List Int} (h : Feeds L 0 roots) : AllUsed (L.map NX.nd) roots := by
  intro i hi
  rw [List.length_map] at hi
  rcases h i (Nat.zero_le _) hi with h | ⟨j, x, h1, h2, h3⟩
  · exact Or.inl h
  · refine Or.inr ⟨j, (i : Int) + 1, h1, by rw [List.length_map]; exact (List.getElem?_eq_some_iff.1 h2).1, ?_, rfl⟩
    unfold insAt; rw [List.getElem?_map, h2]; exact h3
/-! ### queries -/
def RepQs (L : List NX) : List (Int × Ex) → List Int → Prop
  | [], [] => True
  | q :: r, n :: ns => Rep L q.1 q.2 n ∧ RepQs L r ns
  | [], _ :: _ => False
  | _ :: _, [] => False
theorem RepQs.app {L : List NX} (R : List NX) : ∀ {l : List (Int × Ex)} {ns : List Int}, RepQs L l ns → RepQs (L ++ R) l ns
  | [], [], _ => trivial
  | _ :: _, _ :: _, h => ⟨h.1.app R, RepQs.app R h.2⟩
  | [], _ :: _, h => h.elim
  | _ :: _, [], h => h.elim
theorem RepQs.get {L : List NX} : ∀ {l : List (Int × Ex)} {ns : List Int}, RepQs L l ns → ns.length = l.length ∧ ∀ (i : Nat) (q : Int × Ex), l[i]? = some q → ∃ n, ns[i]? = some n ∧ Rep L q.1 q.2 n
  | [], [], _ => ⟨rfl, fun i q h => by simp at h⟩
  | q :: r, n :: ns, h => by
    obtain ⟨h1, h2⟩ := RepQs.get h.2; refine ⟨by simp [h1], fun i q' hi => ?_⟩; cases i with
    | zero => simp only [List.getElem?_cons_zero, Option.some.injEq] at hi; subst hi; exact ⟨n, rfl, h.1⟩
    | succ i => rw [List.getElem?_cons_succ] at hi ⊢; exact h2 i q' hi
  | [], _ :: _, h => h.elim
  | _ :: _, [], h => h.elim
theorem putQs_rep : ∀ (l : List (Int × Ex)) (L : List NX), Inv L → RepQs (putQs l L).1 l (putQs l L).2
  | [], L, _ => trivial
  | q :: r, L, hL => by
    obtain ⟨h1, h2⟩ := putX_inv q.1 q.2 L hL; obtain ⟨R, hR⟩ := putQs_grow r (putX q.1 q.2 L).1; rw [putQs]; exact ⟨by rw [hR]; exact h2.app R, putQs_rep r _ h1⟩
theorem putQs_found {L : List NX} (hL : Inv L) : ∀ (l : List (Int × Ex)) (ns : List Int), RepQs L l ns → putQs l L = (L, ns)
  | [], [], _ => rfl
  | q :: r, n :: ns, h => by rw [putQs, putX_found q.1 q.2 L n hL h.1, putQs_found hL r ns h.2]
  | [], _ :: _, h => h.elim
  | _ :: _, [], h => h.elim
theorem putQs_app : ∀ (l r : List (Int × Ex)) (L : List NX), putQs (l ++ r) L = ((putQs r (putQs l L).1).1, (putQs l L).2 ++ (putQs r (putQs l L).1).2)
  | [], r, L => rfl
  | q :: l, r, L => by rw [List.cons_append, putQs, putQs_app l r, putQs]; rfl
theorem putQs_new : ∀ (l : List (Int × Ex)) (L : List NX), ∀ x ∈ (putQs l L).1, x ∈ L ∨ ∃ q ∈ l, x.every = q.1 ∧ x.full ∈ q.2.flat
  | [], L, x, hx => Or.inl hx
  | q :: r, L, x, hx => by
    rw [putQs] at hx; rcases putQs_new r _ x hx with h | ⟨q', h1, h2⟩
    · rcases putX_new q.1 q.2 L x h with h | h
      · exact Or.inl h
      · exact Or.inr ⟨q, by simp, h⟩
    · exact Or.inr ⟨q', by simp [h1], h2⟩
/-! ### a node's whole expression -/
def noX : Ex := .mk 0 0 0 0 ⟨#[]⟩ [] 0 [] []
def exprN (p : List Nd) : Nat → Nat → Ex
  | 0, _ => noX
  | f + 1, i => match p[i]? with
    | some x => x.ex.withKids (x.ins.map fun n => exprN p f (n.toNat - 1))
    | none => noX
theorem exprN_full {L : List NX} (hL : Inv L) : ∀ (f i : Nat) (x : NX), i < f → L[i]? = some x → exprN (L.map NX.nd) f i = x.full := by
  intro f
  induction f with
  | zero => intro i x h; omega
  | succ f ih =>
    intro i x hf hx; rw [exprN, List.getElem?_map, hx]; simp only [Option.map_some, NX.nd]; have hR := hL.kids i x hx; have key : ∀ (es : List Ex) (ns : List Int), Reps (L.take i) x.every es ns → (ns.map fun n => exprN (L.map NX.nd) f (n.toNat - 1)) = es := by
      intro es
      induction es with
      | nil => intro ns h; cases ns with
        | nil => rfl
        | cons _ _ => exact h.elim
      | cons e es ih2 =>
        intro ns h; cases ns with
        | nil => exact h.elim
        | cons n ns =>
          rw [List.map_cons, ih2 ns h.2]; obtain ⟨j, y, h1, rfl, h3, h4⟩ := h.1; have hj := (List.getElem?_eq_some_iff.1 h1).1; rw [List.length_take] at hj; rw [List.getElem?_take_of_lt (by omega)] at h1; rw [show ((j : Int) + 1).toNat - 1 = j by omega, ih j y (by omega) h1, h4]
    rw [key _ _ hR]; exact withKids_kids x.full
end Go.Proofs.YtdjdikiimhhjpaaGreatDoor
