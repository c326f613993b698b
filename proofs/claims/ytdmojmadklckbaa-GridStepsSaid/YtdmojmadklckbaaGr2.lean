/- grid: Next, First, Last. -/
import Derived.Test.YtdmojmadklckbaaGr1
import Derived.Test.YtdmojmadklckbaaIter4
namespace Go.Proofs.Ytdmojmadklckbaa
open Go.Shelf
open Go.RowKit
set_option linter.unusedSimpArgs false
set_option linter.unusedVariables false
attribute [local go_sem] Oper.semAt_some

theorem cell_put {W : World} {D : Nat} {o' : Obj} {b off : Nat} {x : Value} (h : W.cell? ⟨b, off, none⟩ = some x) (hne : b ≠ D) : (W.putObj D o').cell? ⟨b, off, none⟩ = some x := by
  rw [World.cell?_of_block (w := W) (a := ⟨b, off, none⟩) (World.putObj_heap_other hne)]
  exact h
/-- Two scalars are stored into cells of their own. -/
theorem set2 {W : World} {a b : Nat} (hab : a ≠ b) {u v u' v' : Value} (ha : W.cell? ⟨a, 0, none⟩ = some u) (hb : W.cell? ⟨b, 0, none⟩ = some v) :
    ((W.setCell ⟨a, 0, none⟩ u').setCell ⟨b, 0, none⟩ v').cell? ⟨a, 0, none⟩ = some u' ∧ ((W.setCell ⟨a, 0, none⟩ u').setCell ⟨b, 0, none⟩ v').cell? ⟨b, 0, none⟩ = some v' := by
  refine ⟨?_, ?_⟩
  · rw [World.cell?_setCell_other _ _ _ _ (by intro e; cases e; exact hab rfl), World.cell?_setCell_same' _ _ _ (by rw [ha]; rfl)]
  · rw [World.cell?_setCell_same' _ _ _ (by rw [World.cell?_setCell_other _ _ _ _ (by intro e; cases e; exact hab rfl), hb]; rfl)]
theorem heap_set2 {W : World} {a b D : Nat} (ha : a ≠ D) (hb : b ≠ D) {u v : Value} {o : Obj} (h : W.heap[D]? = some o) : ((W.setCell ⟨a, 0, none⟩ u).setCell ⟨b, 0, none⟩ v).heap[D]? = some o := by
  rw [Below.heap_setCell _ _ _ _ (Ne.symm hb), Below.heap_setCell _ _ _ _ (Ne.symm ha)]; exact h

/-- What Next answers. -/
def nextV (ev mark : Int) : Value := match nextT ev mark with
  | some t => .tuple #[.int .i64 t, .bool true]
  | none => .tuple #[.int .i64 0, .bool false]

set_option maxRecDepth 100000 in
set_option maxHeartbeats 4000000 in
theorem gNext (ev mark : Int) (e : Ex) (cs : List Value) (w : World) (he : QCells e cs) (hmk : -9223372036854775808 ≤ mark ∧ mark ≤ 9223372036854775807) :
    Calls Try.prog 15 #[.agg (.int .i64 ev :: cs).toArray, .int .i64 mark] w fun e' w' => e' = .returned (nextV ev mark) ∧ Below w.heap.size w w' := by
  refine (callsIn_wide (n := 9)).1 ?_
  have HT := Lib.hid (fun wx => gTimes ev mark e cs wx he)
  have He := Lib.hid he
  obtain ⟨pm, cm, pn, cn, pk, ck, rfl⟩ := he
  refine callsIn_of_wp_marks Try.func15 rfl trivial ?_ rfl; simp only [Try.ntmps15, List.size_toArray, List.length_cons, List.length_nil, Nat.reduceAdd, Nat.reduceSub, Array.replicate_succ, Array.replicate_zero, List.push_toArray, List.append_toArray, List.nil_append, List.cons_append]; (try simp only [List.append_eq, List.cons_append, List.nil_append])
  gi_wp2_with ((try refine ⟨trivial, ?_⟩); gi_at_call 39; refine (callsIn_wide.2 (HT.out _)).mono ?_; rintro e' w' ⟨rfl, rfl⟩)
  obtain ⟨W3, hW3⟩ : ∃ W3, ((((w.alloc (.cells #[.int .i64 ev, .int .i64 e.kind, .int .i64 e.fn, .int .i64 e.op, .int .i64 e.num, .string e.metric, .slice pm e.mats.length cm, .int .i64 e.span, .slice pn e.names.length cn, .slice pk e.kids.length ck] 28)).alloc (.cells #[.int .i64 0] 2)).alloc (.cells #[.bool false] 4)).alloc (.cells #[.int .i64 ev, .int .i64 e.kind, .int .i64 e.fn, .int .i64 e.op, .int .i64 e.num, .string e.metric, .slice pm e.mats.length cm, .int .i64 e.span, .slice pn e.names.length cn, .slice pk e.kids.length ck] 28)).alloc (.cells #[.int .i64 mark] 2) = W3 := ⟨_, rfl⟩
  have hbw : Below w.heap.size w W3 := by rw [← hW3]; exact (((((Below.refl _ _).alloc (Nat.le_refl _) _).alloc (by simp) _).alloc (by simp; omega) _).alloc (by simp; omega) _).alloc (by simp; omega) _
  have hsz3 : W3.heap.size = w.heap.size + 5 := by rw [← hW3]; simp
  have hc1 : W3.cell? ⟨w.heap.size + 1, 0, none⟩ = some (.int .i64 0) := by rw [← hW3]; simp [go_sem]
  have hf1 : W3.frozen? ⟨w.heap.size + 1, 0, none⟩ = false := by rw [← hW3]; simp [go_sem]
  have hc2 : W3.cell? ⟨w.heap.size + 2, 0, none⟩ = some (.bool false) := by rw [← hW3]; simp [go_sem]
  have hf2 : W3.frozen? ⟨w.heap.size + 2, 0, none⟩ = false := by rw [← hW3]; simp [go_sem]
  have hBq : Box W3 (w.heap.size + 3) [.int .i64 ev, .int .i64 e.kind, .int .i64 e.fn, .int .i64 e.op, .int .i64 e.num, .string e.metric, .slice pm e.mats.length cm, .int .i64 e.span, .slice pn e.names.length cn, .slice pk e.kids.length ck] := by
    rw [← hW3]
    refine Box.keep ?_ ((Below.refl _ _).alloc (Nat.le_refl _) _)
    have := Box.new (((w.alloc (.cells #[.int .i64 ev, .int .i64 e.kind, .int .i64 e.fn, .int .i64 e.op, .int .i64 e.num, .string e.metric, .slice pm e.mats.length cm, .int .i64 e.span, .slice pn e.names.length cn, .slice pk e.kids.length ck] 28)).alloc (.cells #[.int .i64 0] 2)).alloc (.cells #[.bool false] 4)) [.int .i64 ev, .int .i64 e.kind, .int .i64 e.fn, .int .i64 e.op, .int .i64 e.num, .string e.metric, .slice pm e.mats.length cm, .int .i64 e.span, .slice pn e.names.length cn, .slice pk e.kids.length ck] 28
    simpa using this
  have hBm : Box W3 (w.heap.size + 4) [.int .i64 mark] := by
    rw [← hW3]
    have := Box.new ((((w.alloc (.cells #[.int .i64 ev, .int .i64 e.kind, .int .i64 e.fn, .int .i64 e.op, .int .i64 e.num, .string e.metric, .slice pm e.mats.length cm, .int .i64 e.span, .slice pn e.names.length cn, .slice pk e.kids.length ck] 28)).alloc (.cells #[.int .i64 0] 2)).alloc (.cells #[.bool false] 4)).alloc (.cells #[.int .i64 ev, .int .i64 e.kind, .int .i64 e.fn, .int .i64 e.op, .int .i64 e.num, .string e.metric, .slice pm e.mats.length cm, .int .i64 e.span, .slice pn e.names.length cn, .slice pk e.kids.length ck] 28)) [.int .i64 mark] 2
    simpa using this
  rw [hW3]
  have HW3 := Lib.hid hW3; clear hW3
  have Hsz3 := Lib.hid hsz3; clear hsz3
  have HBq := Lib.hid hBq; clear hBq
  have HBm := Lib.hid hBm; clear hBm
  have hq1 : w.heap.size + 3 < W3.heap.size := by have := Hsz3.out; omega
  refine wpIn_rangeFunc_ownF rfl (by omega) (gf := 54) (lb := #[.pointer (some ⟨w.heap.size + 3, 0, none⟩), .pointer (some ⟨w.heap.size + 4, 0, none⟩)]) rfl trivial (enters_of Try.func54 (by kernel_rfl) rfl)
    (timesStops ev mark e _ W3 8 (w.heap.size + 3) (w.heap.size + 4) He.out hmk HBq.out HBm.out hq1) (fun h k => ⟨h.1.trans k.1, Nat.le_trans h.2 k.2⟩)
    (fun W l o o' _ ho hcl _ => ⟨KpB.put W l o o' ho hcl, by simp⟩) (Below.refl _ _) (fun _ => rfl)
    (fun xs W => (xs = [] ∧ W.cell? ⟨w.heap.size + 1, 0, none⟩ = some (.int .i64 0) ∧ W.frozen? ⟨w.heap.size + 1, 0, none⟩ = false ∧ W.cell? ⟨w.heap.size + 2, 0, none⟩ = some (.bool false) ∧ W.frozen? ⟨w.heap.size + 2, 0, none⟩ = false) ∧ Below w.heap.size w W)
    (fun c xs W => (∃ x, c = .ret ∧ xs = [x] ∧ W.cell? ⟨w.heap.size + 1, 0, none⟩ = some (.int .i64 x) ∧ W.cell? ⟨w.heap.size + 2, 0, none⟩ = some (.bool true)) ∧ Below w.heap.size w W)
    (OwnFrom.and (Own.from (fun s A B row hs hg hr => ⟨hs.1, cell_kept hs.2.1 hg hr, (frozen_kept hs.2.1 hg hr).trans hs.2.2.1, cell_kept hs.2.2.2.1 hg hr, (frozen_kept hs.2.2.2.1 hg hr).trans hs.2.2.2.2⟩) _) (ownFrom_below (Nat.le_refl _) (by have := Hsz3.out; omega)))
    (fun c => OwnFrom.and (Own.from (fun s A B row hs hg hr => by obtain ⟨x, h1, h2, h3, h4⟩ := hs; exact ⟨x, h1, h2, cell_kept h3 hg hr, cell_kept h4 hg hr⟩) _) (ownFrom_below (Nat.le_refl _) (by have := Hsz3.out; omega)))
    ⟨⟨rfl, hc1, hf1, hc2, hf2⟩, hbw⟩
    (fun x => { tmps := #[.agg ([.int .i64 ev, .int .i64 e.kind, .int .i64 e.fn, .int .i64 e.op, .int .i64 e.num, .string e.metric, .slice pm e.mats.length cm, .int .i64 e.span, .slice pn e.names.length cn, .slice pk e.kids.length ck]).toArray, .int .i64 mark, .pointer (some ⟨w.heap.size, 0, none⟩), undef, .pointer (some ⟨w.heap.size + 1, 0, none⟩), .pointer (some ⟨w.heap.size + 2, 0, none⟩), .int .i64 x, .agg ([.int .i64 ev, .int .i64 e.kind, .int .i64 e.fn, .int .i64 e.op, .int .i64 e.num, .string e.metric, .slice pm e.mats.length cm, .int .i64 e.span, .slice pn e.names.length cn, .slice pk e.kids.length ck]).toArray, .int .i64 mark, .func (.func 54) #[] #[.pointer (some ⟨w.heap.size + 3, 0, none⟩), .pointer (some ⟨w.heap.size + 4, 0, none⟩)], .int .i64 x, undef], defers := [] })
    ?assign ?body ?done ?stop
  case assign =>
    intro l x W K hK
    gi_wp2
    simpa using hK
  case body =>
    rintro l pre x W ⟨⟨rfl, k1, k2, k3, k4⟩, hb⟩ hlen
    gi_wp2
    have h2 := set2 (W := W) (a := w.heap.size + 1) (b := w.heap.size + 2) (by omega) k1 k3 (u' := .int .i64 x) (v' := .bool true)
    exact ⟨(KeepsOthers.setCell _ _ _).trans (KeepsOthers.setCell _ _ _), ⟨x, rfl, rfl, h2.1, h2.2⟩, (hb.setCell (by simp) _).setCell (by simp) _⟩
  case done =>
    rintro D ys W hD hys ⟨⟨rfl, k1, k2, k3, k4⟩, hb⟩ hK
    gi_wp2
    have hD1 : w.heap.size + 2 < D := by have := Hsz3.out; omega
    have h2 := set2 (W := W) (a := w.heap.size + 1) (b := w.heap.size + 2) (by omega) k1 k3 (u' := .int .i64 0) (v' := .bool false)
    have hK2 := heap_set2 (W := W) (a := w.heap.size + 1) (b := w.heap.size + 2) (D := D) (by omega) (by omega) (u := .int .i64 0) (v := .bool false) hK
    have hb2 : Below w.heap.size w ((W.setCell ⟨w.heap.size + 1, 0, none⟩ (.int .i64 0)).setCell ⟨w.heap.size + 2, 0, none⟩ (.bool false)) := (hb.setCell (by simp) _).setCell (by simp) _
    have hn : nextT ev mark = none := by
      have := congrArg List.length hys
      rw [ticks_length] at this
      rw [nextT_eq, if_neg (by simpa using this.symm)]
    refine ⟨by simp, .inl ⟨_, _, rfl, run_takeDeferred hK2, ?_⟩⟩
    have d1 := cell_put (o' := .deferred none) h2.1 (show w.heap.size + 1 ≠ D by omega)
    have d2 := cell_put (o' := .deferred none) h2.2 (show w.heap.size + 2 ≠ D by omega)
    refine ⟨nextV ev mark, by simp [results, Try.results15, go_sem, d1, d2, nextV, hn], rfl, hb2.trans (belowK_b (w := w) (Nat.le_refl _) _ D _ _ (by omega) hK2 rfl rfl)⟩
  case stop =>
    rintro D c pre W hD hpre ⟨⟨x, rfl, rfl, k1, k2⟩, hb⟩ hK
    gi_wp2
    have hD1 : w.heap.size + 2 < D := by have := Hsz3.out; omega
    have hn : nextT ev mark = some x := by
      obtain ⟨j, hj0, hj1, hj⟩ := hpre
      have := congrArg List.length hj
      rw [ticks_length] at this
      obtain rfl : j = 1 := by simpa using this.symm
      rw [nextT_eq, if_pos (by omega)]
      simp [ticks, tk] at hj
      rw [hj]
    refine ⟨by simp, .inl ⟨_, _, rfl, run_takeDeferred hK, ?_⟩⟩
    have d1 := cell_put (o' := .deferred none) k1 (show w.heap.size + 1 ≠ D by omega)
    have d2 := cell_put (o' := .deferred none) k2 (show w.heap.size + 2 ≠ D by omega)
    refine ⟨nextV ev mark, by simp [results, Try.results15, go_sem, d1, d2, nextV, hn], rfl, hb.trans (belowK_b (w := w) (Nat.le_refl _) _ D _ _ (by omega) hK rfl rfl)⟩

end Go.Proofs.Ytdmojmadklckbaa
